/-
  No cell of these rows narrows 'for every input' (looked for: loops, veiled, ifaces, maps, wideKeys, modest, calm, conditions, laid).
  DERIVED. THE GIVEN ROWS OF THIS SEAT. 5 by the template 'for every input the law returns true; each argument reads behind the call as it read before'; 0 by the template 'total and deterministic' (their statements: YtnnnilpgnjndlaaTotals.lean).
  GIVEN WITH THE SEED: the statements are not yours to turn. If you find one false, say at which input.
  Laid BY PROGRAM, IN A SANDBOX (cutbox-rows.mjs): the forced cells as the released guide's own fill.sh prints them over the translation 3c51874639f307e9… (all of the seat's roots in one cut). By AI agents, Wed Nov 11 2026. No macro, syntax, notation, axiom, sorry.
-/
import Derived.Test.YtnnnilpgnjndlaaChecked
import GoSem.Claim
import GoSem.ClaimJoined
import GoSem.ClaimMapViews
import Derived.JoinedTies
import Derived.KernelRfl
namespace Go.Proofs.Ytnnnilpgnjndlaa
/- THE CELL 'sum', in the pinned program and in every row, IS THE sha256 OF THE DUMP (.gsa) THAT YtnnnilpgnjndlaaProg.lean LOADS. Nothing in Lean hashes anything: it is a label: what it is worth is what the hold of that sum in a sandbox is worth. -/
noncomputable def Try.pinned : Pinned := { name := "ytnnnilpgnjndlaa", sum := "3c51874639f307e9b5ab90e04d866b00bd6db126db5c330cc9fcdbb6eaba4b5b", checked := Try.checked }
namespace Rows
def none {H : Type} : Left H := { results := [], args := [] }

/-- 'chroniclelaw22.ShipBytes': WHATEVER THE INPUT: true; the input reads as it did. -/
def shipBytesSpec : ChangeSpec := { name := "shipBytes", fn := fun _ => fun
  | [d1, d2, d3] => { results := [.lit (.bool true)], args := [d1, d2, d3] }
  | _ => none }
def shipBytesRow : OpenClaim := { program := "ytnnnilpgnjndlaa", sum := "3c51874639f307e9b5ab90e04d866b00bd6db126db5c330cc9fcdbb6eaba4b5b", func := "chronicle/chroniclelaw22.ShipBytes", spec := "shipBytes", inPlace := ["math.Float64bits", "math.Float64frombits"], apart := false }
def ShipBytesSaid : Prop := shipBytesRow.holds Try.pinned (OpenSpec.ofChange shipBytesSpec)

/-- ITS FALSE NEIGHBOUR: 'it returns false'. Refute it at one input. -/
def shipBytesWrong : ChangeSpec := { name := "shipBytes", fn := fun _ => fun
  | [d1, d2, d3] => { results := [.lit (.bool false)], args := [d1, d2, d3] }
  | _ => none }
def ShipBytesWrongFalsely : Prop := shipBytesRow.holds Try.pinned (OpenSpec.ofChange shipBytesWrong)

/-- 'chroniclelaw22.ShipJoins': WHATEVER THE INPUT: true; the input reads as it did. -/
def shipJoinsSpec : ChangeSpec := { name := "shipJoins", fn := fun _ => fun
  | [d1, d2, d3] => { results := [.lit (.bool true)], args := [d1, d2, d3] }
  | _ => none }
def shipJoinsRow : OpenClaim := { program := "ytnnnilpgnjndlaa", sum := "3c51874639f307e9b5ab90e04d866b00bd6db126db5c330cc9fcdbb6eaba4b5b", func := "chronicle/chroniclelaw22.ShipJoins", spec := "shipJoins", inPlace := ["math.Float64bits", "math.Float64frombits"], apart := false }
def ShipJoinsSaid : Prop := shipJoinsRow.holds Try.pinned (OpenSpec.ofChange shipJoinsSpec)

/-- ITS FALSE NEIGHBOUR: 'it returns false'. Refute it at one input. -/
def shipJoinsWrong : ChangeSpec := { name := "shipJoins", fn := fun _ => fun
  | [d1, d2, d3] => { results := [.lit (.bool false)], args := [d1, d2, d3] }
  | _ => none }
def ShipJoinsWrongFalsely : Prop := shipJoinsRow.holds Try.pinned (OpenSpec.ofChange shipJoinsWrong)

/-- 'chroniclelaw22.ShipAgrees': WHATEVER THE INPUT: true; the input reads as it did. -/
def shipAgreesSpec : ChangeSpec := { name := "shipAgrees", fn := fun _ => fun
  | [d1, d2, d3, d4, d5, d6] => { results := [.lit (.bool true)], args := [d1, d2, d3, d4, d5, d6] }
  | _ => none }
def shipAgreesRow : OpenClaim := { program := "ytnnnilpgnjndlaa", sum := "3c51874639f307e9b5ab90e04d866b00bd6db126db5c330cc9fcdbb6eaba4b5b", func := "chronicle/chroniclelaw22.ShipAgrees", spec := "shipAgrees", inPlace := ["math.Float64bits", "math.Float64frombits"], apart := false }
def ShipAgreesSaid : Prop := shipAgreesRow.holds Try.pinned (OpenSpec.ofChange shipAgreesSpec)

/-- ITS FALSE NEIGHBOUR: 'it returns false'. Refute it at one input. -/
def shipAgreesWrong : ChangeSpec := { name := "shipAgrees", fn := fun _ => fun
  | [d1, d2, d3, d4, d5, d6] => { results := [.lit (.bool false)], args := [d1, d2, d3, d4, d5, d6] }
  | _ => none }
def ShipAgreesWrongFalsely : Prop := shipAgreesRow.holds Try.pinned (OpenSpec.ofChange shipAgreesWrong)

/-- 'chroniclelaw22.ShipBacks': WHATEVER THE INPUT: true; the input reads as it did. -/
def shipBacksSpec : ChangeSpec := { name := "shipBacks", fn := fun _ => fun
  | [d1, d2] => { results := [.lit (.bool true)], args := [d1, d2] }
  | _ => none }
def shipBacksRow : OpenClaim := { program := "ytnnnilpgnjndlaa", sum := "3c51874639f307e9b5ab90e04d866b00bd6db126db5c330cc9fcdbb6eaba4b5b", func := "chronicle/chroniclelaw22.ShipBacks", spec := "shipBacks", inPlace := ["math.Float64bits", "math.Float64frombits"], apart := false }
def ShipBacksSaid : Prop := shipBacksRow.holds Try.pinned (OpenSpec.ofChange shipBacksSpec)

/-- ITS FALSE NEIGHBOUR: 'it returns false'. Refute it at one input. -/
def shipBacksWrong : ChangeSpec := { name := "shipBacks", fn := fun _ => fun
  | [d1, d2] => { results := [.lit (.bool false)], args := [d1, d2] }
  | _ => none }
def ShipBacksWrongFalsely : Prop := shipBacksRow.holds Try.pinned (OpenSpec.ofChange shipBacksWrong)

/-- 'chroniclelaw22.ShipTells': WHATEVER THE INPUT: true; the input reads as it did. -/
def shipTellsSpec : ChangeSpec := { name := "shipTells", fn := fun _ => fun
  | [d1, d2, d3, d4, d5, d6, d7] => { results := [.lit (.bool true)], args := [d1, d2, d3, d4, d5, d6, d7] }
  | _ => none }
def shipTellsRow : OpenClaim := { program := "ytnnnilpgnjndlaa", sum := "3c51874639f307e9b5ab90e04d866b00bd6db126db5c330cc9fcdbb6eaba4b5b", func := "chronicle/chroniclelaw22.ShipTells", spec := "shipTells", inPlace := ["math.Float64bits", "math.Float64frombits"], apart := false }
def ShipTellsSaid : Prop := shipTellsRow.holds Try.pinned (OpenSpec.ofChange shipTellsSpec)

/-- ITS FALSE NEIGHBOUR: 'it returns false'. Refute it at one input. -/
def shipTellsWrong : ChangeSpec := { name := "shipTells", fn := fun _ => fun
  | [d1, d2, d3, d4, d5, d6, d7] => { results := [.lit (.bool false)], args := [d1, d2, d3, d4, d5, d6, d7] }
  | _ => none }
def ShipTellsWrongFalsely : Prop := shipTellsRow.holds Try.pinned (OpenSpec.ofChange shipTellsWrong)

/- THE SECOND FORM. 'bulk': how many values and letters a reading holds, each counted each time it is reached (what is shared counts as often as it is met; a slice's spare places count too). A statement '..UptoSaid' is the law's where the arguments, and the package variables that the reading takes, are together of bulk at most 1048576: NARROWER than '..Said'. Prove '..Said' where nothing that the law and all that it calls make is longer than what came in: it says more and counts as full. Else prove '..UptoSaid'. A law counts once. -/
mutual
def uptoBulk {H : Type} : DataW H → Nat
  | .lit (.string bytes) => bytes.length + 1
  | .lit _ => 1
  | .nil => 1
  | .ptr d => uptoBulk d + 1
  | .slice elems spare => uptoBulkAll elems + uptoBulkAll spare + 1
  | .agg parts => uptoBulkAll parts + 1
  | .iface _ d => uptoBulk d + 1
  | .map entries => uptoBulkEntries entries + 1
  | .held _ => 1
def uptoBulkAll {H : Type} : List (DataW H) → Nat
  | [] => 0
  | d :: r => uptoBulk d + uptoBulkAll r
def uptoBulkEntries {H : Type} : List (Lit × DataW H) → Nat
  | [] => 0
  | x :: r => uptoBulkEntry x + uptoBulkEntries r
def uptoBulkEntry {H : Type} : Lit × DataW H → Nat
  | (.string bytes, d) => bytes.length + uptoBulk d + 1
  | (_, d) => uptoBulk d + 1
 end
def uptoSmall : (H : Type) → List (DataW H) → Bool := fun _ ds => decide (uptoBulkAll ds ≤ 1048576)
def OpenSpec.upto (s : _root_.Go.ChangeSpec) : _root_.Go.OpenSpec := { _root_.Go.OpenSpec.ofChange s with cond := some uptoSmall }

/-- 'chroniclelaw22.ShipBytes', WHERE WHAT IT READS IS OF BULK AT MOST 1048576: true; the input reads as it did. -/
def shipBytesUptoRow : OpenClaim := { program := "ytnnnilpgnjndlaa", sum := "3c51874639f307e9b5ab90e04d866b00bd6db126db5c330cc9fcdbb6eaba4b5b", func := "chronicle/chroniclelaw22.ShipBytes", spec := "shipBytes", inPlace := ["math.Float64bits", "math.Float64frombits"], apart := false, narrowed := true }
def ShipBytesUptoSaid : Prop := shipBytesUptoRow.holds Try.pinned (OpenSpec.upto shipBytesSpec)

/-- 'chroniclelaw22.ShipJoins', WHERE WHAT IT READS IS OF BULK AT MOST 1048576: true; the input reads as it did. -/
def shipJoinsUptoRow : OpenClaim := { program := "ytnnnilpgnjndlaa", sum := "3c51874639f307e9b5ab90e04d866b00bd6db126db5c330cc9fcdbb6eaba4b5b", func := "chronicle/chroniclelaw22.ShipJoins", spec := "shipJoins", inPlace := ["math.Float64bits", "math.Float64frombits"], apart := false, narrowed := true }
def ShipJoinsUptoSaid : Prop := shipJoinsUptoRow.holds Try.pinned (OpenSpec.upto shipJoinsSpec)

/-- 'chroniclelaw22.ShipAgrees', WHERE WHAT IT READS IS OF BULK AT MOST 1048576: true; the input reads as it did. -/
def shipAgreesUptoRow : OpenClaim := { program := "ytnnnilpgnjndlaa", sum := "3c51874639f307e9b5ab90e04d866b00bd6db126db5c330cc9fcdbb6eaba4b5b", func := "chronicle/chroniclelaw22.ShipAgrees", spec := "shipAgrees", inPlace := ["math.Float64bits", "math.Float64frombits"], apart := false, narrowed := true }
def ShipAgreesUptoSaid : Prop := shipAgreesUptoRow.holds Try.pinned (OpenSpec.upto shipAgreesSpec)

/-- 'chroniclelaw22.ShipBacks', WHERE WHAT IT READS IS OF BULK AT MOST 1048576: true; the input reads as it did. -/
def shipBacksUptoRow : OpenClaim := { program := "ytnnnilpgnjndlaa", sum := "3c51874639f307e9b5ab90e04d866b00bd6db126db5c330cc9fcdbb6eaba4b5b", func := "chronicle/chroniclelaw22.ShipBacks", spec := "shipBacks", inPlace := ["math.Float64bits", "math.Float64frombits"], apart := false, narrowed := true }
def ShipBacksUptoSaid : Prop := shipBacksUptoRow.holds Try.pinned (OpenSpec.upto shipBacksSpec)

/-- 'chroniclelaw22.ShipTells', WHERE WHAT IT READS IS OF BULK AT MOST 1048576: true; the input reads as it did. -/
def shipTellsUptoRow : OpenClaim := { program := "ytnnnilpgnjndlaa", sum := "3c51874639f307e9b5ab90e04d866b00bd6db126db5c330cc9fcdbb6eaba4b5b", func := "chronicle/chroniclelaw22.ShipTells", spec := "shipTells", inPlace := ["math.Float64bits", "math.Float64frombits"], apart := false, narrowed := true }
def ShipTellsUptoSaid : Prop := shipTellsUptoRow.holds Try.pinned (OpenSpec.upto shipTellsSpec)

end Rows
end Go.Proofs.Ytnnnilpgnjndlaa
