/-
  No cell of these rows narrows 'for every input' (looked for: loops, veiled, ifaces, maps, wideKeys, modest, calm, conditions, laid).
  DERIVED. THE GIVEN ROWS OF THIS SEAT. 7 by the template 'for every input the law returns true; each argument reads behind the call as it read before'; 0 by the template 'total and deterministic' (their statements: YtfpalamoaflilaaTotals.lean).
  GIVEN WITH THE SEED: the statements are not yours to turn. If you find one false, say at which input.
  Laid BY PROGRAM, IN A SANDBOX (cutbox-rows.mjs): the forced cells as the released guide's own fill.sh prints them over the translation d89d576668eeae94… (all of the seat's roots in one cut). By AI agents, Wed Nov 11 2026. No macro, syntax, notation, axiom, sorry.
-/
import Derived.Test.YtfpalamoaflilaaChecked
import GoSem.Claim
import GoSem.ClaimJoined
import GoSem.ClaimMapViews
import Derived.JoinedTies
import Derived.KernelRfl
namespace Go.Proofs.Ytfpalamoaflilaa
/- THE CELL 'sum', in the pinned program and in every row, IS THE sha256 OF THE DUMP (.gsa) THAT YtfpalamoaflilaaProg.lean LOADS. Nothing in Lean hashes anything: it is a label: what it is worth is what the hold of that sum in a sandbox is worth. -/
noncomputable def Try.pinned : Pinned := { name := "ytfpalamoaflilaa", sum := "d89d576668eeae94c2be86ca563c714439b2c7c73adb85f57bf3ad0b4055478f", checked := Try.checked }
namespace Rows
def none {H : Type} : Left H := { results := [], args := [] }

/-- 'chroniclelaw7.EventParts': WHATEVER THE INPUT: true; the input reads as it did. -/
def eventPartsSpec : ChangeSpec := { name := "eventParts", fn := fun _ => fun
  | [d1, d2] => { results := [.lit (.bool true)], args := [d1, d2] }
  | _ => none }
def eventPartsRow : OpenClaim := { program := "ytfpalamoaflilaa", sum := "d89d576668eeae94c2be86ca563c714439b2c7c73adb85f57bf3ad0b4055478f", func := "chronicle/chroniclelaw7.EventParts", spec := "eventParts", inPlace := ["math.Float64bits", "math.Float64frombits"], apart := false }
def EventPartsSaid : Prop := eventPartsRow.holds Try.pinned (OpenSpec.ofChange eventPartsSpec)

/-- ITS FALSE NEIGHBOUR: 'it returns false'. Refute it at one input. -/
def eventPartsWrong : ChangeSpec := { name := "eventParts", fn := fun _ => fun
  | [d1, d2] => { results := [.lit (.bool false)], args := [d1, d2] }
  | _ => none }
def EventPartsWrongFalsely : Prop := eventPartsRow.holds Try.pinned (OpenSpec.ofChange eventPartsWrong)

/-- 'chroniclelaw7.EventMany': WHATEVER THE INPUT: true; the input reads as it did. -/
def eventManySpec : ChangeSpec := { name := "eventMany", fn := fun _ => fun
  | [d1, d2, d3] => { results := [.lit (.bool true)], args := [d1, d2, d3] }
  | _ => none }
def eventManyRow : OpenClaim := { program := "ytfpalamoaflilaa", sum := "d89d576668eeae94c2be86ca563c714439b2c7c73adb85f57bf3ad0b4055478f", func := "chronicle/chroniclelaw7.EventMany", spec := "eventMany", inPlace := ["math.Float64bits", "math.Float64frombits"], apart := false }
def EventManySaid : Prop := eventManyRow.holds Try.pinned (OpenSpec.ofChange eventManySpec)

/-- ITS FALSE NEIGHBOUR: 'it returns false'. Refute it at one input. -/
def eventManyWrong : ChangeSpec := { name := "eventMany", fn := fun _ => fun
  | [d1, d2, d3] => { results := [.lit (.bool false)], args := [d1, d2, d3] }
  | _ => none }
def EventManyWrongFalsely : Prop := eventManyRow.holds Try.pinned (OpenSpec.ofChange eventManyWrong)

/-- 'chroniclelaw7.EventStored': WHATEVER THE INPUT: true; the input reads as it did. -/
def eventStoredSpec : ChangeSpec := { name := "eventStored", fn := fun _ => fun
  | [d1, d2] => { results := [.lit (.bool true)], args := [d1, d2] }
  | _ => none }
def eventStoredRow : OpenClaim := { program := "ytfpalamoaflilaa", sum := "d89d576668eeae94c2be86ca563c714439b2c7c73adb85f57bf3ad0b4055478f", func := "chronicle/chroniclelaw7.EventStored", spec := "eventStored", inPlace := ["math.Float64bits", "math.Float64frombits"], apart := false }
def EventStoredSaid : Prop := eventStoredRow.holds Try.pinned (OpenSpec.ofChange eventStoredSpec)

/-- ITS FALSE NEIGHBOUR: 'it returns false'. Refute it at one input. -/
def eventStoredWrong : ChangeSpec := { name := "eventStored", fn := fun _ => fun
  | [d1, d2] => { results := [.lit (.bool false)], args := [d1, d2] }
  | _ => none }
def EventStoredWrongFalsely : Prop := eventStoredRow.holds Try.pinned (OpenSpec.ofChange eventStoredWrong)

/-- 'chroniclelaw7.EventTells': WHATEVER THE INPUT: true; the input reads as it did. -/
def eventTellsSpec : ChangeSpec := { name := "eventTells", fn := fun _ => fun
  | [d1, d2, d3] => { results := [.lit (.bool true)], args := [d1, d2, d3] }
  | _ => none }
def eventTellsRow : OpenClaim := { program := "ytfpalamoaflilaa", sum := "d89d576668eeae94c2be86ca563c714439b2c7c73adb85f57bf3ad0b4055478f", func := "chronicle/chroniclelaw7.EventTells", spec := "eventTells", inPlace := ["math.Float64bits", "math.Float64frombits"], unfollowed := true, recurses := true, apart := false }
def EventTellsSaid : Prop := eventTellsRow.holds Try.pinned (OpenSpec.ofChange eventTellsSpec)

/-- ITS FALSE NEIGHBOUR: 'it returns false'. Refute it at one input. -/
def eventTellsWrong : ChangeSpec := { name := "eventTells", fn := fun _ => fun
  | [d1, d2, d3] => { results := [.lit (.bool false)], args := [d1, d2, d3] }
  | _ => none }
def EventTellsWrongFalsely : Prop := eventTellsRow.holds Try.pinned (OpenSpec.ofChange eventTellsWrong)

/-- 'chroniclelaw7.EventBack': WHATEVER THE INPUT: true; the input reads as it did. -/
def eventBackSpec : ChangeSpec := { name := "eventBack", fn := fun _ => fun
  | [d1, d2, d3] => { results := [.lit (.bool true)], args := [d1, d2, d3] }
  | _ => none }
def eventBackRow : OpenClaim := { program := "ytfpalamoaflilaa", sum := "d89d576668eeae94c2be86ca563c714439b2c7c73adb85f57bf3ad0b4055478f", func := "chronicle/chroniclelaw7.EventBack", spec := "eventBack", inPlace := ["math.Float64bits", "math.Float64frombits"], unfollowed := true, recurses := true, apart := false }
def EventBackSaid : Prop := eventBackRow.holds Try.pinned (OpenSpec.ofChange eventBackSpec)

/-- ITS FALSE NEIGHBOUR: 'it returns false'. Refute it at one input. -/
def eventBackWrong : ChangeSpec := { name := "eventBack", fn := fun _ => fun
  | [d1, d2, d3] => { results := [.lit (.bool false)], args := [d1, d2, d3] }
  | _ => none }
def EventBackWrongFalsely : Prop := eventBackRow.holds Try.pinned (OpenSpec.ofChange eventBackWrong)

/-- 'chroniclelaw7.EventApart': WHATEVER THE INPUT: true; the input reads as it did. -/
def eventApartSpec : ChangeSpec := { name := "eventApart", fn := fun _ => fun
  | [d1, d2] => { results := [.lit (.bool true)], args := [d1, d2] }
  | _ => none }
def eventApartRow : OpenClaim := { program := "ytfpalamoaflilaa", sum := "d89d576668eeae94c2be86ca563c714439b2c7c73adb85f57bf3ad0b4055478f", func := "chronicle/chroniclelaw7.EventApart", spec := "eventApart", inPlace := ["math.Float64bits", "math.Float64frombits"], unfollowed := true, recurses := true, apart := false }
def EventApartSaid : Prop := eventApartRow.holds Try.pinned (OpenSpec.ofChange eventApartSpec)

/-- ITS FALSE NEIGHBOUR: 'it returns false'. Refute it at one input. -/
def eventApartWrong : ChangeSpec := { name := "eventApart", fn := fun _ => fun
  | [d1, d2] => { results := [.lit (.bool false)], args := [d1, d2] }
  | _ => none }
def EventApartWrongFalsely : Prop := eventApartRow.holds Try.pinned (OpenSpec.ofChange eventApartWrong)

/-- 'chroniclelaw7.EventNaN': WHATEVER THE INPUT: true; the input reads as it did. -/
def eventNaNSpec : ChangeSpec := { name := "eventNaN", fn := fun _ => fun
  | [d1, d2, d3] => { results := [.lit (.bool true)], args := [d1, d2, d3] }
  | _ => none }
def eventNaNRow : OpenClaim := { program := "ytfpalamoaflilaa", sum := "d89d576668eeae94c2be86ca563c714439b2c7c73adb85f57bf3ad0b4055478f", func := "chronicle/chroniclelaw7.EventNaN", spec := "eventNaN", inPlace := ["math.Float64frombits", "math.Float64bits"], unfollowed := true, recurses := true, apart := false }
def EventNaNSaid : Prop := eventNaNRow.holds Try.pinned (OpenSpec.ofChange eventNaNSpec)

/-- ITS FALSE NEIGHBOUR: 'it returns false'. Refute it at one input. -/
def eventNaNWrong : ChangeSpec := { name := "eventNaN", fn := fun _ => fun
  | [d1, d2, d3] => { results := [.lit (.bool false)], args := [d1, d2, d3] }
  | _ => none }
def EventNaNWrongFalsely : Prop := eventNaNRow.holds Try.pinned (OpenSpec.ofChange eventNaNWrong)

/- THE SECOND FORM. 'bulk': how many values and letters a reading holds, each counted each time it is reached (what is shared counts as often as it is met; a slice's spare places count too). A statement '..UptoSaid' is the law's where the arguments, and the package variables that the reading takes, are together of bulk at most 1048576: NARROWER than '..Said'. Prove '..Said' where nothing that the law and all that it calls make is longer than what came in: it says more and counts as full. Else prove '..UptoSaid'. A law counts once. -/
mutual
def uptoBulk {H : Type} : DataW H → Nat
  | .lit (.string bytes) => bytes.length + 1
  | .lit _ => 1
  | .nil => 1
  | .ptr d => uptoBulk d + 1
  | .slice elems spare => uptoBulkAll elems + uptoBulkAll spare + 1
  | .agg parts => uptoBulkAll parts + 1
  | .iface _ d => uptoBulk d + 1
  | .map entries => uptoBulkEntries entries + 1
  | .held _ => 1
def uptoBulkAll {H : Type} : List (DataW H) → Nat
  | [] => 0
  | d :: r => uptoBulk d + uptoBulkAll r
def uptoBulkEntries {H : Type} : List (Lit × DataW H) → Nat
  | [] => 0
  | x :: r => uptoBulkEntry x + uptoBulkEntries r
def uptoBulkEntry {H : Type} : Lit × DataW H → Nat
  | (.string bytes, d) => bytes.length + uptoBulk d + 1
  | (_, d) => uptoBulk d + 1
 end
def uptoSmall : (H : Type) → List (DataW H) → Bool := fun _ ds => decide (uptoBulkAll ds ≤ 1048576)
def OpenSpec.upto (s : _root_.Go.ChangeSpec) : _root_.Go.OpenSpec := { _root_.Go.OpenSpec.ofChange s with cond := some uptoSmall }

/-- 'chroniclelaw7.EventParts', WHERE WHAT IT READS IS OF BULK AT MOST 1048576: true; the input reads as it did. -/
def eventPartsUptoRow : OpenClaim := { program := "ytfpalamoaflilaa", sum := "d89d576668eeae94c2be86ca563c714439b2c7c73adb85f57bf3ad0b4055478f", func := "chronicle/chroniclelaw7.EventParts", spec := "eventParts", inPlace := ["math.Float64bits", "math.Float64frombits"], apart := false, narrowed := true }
def EventPartsUptoSaid : Prop := eventPartsUptoRow.holds Try.pinned (OpenSpec.upto eventPartsSpec)

/-- 'chroniclelaw7.EventMany', WHERE WHAT IT READS IS OF BULK AT MOST 1048576: true; the input reads as it did. -/
def eventManyUptoRow : OpenClaim := { program := "ytfpalamoaflilaa", sum := "d89d576668eeae94c2be86ca563c714439b2c7c73adb85f57bf3ad0b4055478f", func := "chronicle/chroniclelaw7.EventMany", spec := "eventMany", inPlace := ["math.Float64bits", "math.Float64frombits"], apart := false, narrowed := true }
def EventManyUptoSaid : Prop := eventManyUptoRow.holds Try.pinned (OpenSpec.upto eventManySpec)

/-- 'chroniclelaw7.EventStored', WHERE WHAT IT READS IS OF BULK AT MOST 1048576: true; the input reads as it did. -/
def eventStoredUptoRow : OpenClaim := { program := "ytfpalamoaflilaa", sum := "d89d576668eeae94c2be86ca563c714439b2c7c73adb85f57bf3ad0b4055478f", func := "chronicle/chroniclelaw7.EventStored", spec := "eventStored", inPlace := ["math.Float64bits", "math.Float64frombits"], apart := false, narrowed := true }
def EventStoredUptoSaid : Prop := eventStoredUptoRow.holds Try.pinned (OpenSpec.upto eventStoredSpec)

/-- 'chroniclelaw7.EventTells', WHERE WHAT IT READS IS OF BULK AT MOST 1048576: true; the input reads as it did. -/
def eventTellsUptoRow : OpenClaim := { program := "ytfpalamoaflilaa", sum := "d89d576668eeae94c2be86ca563c714439b2c7c73adb85f57bf3ad0b4055478f", func := "chronicle/chroniclelaw7.EventTells", spec := "eventTells", inPlace := ["math.Float64bits", "math.Float64frombits"], unfollowed := true, recurses := true, apart := false, narrowed := true }
def EventTellsUptoSaid : Prop := eventTellsUptoRow.holds Try.pinned (OpenSpec.upto eventTellsSpec)

/-- 'chroniclelaw7.EventBack', WHERE WHAT IT READS IS OF BULK AT MOST 1048576: true; the input reads as it did. -/
def eventBackUptoRow : OpenClaim := { program := "ytfpalamoaflilaa", sum := "d89d576668eeae94c2be86ca563c714439b2c7c73adb85f57bf3ad0b4055478f", func := "chronicle/chroniclelaw7.EventBack", spec := "eventBack", inPlace := ["math.Float64bits", "math.Float64frombits"], unfollowed := true, recurses := true, apart := false, narrowed := true }
def EventBackUptoSaid : Prop := eventBackUptoRow.holds Try.pinned (OpenSpec.upto eventBackSpec)

/-- 'chroniclelaw7.EventApart', WHERE WHAT IT READS IS OF BULK AT MOST 1048576: true; the input reads as it did. -/
def eventApartUptoRow : OpenClaim := { program := "ytfpalamoaflilaa", sum := "d89d576668eeae94c2be86ca563c714439b2c7c73adb85f57bf3ad0b4055478f", func := "chronicle/chroniclelaw7.EventApart", spec := "eventApart", inPlace := ["math.Float64bits", "math.Float64frombits"], unfollowed := true, recurses := true, apart := false, narrowed := true }
def EventApartUptoSaid : Prop := eventApartUptoRow.holds Try.pinned (OpenSpec.upto eventApartSpec)

/-- 'chroniclelaw7.EventNaN', WHERE WHAT IT READS IS OF BULK AT MOST 1048576: true; the input reads as it did. -/
def eventNaNUptoRow : OpenClaim := { program := "ytfpalamoaflilaa", sum := "d89d576668eeae94c2be86ca563c714439b2c7c73adb85f57bf3ad0b4055478f", func := "chronicle/chroniclelaw7.EventNaN", spec := "eventNaN", inPlace := ["math.Float64frombits", "math.Float64bits"], unfollowed := true, recurses := true, apart := false, narrowed := true }
def EventNaNUptoSaid : Prop := eventNaNUptoRow.holds Try.pinned (OpenSpec.upto eventNaNSpec)

end Rows
end Go.Proofs.Ytfpalamoaflilaa
