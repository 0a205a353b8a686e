/-
  No cell of these rows narrows 'for every input' (looked for: loops, veiled, ifaces, maps, wideKeys, modest, calm, conditions, laid).
  DERIVED. THE GIVEN ROWS OF THIS SEAT. 5 by the template 'for every input the law returns true; each argument reads behind the call as it read before'; 0 by the template 'total and deterministic' (their statements: YtbcbjibbeieaiaaTotals.lean).
  GIVEN WITH THE SEED: the statements are not yours to turn. If you find one false, say at which input.
  Laid BY PROGRAM, IN A SANDBOX (cutbox-rows.mjs): the forced cells as the released guide's own fill.sh prints them over the translation 809eeac70e8a0ecd… (all of the seat's roots in one cut). By AI agents, Wed Nov 11 2026. No macro, syntax, notation, axiom, sorry.
-/
import Derived.Test.YtbcbjibbeieaiaaChecked
import GoSem.Claim
import GoSem.ClaimJoined
import GoSem.ClaimMapViews
import Derived.JoinedTies
import Derived.KernelRfl
namespace Go.Proofs.Ytbcbjibbeieaiaa
/- THE CELL 'sum', in the pinned program and in every row, IS THE sha256 OF THE DUMP (.gsa) THAT YtbcbjibbeieaiaaProg.lean LOADS. Nothing in Lean hashes anything: it is a label: what it is worth is what the hold of that sum in a sandbox is worth. -/
noncomputable def Try.pinned : Pinned := { name := "ytbcbjibbeieaiaa", sum := "809eeac70e8a0ecda758f91b56d161238a65619aa746135a2f8e71d5f7873e31", checked := Try.checked }
namespace Rows
def none {H : Type} : Left H := { results := [], args := [] }

/-- 'chroniclelaw21.VoteMajority': WHATEVER THE INPUT: true; the input reads as it did. -/
def voteMajoritySpec : ChangeSpec := { name := "voteMajority", fn := fun _ => fun
  | [d1, d2, d3] => { results := [.lit (.bool true)], args := [d1, d2, d3] }
  | _ => none }
def voteMajorityRow : OpenClaim := { program := "ytbcbjibbeieaiaa", sum := "809eeac70e8a0ecda758f91b56d161238a65619aa746135a2f8e71d5f7873e31", func := "chronicle/chroniclelaw21.VoteMajority", spec := "voteMajority", unfollowed := true, recurses := true, apart := false }
def VoteMajoritySaid : Prop := voteMajorityRow.holds Try.pinned (OpenSpec.ofChange voteMajoritySpec)

/-- ITS FALSE NEIGHBOUR: 'it returns false'. Refute it at one input. -/
def voteMajorityWrong : ChangeSpec := { name := "voteMajority", fn := fun _ => fun
  | [d1, d2, d3] => { results := [.lit (.bool false)], args := [d1, d2, d3] }
  | _ => none }
def VoteMajorityWrongFalsely : Prop := voteMajorityRow.holds Try.pinned (OpenSpec.ofChange voteMajorityWrong)

/-- 'chroniclelaw21.VoteLogs': WHATEVER THE INPUT: true; the input reads as it did. -/
def voteLogsSpec : ChangeSpec := { name := "voteLogs", fn := fun _ => fun
  | [d1, d2, d3] => { results := [.lit (.bool true)], args := [d1, d2, d3] }
  | _ => none }
def voteLogsRow : OpenClaim := { program := "ytbcbjibbeieaiaa", sum := "809eeac70e8a0ecda758f91b56d161238a65619aa746135a2f8e71d5f7873e31", func := "chronicle/chroniclelaw21.VoteLogs", spec := "voteLogs", unfollowed := true, recurses := true, apart := false }
def VoteLogsSaid : Prop := voteLogsRow.holds Try.pinned (OpenSpec.ofChange voteLogsSpec)

/-- ITS FALSE NEIGHBOUR: 'it returns false'. Refute it at one input. -/
def voteLogsWrong : ChangeSpec := { name := "voteLogs", fn := fun _ => fun
  | [d1, d2, d3] => { results := [.lit (.bool false)], args := [d1, d2, d3] }
  | _ => none }
def VoteLogsWrongFalsely : Prop := voteLogsRow.holds Try.pinned (OpenSpec.ofChange voteLogsWrong)

/-- 'chroniclelaw21.VoteFile': WHATEVER THE INPUT: true; the input reads as it did. -/
def voteFileSpec : ChangeSpec := { name := "voteFile", fn := fun _ => fun
  | [d1, d2] => { results := [.lit (.bool true)], args := [d1, d2] }
  | _ => none }
def voteFileRow : OpenClaim := { program := "ytbcbjibbeieaiaa", sum := "809eeac70e8a0ecda758f91b56d161238a65619aa746135a2f8e71d5f7873e31", func := "chronicle/chroniclelaw21.VoteFile", spec := "voteFile", unfollowed := true, recurses := true, apart := false }
def VoteFileSaid : Prop := voteFileRow.holds Try.pinned (OpenSpec.ofChange voteFileSpec)

/-- ITS FALSE NEIGHBOUR: 'it returns false'. Refute it at one input. -/
def voteFileWrong : ChangeSpec := { name := "voteFile", fn := fun _ => fun
  | [d1, d2] => { results := [.lit (.bool false)], args := [d1, d2] }
  | _ => none }
def VoteFileWrongFalsely : Prop := voteFileRow.holds Try.pinned (OpenSpec.ofChange voteFileWrong)

/-- 'chroniclelaw21.VoteTells': WHATEVER THE INPUT: true; the input reads as it did. -/
def voteTellsSpec : ChangeSpec := { name := "voteTells", fn := fun _ => fun
  | [d1, d2, d3, d4, d5, d6, d7, d8, d9, d10] => { results := [.lit (.bool true)], args := [d1, d2, d3, d4, d5, d6, d7, d8, d9, d10] }
  | _ => none }
def voteTellsRow : OpenClaim := { program := "ytbcbjibbeieaiaa", sum := "809eeac70e8a0ecda758f91b56d161238a65619aa746135a2f8e71d5f7873e31", func := "chronicle/chroniclelaw21.VoteTells", spec := "voteTells", unfollowed := true, recurses := true, apart := false }
def VoteTellsSaid : Prop := voteTellsRow.holds Try.pinned (OpenSpec.ofChange voteTellsSpec)

/-- ITS FALSE NEIGHBOUR: 'it returns false'. Refute it at one input. -/
def voteTellsWrong : ChangeSpec := { name := "voteTells", fn := fun _ => fun
  | [d1, d2, d3, d4, d5, d6, d7, d8, d9, d10] => { results := [.lit (.bool false)], args := [d1, d2, d3, d4, d5, d6, d7, d8, d9, d10] }
  | _ => none }
def VoteTellsWrongFalsely : Prop := voteTellsRow.holds Try.pinned (OpenSpec.ofChange voteTellsWrong)

/-- 'chroniclelaw21.VoteOnce': WHATEVER THE INPUT: true; the input reads as it did. -/
def voteOnceSpec : ChangeSpec := { name := "voteOnce", fn := fun _ => fun
  | [d] => { results := [.lit (.bool true)], args := [d] }
  | _ => none }
def voteOnceRow : OpenClaim := { program := "ytbcbjibbeieaiaa", sum := "809eeac70e8a0ecda758f91b56d161238a65619aa746135a2f8e71d5f7873e31", func := "chronicle/chroniclelaw21.VoteOnce", spec := "voteOnce", unfollowed := true, recurses := true, apart := false }
def VoteOnceSaid : Prop := voteOnceRow.holds Try.pinned (OpenSpec.ofChange voteOnceSpec)

/-- ITS FALSE NEIGHBOUR: 'it returns false'. Refute it at one input. -/
def voteOnceWrong : ChangeSpec := { name := "voteOnce", fn := fun _ => fun
  | [d] => { results := [.lit (.bool false)], args := [d] }
  | _ => none }
def VoteOnceWrongFalsely : Prop := voteOnceRow.holds Try.pinned (OpenSpec.ofChange voteOnceWrong)

/- THE SECOND FORM. 'bulk': how many values and letters a reading holds, each counted each time it is reached (what is shared counts as often as it is met; a slice's spare places count too). A statement '..UptoSaid' is the law's where the arguments, and the package variables that the reading takes, are together of bulk at most 1048576: NARROWER than '..Said'. Prove '..Said' where nothing that the law and all that it calls make is longer than what came in: it says more and counts as full. Else prove '..UptoSaid'. A law counts once. -/
mutual
def uptoBulk {H : Type} : DataW H → Nat
  | .lit (.string bytes) => bytes.length + 1
  | .lit _ => 1
  | .nil => 1
  | .ptr d => uptoBulk d + 1
  | .slice elems spare => uptoBulkAll elems + uptoBulkAll spare + 1
  | .agg parts => uptoBulkAll parts + 1
  | .iface _ d => uptoBulk d + 1
  | .map entries => uptoBulkEntries entries + 1
  | .held _ => 1
def uptoBulkAll {H : Type} : List (DataW H) → Nat
  | [] => 0
  | d :: r => uptoBulk d + uptoBulkAll r
def uptoBulkEntries {H : Type} : List (Lit × DataW H) → Nat
  | [] => 0
  | x :: r => uptoBulkEntry x + uptoBulkEntries r
def uptoBulkEntry {H : Type} : Lit × DataW H → Nat
  | (.string bytes, d) => bytes.length + uptoBulk d + 1
  | (_, d) => uptoBulk d + 1
 end
def uptoSmall : (H : Type) → List (DataW H) → Bool := fun _ ds => decide (uptoBulkAll ds ≤ 1048576)
def OpenSpec.upto (s : _root_.Go.ChangeSpec) : _root_.Go.OpenSpec := { _root_.Go.OpenSpec.ofChange s with cond := some uptoSmall }

/-- 'chroniclelaw21.VoteMajority', WHERE WHAT IT READS IS OF BULK AT MOST 1048576: true; the input reads as it did. -/
def voteMajorityUptoRow : OpenClaim := { program := "ytbcbjibbeieaiaa", sum := "809eeac70e8a0ecda758f91b56d161238a65619aa746135a2f8e71d5f7873e31", func := "chronicle/chroniclelaw21.VoteMajority", spec := "voteMajority", unfollowed := true, recurses := true, apart := false, narrowed := true }
def VoteMajorityUptoSaid : Prop := voteMajorityUptoRow.holds Try.pinned (OpenSpec.upto voteMajoritySpec)

/-- 'chroniclelaw21.VoteLogs', WHERE WHAT IT READS IS OF BULK AT MOST 1048576: true; the input reads as it did. -/
def voteLogsUptoRow : OpenClaim := { program := "ytbcbjibbeieaiaa", sum := "809eeac70e8a0ecda758f91b56d161238a65619aa746135a2f8e71d5f7873e31", func := "chronicle/chroniclelaw21.VoteLogs", spec := "voteLogs", unfollowed := true, recurses := true, apart := false, narrowed := true }
def VoteLogsUptoSaid : Prop := voteLogsUptoRow.holds Try.pinned (OpenSpec.upto voteLogsSpec)

/-- 'chroniclelaw21.VoteFile', WHERE WHAT IT READS IS OF BULK AT MOST 1048576: true; the input reads as it did. -/
def voteFileUptoRow : OpenClaim := { program := "ytbcbjibbeieaiaa", sum := "809eeac70e8a0ecda758f91b56d161238a65619aa746135a2f8e71d5f7873e31", func := "chronicle/chroniclelaw21.VoteFile", spec := "voteFile", unfollowed := true, recurses := true, apart := false, narrowed := true }
def VoteFileUptoSaid : Prop := voteFileUptoRow.holds Try.pinned (OpenSpec.upto voteFileSpec)

/-- 'chroniclelaw21.VoteTells', WHERE WHAT IT READS IS OF BULK AT MOST 1048576: true; the input reads as it did. -/
def voteTellsUptoRow : OpenClaim := { program := "ytbcbjibbeieaiaa", sum := "809eeac70e8a0ecda758f91b56d161238a65619aa746135a2f8e71d5f7873e31", func := "chronicle/chroniclelaw21.VoteTells", spec := "voteTells", unfollowed := true, recurses := true, apart := false, narrowed := true }
def VoteTellsUptoSaid : Prop := voteTellsUptoRow.holds Try.pinned (OpenSpec.upto voteTellsSpec)

/-- 'chroniclelaw21.VoteOnce', WHERE WHAT IT READS IS OF BULK AT MOST 1048576: true; the input reads as it did. -/
def voteOnceUptoRow : OpenClaim := { program := "ytbcbjibbeieaiaa", sum := "809eeac70e8a0ecda758f91b56d161238a65619aa746135a2f8e71d5f7873e31", func := "chronicle/chroniclelaw21.VoteOnce", spec := "voteOnce", unfollowed := true, recurses := true, apart := false, narrowed := true }
def VoteOnceUptoSaid : Prop := voteOnceUptoRow.holds Try.pinned (OpenSpec.upto voteOnceSpec)

end Rows
end Go.Proofs.Ytbcbjibbeieaiaa
