/- chapter 7: two events held against each other. -/
import Derived.Test.YtnnnilpgnjndlaaCShipBytesEvGet1
import Derived.Test.YtnnnilpgnjndlaaCShipBytesOutT

namespace Go.Proofs.Ytnnnilpgnjndlaa
open Go.RowKit
set_option maxHeartbeats 2000000
set_option maxRecDepth 100000
set_option linter.unusedVariables false
attribute [local go_sem] run_store_flt

theorem str_beq (s t : ByteArray) : (s.toList == t.toList) = decide (s = t) := by
  rw [Bool.eq_iff_iff, beq_iff_eq, decide_eq_true_eq, ByteArray.toList_eq, ByteArray.toList_eq]
  exact ⟨fun h => str_ext h, fun h => by rw [h]⟩

end Go.Proofs.Ytnnnilpgnjndlaa
