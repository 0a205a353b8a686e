/- chapter 12: the places of a version among entries. -/
import Derived.Test.YtfkkcgdniepgoaaGreatJTableMerges2
import Derived.Test.YtfkkcgdniepgoaaGreatJTableMerges1

namespace Go.Proofs.YtfkkcgdniepgoaaGreat
open Go.RowKit
set_option maxHeartbeats 2000000
set_option maxRecDepth 100000
set_option linter.unusedVariables false

theorem info_int : (Tryz.prog.info? 3).map (fun i => (i.zero, i.size, i.bytes)) = some (some (.int .i64 0), 1, 8) := by kernel_rfl

theorem find_snoc (l : List En) (h v : Int) (k : Nat) (e : En) (he : l[k]? = some e) : findE (l.take (k + 1)) h v = findE (l.take k) h v ++ if e.1 = h ∧ e.2.1 = v then [e.2.2] else [] := by
  unfold findE
  rw [filter_snoc _ l k e he, List.map_append]
  congr 1
  by_cases hc : e.1 = h ∧ e.2.1 = v <;> simp [hc]
theorem find_le (l : List En) (h v : Int) : (findE l h v).length ≤ l.length := by
  unfold findE
  rw [List.length_map]
  exact List.length_filter_le _ _

end Go.Proofs.YtfkkcgdniepgoaaGreat
