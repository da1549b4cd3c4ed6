/- Questions copied and compared. -/
import Derived.Test.YtkoaaagmcjjimaaGreatAsk
import Derived.Test.YtkoaaagmcjjimaaGreatCopy
namespace Go.Proofs.YtkoaaagmcjjimaaGreat
open Go.RowKit

theorem laws_toExpAsk (x : GAsk) (w : World) : Calls Tryz.prog 106 #[.agg #[.int .i64 x.op, .int .i64 x.var, .int .i64 x.k]] w fun e w' => e = .returned (.agg #[.int .i64 x.op, .int .i64 x.var, .int .i64 x.k]) ∧ Below w.heap.size w w' := by
  go_enter Tryz.func106, Tryz.ntmps106
  go_wp2
  go_returns
  exact ⟨rfl, by go_grown⟩
theorem laws_eqExpAsk (x : GAsk) (w : World) : Calls Tryz.prog 111 #[.agg #[.int .i64 x.op, .int .i64 x.var, .int .i64 x.k], .agg #[.int .i64 x.op, .int .i64 x.var, .int .i64 x.k]] w fun e w' => e = .returned (.bool true) ∧ Below w.heap.size w w' := by
  go_enter Tryz.func111, Tryz.ntmps111
  go_wp2
  go_returns
  exact ⟨rfl, by go_grown⟩
end Go.Proofs.YtkoaaagmcjjimaaGreat
