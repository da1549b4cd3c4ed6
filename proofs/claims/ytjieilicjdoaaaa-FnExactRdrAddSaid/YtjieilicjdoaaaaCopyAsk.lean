/- Questions copied and compared. -/
import Derived.Test.YtjieilicjdoaaaaAsk
import Derived.Test.YtjieilicjdoaaaaCopy
namespace Go.Proofs.Ytjieilicjdoaaaa
open Go.RowKit

theorem laws_toExpAsk (x : GAsk) (w : World) : Calls Try.prog 10 #[.agg #[.int .i64 x.op, .int .i64 x.var, .int .i64 x.k]] w fun e w' => e = .returned (.agg #[.int .i64 x.op, .int .i64 x.var, .int .i64 x.k]) ∧ Below w.heap.size w w' := by
  go_enter Try.func10, Try.ntmps10
  go_wp2
  go_returns
  exact ⟨rfl, by go_grown⟩
theorem laws_eqExpAsk (x : GAsk) (w : World) : Calls Try.prog 57 #[.agg #[.int .i64 x.op, .int .i64 x.var, .int .i64 x.k], .agg #[.int .i64 x.op, .int .i64 x.var, .int .i64 x.k]] w fun e w' => e = .returned (.bool true) ∧ Below w.heap.size w w' := by
  go_enter Try.func57, Try.ntmps57
  go_wp2
  go_returns
  exact ⟨rfl, by go_grown⟩
end Go.Proofs.Ytjieilicjdoaaaa
