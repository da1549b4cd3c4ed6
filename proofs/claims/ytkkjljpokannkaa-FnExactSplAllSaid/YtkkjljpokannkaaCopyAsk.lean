/- Questions copied and compared. -/
import Derived.Test.YtkkjljpokannkaaAsk
import Derived.Test.YtkkjljpokannkaaCopy
namespace Go.Proofs.Ytkkjljpokannkaa
open Go.RowKit

theorem laws_toExpAsk (x : GAsk) (w : World) : Calls Try.prog 90 #[.agg #[.int .i64 x.op, .int .i64 x.var, .int .i64 x.k]] w fun e w' => e = .returned (.agg #[.int .i64 x.op, .int .i64 x.var, .int .i64 x.k]) ∧ Below w.heap.size w w' := by
  go_enter Try.func90, Try.ntmps90
  go_wp2
  go_returns
  exact ⟨rfl, by go_grown⟩
theorem laws_eqExpAsk (x : GAsk) (w : World) : Calls Try.prog 216 #[.agg #[.int .i64 x.op, .int .i64 x.var, .int .i64 x.k], .agg #[.int .i64 x.op, .int .i64 x.var, .int .i64 x.k]] w fun e w' => e = .returned (.bool true) ∧ Below w.heap.size w w' := by
  go_enter Try.func216, Try.ntmps216
  go_wp2
  go_returns
  exact ⟨rfl, by go_grown⟩
end Go.Proofs.Ytkkjljpokannkaa
