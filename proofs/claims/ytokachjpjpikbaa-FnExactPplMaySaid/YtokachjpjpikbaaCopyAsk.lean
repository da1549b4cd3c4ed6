/- Questions copied and compared. -/
import Derived.Test.YtokachjpjpikbaaAsk
import Derived.Test.YtokachjpjpikbaaCopy
namespace Go.Proofs.Ytokachjpjpikbaa
open Go.RowKit

theorem laws_toExpAsk (x : GAsk) (w : World) : Calls Try.prog 104 #[.agg #[.int .i64 x.op, .int .i64 x.var, .int .i64 x.k]] w fun e w' => e = .returned (.agg #[.int .i64 x.op, .int .i64 x.var, .int .i64 x.k]) ∧ Below w.heap.size w w' := by
  go_enter Try.func104, Try.ntmps104
  go_wp2
  go_returns
  exact ⟨rfl, by go_grown⟩
theorem laws_eqExpAsk (x : GAsk) (w : World) : Calls Try.prog 220 #[.agg #[.int .i64 x.op, .int .i64 x.var, .int .i64 x.k], .agg #[.int .i64 x.op, .int .i64 x.var, .int .i64 x.k]] w fun e w' => e = .returned (.bool true) ∧ Below w.heap.size w w' := by
  go_enter Try.func220, Try.ntmps220
  go_wp2
  go_returns
  exact ⟨rfl, by go_grown⟩
end Go.Proofs.Ytokachjpjpikbaa
