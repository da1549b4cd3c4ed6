/- What the kernel reckons of the whole program once, for all statements of this seat. -/
import Derived.Test.YtkoaaagmcjjimaaGreatRows
import Derived.JoinedOf
import Derived.KernelRfl
namespace Go.Proofs.YtkoaaagmcjjimaaGreat
open Go

theorem fact_laid : laidOutB Tryz.prog = true := by kernel_rfl
theorem fact_rowed : mapsRowed Tryz.prog = true := by kernel_rfl
theorem fact_keys : (Rows.fnExactCasCanRow.plainKeys == Tryz.prog.plainKeys) = true := by kernel_rfl
theorem fact_heard : Tryz.prog.stopsHeard = true := by kernel_rfl
theorem fact_enter : Tryz.prog.mayEnter = true := by kernel_rfl
theorem fact_lifts : (Rows.fnExactCasCanRow.lifted == Tryz.prog.liftsFinal) = true := by kernel_rfl
theorem fact_make : (Tryz.prog.make == some Rows.fnExactCasCanRow.make) = true := by kernel_rfl
theorem andT {a b : Bool} (h : a = true) (k : b = true) : (a && b) = true := by rw [h, k]; rfl
end Go.Proofs.YtkoaaagmcjjimaaGreat
