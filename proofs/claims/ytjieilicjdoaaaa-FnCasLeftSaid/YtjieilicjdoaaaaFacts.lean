/- What the kernel reckons of the whole program once, for all statements of this seat. -/
import Derived.Test.YtjieilicjdoaaaaRows
import Derived.JoinedOf
import Derived.KernelRfl
namespace Go.Proofs.Ytjieilicjdoaaaa
open Go

theorem fact_laid : laidOutB Try.prog = true := by kernel_rfl
theorem fact_rowed : mapsRowed Try.prog = true := by kernel_rfl
theorem fact_keys : (Rows.fnCasLeftRow.plainKeys == Try.prog.plainKeys) = true := by kernel_rfl
theorem fact_heard : Try.prog.stopsHeard = true := by kernel_rfl
theorem fact_enter : Try.prog.mayEnter = true := by kernel_rfl
theorem fact_lifts : (Rows.fnCasLeftRow.lifted == Try.prog.liftsFinal) = true := by kernel_rfl
theorem fact_make : (Try.prog.make == some Rows.fnCasLeftRow.make) = true := by kernel_rfl
theorem andT {a b : Bool} (h : a = true) (k : b = true) : (a && b) = true := by rw [h, k]; rfl
end Go.Proofs.Ytjieilicjdoaaaa
