/- ExpHolds of the program and of the reference. -/
import Derived.Test.YtkoaaagmcjjimaaGreatRule
import Derived.Deep.RegionHeld3
namespace Go.Proofs.YtkoaaagmcjjimaaGreat
open Go.RowKit

theorem spec_DatOk' (A : Option Addr) (c : Nat) (xs : List Int) (w : World) (hx : Ints w w.heap.size A xs) :
    Calls Tryz.prog 41 #[.slice A xs.length c] w fun e w' => e = .returned (.bool (datOk xs)) ∧ Below w.heap.size w w' :=
  (spec_DatOk A c xs w w.heap.size hx).mono fun e w' ⟨h, h2⟩ => ⟨h, by subst h2; exact Below.refl _ _⟩
theorem impl_DatOk' (A : Option Addr) (c : Nat) (xs : List Int) (w : World) (hx : Ints w w.heap.size A xs) :
    Calls Tryz.prog 70 #[.slice A xs.length c] w fun e w' => e = .returned (.bool (datOk xs)) ∧ Below w.heap.size w w' := impl_DatOk A c xs w hx

theorem holds_no {e : GAsk} {d : List Int} (h : askOk e = false ∨ datOk d = false) : holds e d = false := by
  unfold holds
  rcases h with h | h <;> simp [h]
theorem holds_yes {e : GAsk} {d : List Int} (h : askOk e = true) (h2 : datOk d = true) : holds e d = (if e.op = 1 then decide (d.getD e.var.toNat 0 < e.k) else if e.op = 2 then decide (d.getD e.var.toNat 0 = e.k) else if e.op = 3 then decide (e.k < d.getD e.var.toNat 0) else true) := by
  unfold holds
  rw [h, h2]; rfl
theorem askOk_var {e : GAsk} (h : askOk e = true) : 0 ≤ e.var ∧ e.var ≤ 2 ∧ 0 ≤ e.op ∧ e.op ≤ 3 := by
  unfold askOk at h
  split at h
  · simp at h; omega
  · simp [inB] at h; omega

end Go.Proofs.YtkoaaagmcjjimaaGreat
