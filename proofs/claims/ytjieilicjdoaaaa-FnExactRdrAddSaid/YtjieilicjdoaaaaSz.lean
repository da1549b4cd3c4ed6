/- Slices of ints measured. -/
import Derived.Test.YtjieilicjdoaaaaCopy
namespace Go.Proofs.Ytjieilicjdoaaaa
open Go.RowKit

theorem szOf_le {n : Nat} {left : Int} (h : 0 ≤ left) : -1 ≤ szOf n left ∧ szOf n left ≤ left := by unfold szOf; split <;> omega
theorem szOf_pos {n : Nat} {left : Int} (h : ¬ szOf n left < 0) : szOf n left = left - n ∧ (n : Int) ≤ left := by unfold szOf at h ⊢; split at h <;> omega

theorem laws_szIntS (A : Option Addr) (c n : Nat) (left : Int) (h0 : -1 ≤ left) (h1 : left ≤ 1048576) (hn : n ≤ 9223372036854775807) (w : World) :
    Calls Try.prog 49 #[.slice A n c, .int .i64 left] w fun e w' => e = .returned (.int .i64 (szOf n left)) ∧ w = w' := by
  by_cases h : left - n < 0
  · have HF : Hid (szOf n left = -1) := if_pos h
    go_enter Try.func49, Try.ntmps49
    go_wp2
    go_ret
    exact ⟨by rw [HF.out]; rfl, rfl⟩
  · have HF : Hid (szOf n left = left - n) := if_neg h
    go_enter Try.func49, Try.ntmps49
    go_wp2
    go_ret
    exact ⟨by rw [HF.out]; rfl, rfl⟩

end Go.Proofs.Ytjieilicjdoaaaa
