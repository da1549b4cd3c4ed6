/- The program's depth and RdrDepth. -/
import Derived.Test.YtnnhhmdeoedmmaaRdrOkI
import Derived.Test.YtnnhhmdeoedmmaaDepth
import Derived.Deep.RegionWith
namespace Go.Proofs.Ytnnhhmdeoedmmaa
open Go.RowKit

theorem dep_bound (t : List GRule) : ∀ (f : Nat) (a : Int), dep t f a ≤ f
  | 0, a => Nat.le_refl _
  | f + 1, a => by
    by_cases ha : a = -1
    · rw [ha, dep_none]; omega
    · rw [dep_succ t f ha]
      have := dep_bound t f (rule t a).yes
      have := dep_bound t f (rule t a).no
      omega

set_option maxRecDepth 100000 in
set_option maxHeartbeats 2000000 in
theorem impl_depth (A : Option Addr) (c : Nat) (t : List GRule) (hok : treeOk t = true) (f : Nat) : ∀ (n : Nat) (a : Int) (m : Option Nat) (w : World), Rows ruleC m w w.heap.size A t → posOk t n a → t.length ≤ f + n → f ≤ 1000 →
    Calls Try.prog 69 #[.slice A t.length c, .int .i64 a] w fun e w' => e = .returned (.int .i64 (dep t f a : Nat)) ∧ ∃ k, w' = w.drewN k := by
  induction f with
  | zero =>
    intro n a m w hx ha hf hf1
    have h : a = -1 := by
      rcases ha with h | ⟨h1, h2⟩
      · exact h
      · omega
    subst h
    go_enter Try.func69, Try.ntmps69
    go_wp2
    go_ret
    exact ⟨rfl, 0, rfl⟩
  | succ f ih =>
    intro n a m w hx ha hf hf1
    rcases ha with rfl | ⟨h1, h2⟩
    · have HF := Lib.hid (dep_none t (f + 1))
      go_enter Try.func69, Try.ntmps69
      go_wp2
      go_ret
      exact ⟨by rw [HF.out]; rfl, 0, rfl⟩
    · obtain ⟨i, rfl⟩ := Int.eq_ofNat_of_zero_le (a := a) (by omega)
      have hil : i < t.length := by omega
      have hiz : (i : Int) < (t.length : Int) := by omega
      have hb1 : ((i : Int) == -1) = false := by simp
      have HS := Lib.hid (dep_succ t f (a := (i : Int)) (by omega))
      obtain ⟨hy, hn⟩ := kids hok hil
      rw [rule_get hil] at hy hn HS
      have HX := Lib.hid hx
      obtain ⟨b, off, A1, c1, rfl, hb, hr, hd0, hd1, hd2, hd3, hd4, hd5, hd6⟩ := rule_at hx hil
      have HI1 : Hid (∀ W : World, (∃ q, W = w.drewN q) → Calls Try.prog 69 #[.slice (some ⟨b, off, none⟩) t.length c, .int .i64 t[i].yes] W fun e w' => e = .returned (.int .i64 (dep t f t[i].yes : Nat)) ∧ ∃ k, w' = w.drewN k) := fun W hW => by
        obtain ⟨q, rfl⟩ := hW
        exact (ih (i + 1) _ m (w.drewN q) (HX.out : Rows ruleC m w w.heap.size _ t) hy (by omega) (by omega)).mono fun e w' ⟨h1, k, h2⟩ => ⟨h1, _, h2.trans (World.drewN_drewN _ _ _)⟩
      have HI2 : Hid (∀ W : World, (∃ q, W = w.drewN q) → Calls Try.prog 69 #[.slice (some ⟨b, off, none⟩) t.length c, .int .i64 t[i].no] W fun e w' => e = .returned (.int .i64 (dep t f t[i].no : Nat)) ∧ ∃ k, w' = w.drewN k) := fun W hW => by
        obtain ⟨q, rfl⟩ := hW
        exact (ih (i + 1) _ m (w.drewN q) (HX.out : Rows ruleC m w w.heap.size _ t) hn (by omega) (by omega)).mono fun e w' ⟨h1, k, h2⟩ => ⟨h1, _, h2.trans (World.drewN_drewN _ _ _)⟩
      have d1 := dep_bound t f t[i].yes
      have d2 := dep_bound t f t[i].no
      clear hr hd0 hd1 hd2 hd5 hd6 ih hx hy hn h1 h2
      generalize t[i] = y at hd3 hd4 HS HI1 HI2 d1 d2
      have HM : Hid (IntKind.i64.wrap (1 + if dep t f y.yes < dep t f y.no then ((dep t f y.no : Nat) : Int) else ((dep t f y.yes : Nat) : Int)) = ((1 + max (dep t f y.yes) (dep t f y.no) : Nat) : Int)) := by
        show _ = _
        rw [IntKind.wrap_i64]
        split <;> omega
      go_enter Try.func69, Try.ntmps69
      go_wp2
      go_region_with (first | (go_at_call_of 69 (y.yes); refine (HI1.out _ ?_).mono ?_; (first | exact ⟨1, rfl⟩ | exact ⟨_, rfl⟩); rintro e w' ⟨rfl, k, rfl⟩) | (go_at_call_of 69 (y.no); refine (HI2.out _ ?_).mono ?_; (first | exact ⟨1, rfl⟩ | exact ⟨_, rfl⟩); rintro e w' ⟨rfl, k, rfl⟩))
      all_goals rw [HM.out]
      all_goals go_wp2
      all_goals refine bodyPost_ret (v := .int .i64 (1 + ((max (dep t f y.yes) (dep t f y.no) : Nat) : Int))) (by simp [results, Try.results69, go_sem]) rfl ?_
      all_goals exact ⟨by rw [HS.out]; simp, _, rfl⟩

theorem impl_RdrDepth (A : Option Addr) (c : Nat) (t : List GRule) (m : Option Nat) (w : World) (hx : Rows ruleC m w w.heap.size A t) (hl : t.length ≤ 1048576) :
    Calls Try.prog 24 #[.slice A t.length c] w (Says (.int .i64 (rdrDepth t : Nat)) w) := by
  have HX := Lib.hid hx
  have hrl := hx.1
  clear hx
  go_enter Try.func24, Try.ntmps24
  go_wp2_with fail
  refine (impl_RdrOk A c t m w HX.out hl).mono ?_
  rintro e w1 ⟨rfl, hb1⟩
  have B1 := Lib.hid hb1
  clear hb1
  cases q1 : treeOk t with
  | false =>
    have HW : Hid (rdrDepth t = 0) := by show _ = _; unfold rdrDepth; rw [q1]; rfl
    go_wp2
    go_ret
    exact ⟨by rw [HW.out]; rfl, B1.out⟩
  | true =>
    have HW : Hid (rdrDepth t = dep t t.length 0) := by show _ = _; unfold rdrDepth; rw [q1]; rfl
    have hl12 := treeOk_len q1
    by_cases h0 : t.length = 0
    · have hz : ((t.length : Int) == 0) = true := by simp [h0]
      have HW2 : Hid (rdrDepth t = 0) := by show _ = _; rw [HW.out, h0]; rfl
      clear h0
      go_wp2
      go_ret
      exact ⟨by rw [HW2.out]; rfl, B1.out⟩
    · have hz : ((t.length : Int) == 0) = false := by rw [beq_eq_false_iff_ne]; omega
      have hp : posOk t 0 0 := .inr ⟨by omega, by omega⟩
      have H12 := Lib.hid hl12
      clear hl12 h0
      go_wp2_with fail
      refine (impl_depth A c t q1 t.length 0 0 m w1 (HX.out.later B1.out) hp (by omega) (by have := H12.out; omega)).mono ?_
      rintro e w2 ⟨rfl, k, rfl⟩
      go_wp2
      go_ret
      exact ⟨by rw [HW.out]; rfl, bdN B1.out _⟩
end Go.Proofs.Ytnnhhmdeoedmmaa
