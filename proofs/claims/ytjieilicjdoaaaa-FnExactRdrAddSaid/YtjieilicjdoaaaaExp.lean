/- ExpHolds of the program and of the reference. -/
import Derived.Test.YtjieilicjdoaaaaRule
import Derived.Deep.RegionHeld3
namespace Go.Proofs.Ytjieilicjdoaaaa
open Go.RowKit

theorem spec_DatOk' (A : Option Addr) (c : Nat) (xs : List Int) (w : World) (hx : Ints w w.heap.size A xs) :
    Calls Try.prog 30 #[.slice A xs.length c] w fun e w' => e = .returned (.bool (datOk xs)) ∧ Below w.heap.size w w' :=
  (spec_DatOk A c xs w w.heap.size hx).mono fun e w' ⟨h, h2⟩ => ⟨h, by subst h2; exact Below.refl _ _⟩
theorem impl_DatOk' (A : Option Addr) (c : Nat) (xs : List Int) (w : World) (hx : Ints w w.heap.size A xs) :
    Calls Try.prog 38 #[.slice A xs.length c] w fun e w' => e = .returned (.bool (datOk xs)) ∧ Below w.heap.size w w' := impl_DatOk A c xs w hx

theorem holds_no {e : GAsk} {d : List Int} (h : askOk e = false ∨ datOk d = false) : holds e d = false := by
  unfold holds
  rcases h with h | h <;> simp [h]
theorem holds_yes {e : GAsk} {d : List Int} (h : askOk e = true) (h2 : datOk d = true) : holds e d = (if e.op = 1 then decide (d.getD e.var.toNat 0 < e.k) else if e.op = 2 then decide (d.getD e.var.toNat 0 = e.k) else if e.op = 3 then decide (e.k < d.getD e.var.toNat 0) else true) := by
  unfold holds
  rw [h, h2]; rfl
theorem askOk_var {e : GAsk} (h : askOk e = true) : 0 ≤ e.var ∧ e.var ≤ 2 ∧ 0 ≤ e.op ∧ e.op ≤ 3 := by
  unfold askOk at h
  split at h
  · simp at h; omega
  · simp [inB] at h; omega

set_option maxHeartbeats 1000000 in
theorem spec_ExpHolds (x : GAsk) (A : Option Addr) (c : Nat) (xs : List Int) (w : World) (hx : Ints w w.heap.size A xs) :
    Calls Try.prog 31 #[.agg #[.int .i64 x.op, .int .i64 x.var, .int .i64 x.k], .slice A xs.length c] w (Says (.bool (holds x xs)) w) := by
  have HX := Lib.hid hx
  clear hx
  cases q1 : askOk x with
  | false =>
    have HF := Lib.hid (holds_no (e := x) (d := xs) (.inl q1))
    go_enter Try.func31, Try.ntmps31
    go_wp2_with fail
    refine (spec_ExpOk x _).mono ?_
    rintro e w1 ⟨rfl, hb⟩
    rw [q1]
    have HB := Lib.hid hb
    clear hb q1
    go_wp2
    go_ret
    exact ⟨by rw [HF.out]; rfl, ((Below.refl _ w).alloc (Nat.le_refl _) _).trans (HB.out.mono (by simp))⟩
  | true =>
    cases q2 : datOk xs with
    | false =>
      have HF := Lib.hid (holds_no (e := x) (d := xs) (.inr q2))
      go_enter Try.func31, Try.ntmps31
      go_wp2_with fail
      refine (spec_ExpOk x _).mono ?_
      rintro e w1 ⟨rfl, hb⟩
      rw [q1]
      have HB := Lib.hid (((Below.refl _ w).alloc (Nat.le_refl _) _).trans (hb.mono (by simp)))
      clear hb q1
      go_wp2_with fail
      refine (spec_DatOk' A c xs _ ((HX.out.below HB.out).more HB.out.size)).mono ?_
      rintro e w2 ⟨rfl, hb2⟩
      rw [q2]
      have HB2 := Lib.hid (HB.out.trans (hb2.mono HB.out.size))
      clear hb2 q2
      go_wp2
      go_ret
      exact ⟨by rw [HF.out]; rfl, HB2.out⟩
    | true =>
      have HF := Lib.hid (holds_yes q1 q2)
      obtain ⟨v0, v2, o0, o3⟩ := askOk_var q1
      have hl3 := Lib.hid (datOk_len q2)
      go_enter Try.func31, Try.ntmps31
      go_wp2_with fail
      refine callsAt fun W hW => ?_
      have b0 : Bk W w.heap.size 32 #[.int .i64 x.op, .int .i64 x.var, .int .i64 x.k] := by rw [hW]; exact Bk.new rfl
      have hB0 : Below w.heap.size w W := by rw [hW]; exact (Below.refl _ _).alloc (Nat.le_refl _) _
      clear hW
      refine (spec_ExpOk x _).mono ?_
      rintro e w1 ⟨rfl, hb⟩
      rw [q1]
      have HB := Lib.hid (hB0.trans (hb.mono hB0.size))
      have b1 := b0.later hb
      have k1 := fun i => b1.cell i
      have B1 := Lib.hid b1
      clear hb q1 b0 b1 hB0
      go_wp2_with fail
      refine (spec_DatOk' A c xs _ ((HX.out.below HB.out).more HB.out.size)).mono ?_
      rintro e w2 ⟨rfl, hb2⟩
      rw [q2]
      have HB2 := Lib.hid (HB.out.trans (hb2.mono HB.out.size))
      have b2 := B1.out.later hb2
      have k2 := fun i => b2.cell i
      clear hb2 q2 k1 b2
      obtain ⟨v, hv⟩ := Int.eq_ofNat_of_zero_le v0
      have hvl : v < xs.length := by have := hl3.out; omega
      have hvz : (v : Int) < (xs.length : Int) := by omega
      obtain ⟨b, off, rfl, hb, hc0⟩ := HX.out.at_ hvl
      have hc := (HB2.out.cell (p := ⟨b, off + v, none⟩) hb).trans hc0
      have HG : Hid (xs.getD x.var.toNat 0 = xs[v]) := by show _ = _; rw [hv, Int.toNat_natCast, getD_get hvl]
      clear hc0
      rw [hv] at k2
      generalize xs[v] = y at hc HG
      rcases (by omega : x.op = 0 ∨ x.op = 1 ∨ x.op = 2 ∨ x.op = 3) with ho | ho | ho | ho
      · rw [ho] at k2
        go_wp2
        go_ret
        exact ⟨by rw [HF.out, if_neg (by omega), if_neg (by omega), if_neg (by omega)]; rfl, HB2.out⟩
      · rw [ho] at k2
        go_wp2
        go_quiet (fail)
        go_wp2
        go_ret
        exact ⟨by rw [HF.out, if_pos ho, HG.out]; rfl, bdN HB2.out _⟩
      · rw [ho] at k2
        go_wp2
        go_quiet (fail)
        go_wp2
        go_ret
        exact ⟨by rw [HF.out, if_neg (by omega), if_pos ho, HG.out]; rfl, bdN HB2.out _⟩
      · rw [ho] at k2
        go_wp2
        go_quiet (fail)
        go_wp2
        go_ret
        exact ⟨by rw [HF.out, if_neg (by omega), if_neg (by omega), if_pos ho, HG.out]; rfl, bdN HB2.out _⟩
set_option maxHeartbeats 1000000 in
theorem impl_ExpHolds (x : GAsk) (A : Option Addr) (c : Nat) (xs : List Int) (w : World) (hx : Ints w w.heap.size A xs) :
    Calls Try.prog 40 #[.agg #[.int .i64 x.op, .int .i64 x.var, .int .i64 x.k], .slice A xs.length c] w (Says (.bool (holds x xs)) w) := by
  have HX := Lib.hid hx
  clear hx
  cases q1 : askOk x with
  | false =>
    have HF := Lib.hid (holds_no (e := x) (d := xs) (.inl q1))
    go_enter Try.func40, Try.ntmps40
    go_wp2_with fail
    refine (impl_ExpOk x _).mono ?_
    rintro e w1 ⟨rfl, hb⟩
    rw [q1]
    have HB := Lib.hid hb
    clear hb q1
    go_wp2
    go_ret
    exact ⟨by rw [HF.out]; rfl, ((Below.refl _ w).alloc (Nat.le_refl _) _).trans (HB.out.mono (by simp))⟩
  | true =>
    cases q2 : datOk xs with
    | false =>
      have HF := Lib.hid (holds_no (e := x) (d := xs) (.inr q2))
      go_enter Try.func40, Try.ntmps40
      go_wp2_with fail
      refine (impl_ExpOk x _).mono ?_
      rintro e w1 ⟨rfl, hb⟩
      rw [q1]
      have HB := Lib.hid (((Below.refl _ w).alloc (Nat.le_refl _) _).trans (hb.mono (by simp)))
      clear hb q1
      go_wp2_with fail
      refine (impl_DatOk' A c xs _ ((HX.out.below HB.out).more HB.out.size)).mono ?_
      rintro e w2 ⟨rfl, hb2⟩
      rw [q2]
      have HB2 := Lib.hid (HB.out.trans (hb2.mono HB.out.size))
      clear hb2 q2
      go_wp2
      go_ret
      exact ⟨by rw [HF.out]; rfl, HB2.out⟩
    | true =>
      have HF := Lib.hid (holds_yes q1 q2)
      obtain ⟨v0, v2, o0, o3⟩ := askOk_var q1
      have hl3 := Lib.hid (datOk_len q2)
      go_enter Try.func40, Try.ntmps40
      go_wp2_with fail
      refine callsAt fun W hW => ?_
      have b0 : Bk W w.heap.size 32 #[.int .i64 x.op, .int .i64 x.var, .int .i64 x.k] := by rw [hW]; exact Bk.new rfl
      have hB0 : Below w.heap.size w W := by rw [hW]; exact (Below.refl _ _).alloc (Nat.le_refl _) _
      clear hW
      refine (impl_ExpOk x _).mono ?_
      rintro e w1 ⟨rfl, hb⟩
      rw [q1]
      have HB := Lib.hid (hB0.trans (hb.mono hB0.size))
      have b1 := b0.later hb
      have k1 := fun i => b1.cell i
      have B1 := Lib.hid b1
      clear hb q1 b0 b1 hB0
      go_wp2_with fail
      refine (impl_DatOk' A c xs _ ((HX.out.below HB.out).more HB.out.size)).mono ?_
      rintro e w2 ⟨rfl, hb2⟩
      rw [q2]
      have HB2 := Lib.hid (HB.out.trans (hb2.mono HB.out.size))
      have b2 := B1.out.later hb2
      have k2 := fun i => b2.cell i
      clear hb2 q2 k1 b2
      obtain ⟨v, hv⟩ := Int.eq_ofNat_of_zero_le v0
      have hvl : v < xs.length := by have := hl3.out; omega
      have hvz : (v : Int) < (xs.length : Int) := by omega
      obtain ⟨b, off, rfl, hb, hc0⟩ := HX.out.at_ hvl
      have hc := (HB2.out.cell (p := ⟨b, off + v, none⟩) hb).trans hc0
      have HG : Hid (xs.getD x.var.toNat 0 = xs[v]) := by show _ = _; rw [hv, Int.toNat_natCast, getD_get hvl]
      clear hc0
      rw [hv] at k2
      generalize xs[v] = y at hc HG
      rcases (by omega : x.op = 0 ∨ x.op = 1 ∨ x.op = 2 ∨ x.op = 3) with ho | ho | ho | ho
      · rw [ho] at k2
        go_wp2
        go_ret
        exact ⟨by rw [HF.out, if_neg (by omega), if_neg (by omega), if_neg (by omega)]; rfl, HB2.out⟩
      · rw [ho] at k2
        go_wp2
        go_quiet (fail)
        go_wp2
        go_ret
        exact ⟨by rw [HF.out, if_pos ho, HG.out]; rfl, bdN HB2.out _⟩
      · rw [ho] at k2
        go_wp2
        go_quiet (fail)
        go_wp2
        go_ret
        exact ⟨by rw [HF.out, if_neg (by omega), if_pos ho, HG.out]; rfl, bdN HB2.out _⟩
      · rw [ho] at k2
        go_wp2
        go_quiet (fail)
        go_wp2
        go_ret
        exact ⟨by rw [HF.out, if_neg (by omega), if_neg (by omega), if_pos ho, HG.out]; rfl, bdN HB2.out _⟩
end Go.Proofs.Ytjieilicjdoaaaa
