/- The walk of FnRdrOk: it returns true. -/
import Derived.Test.YtnnhhmdeoedmmaaDrawRdr
import Derived.Test.YtnnhhmdeoedmmaaRdrOkI
import Derived.Test.YtnnhhmdeoedmmaaDepthI
import Derived.Deep.RegionHeld3
namespace Go.Proofs.Ytnnhhmdeoedmmaa
open Go.RowKit

/-- How many of the first k rules ask rule j next. -/
def askers (t : List GRule) (k j : Nat) : Nat := ((t.take k).filter fun r => decide (r.yes = (j : Int)) || decide (r.no = (j : Int))).length
theorem askers_succ (t : List GRule) (k j : Nat) (hk : k < t.length) : askers t (k + 1) j = askers t k j + (if decide (t[k].yes = (j : Int)) || decide (t[k].no = (j : Int)) then 1 else 0) := by
  unfold askers
  rw [List.take_succ_eq_append_getElem hk, List.filter_append, List.length_append]
  cases h : decide (t[k].yes = (j : Int)) || decide (t[k].no = (j : Int)) <;> simp [h]
theorem askers_named (t : List GRule) (j : Nat) : ∀ k, k ≤ t.length → askers t k j ≤ named t k j ∧ (askers t k j = 0 → named t k j = 0) := fun k hk => by
  induction k with
  | zero => simp [askers, named]
  | succ k ih =>
    obtain ⟨h1, h2⟩ := ih (by omega)
    rw [askers_succ t k j hk, named_succ t k j hk]
    by_cases hy : t[k].yes = (j : Int)
    · by_cases hn : t[k].no = (j : Int)
      · simp [hit, hy, hn]; omega
      · simp [hit, hy, hn]; omega
    · by_cases hn : t[k].no = (j : Int)
      · simp [hit, hy, hn]; omega
      · simp [hit, hy, hn]; omega
theorem askers_ok {t : List GRule} (h : treeOk t = true) {j : Nat} (hj : j < t.length) : askers t t.length j = if j = 0 then 0 else 1 := by
  obtain ⟨h1, h2⟩ := askers_named t j t.length (Nat.le_refl _)
  have h3 := (treeOk_at h hj).2.2.2.2
  split
  · rename_i h0
    rw [if_pos h0] at h3
    omega
  · rename_i h0
    rw [if_neg h0] at h3
    have : askers t t.length j ≠ 0 := fun h => by have := h2 h; omega
    omega
theorem askers_le (t : List GRule) (k j : Nat) : askers t k j ≤ k := by
  unfold askers
  refine Nat.le_trans (List.length_filter_le _ _) ?_
  rw [List.length_take]; omega

set_option maxRecDepth 100000 in
set_option maxHeartbeats 4000000 in
theorem walk_FnRdrOk (A : Option Addr) (c : Nat) (xs : List Int) (w : World) (hx : Code w w.heap.size A c xs) :
    Calls Try.prog 6 #[.slice A xs.length c] w fun e w' => e = .returned (.bool true) ∧ Below w.heap.size w w' := by
  by_cases hl : xs.length ≤ 1048576
  · have hlz : ¬ (1048576 : Int) < xs.length := by omega
    have HX := Lib.hid hx
    clear hx
    go_enter Try.func6, Try.ntmps6
    go_wp2_with fail
    refine (spec_DrawRdrOk A c xs w HX.out).mono ?_
    rintro e w1 ⟨A1, c1, t, rfl, htl, hst, hrow, hb1⟩
    have T1 := Lib.hid hrow
    have B1 := Lib.hid hb1
    clear hrow hb1 hst hlz
    go_wp2_with fail
    refine (impl_RdrOk A1 c1 t none w1 T1.out (by omega)).mono ?_
    rintro e w2 ⟨rfl, hb2⟩
    have Q2 := Lib.hid hb2
    clear hb2
    go_wp2_with fail
    refine (spec_RdrOk A1 c1 t none w2 (T1.out.later Q2.out)).mono ?_
    rintro e w3 ⟨rfl, hb3⟩
    have Q3 := Lib.hid (Q2.out.trans (hb3.mono Q2.out.size))
    clear hb3 Q2
    cases q : treeOk t with
    | false =>
      have HD : Hid (rdrDepth t = 0) := by show _ = _; unfold rdrDepth; rw [q]; rfl
      go_wp2_with fail
      refine (impl_RdrDepth A1 c1 t none w3 (T1.out.later Q3.out) (by omega)).mono ?_
      rintro e w4 ⟨rfl, hb4⟩
      rw [HD.out]
      have Q4 := Lib.hid (Q3.out.trans (hb4.mono Q3.out.size))
      clear hb4
      go_wp2_with (go_at_call 30; refine (laws_guOk _).mono ?_; rintro e w8 ⟨rfl, hb8⟩; have B8 := Lib.hid hb8; clear hb8)
      go_ret
      exact ⟨rfl, B1.out.trans ((Q4.out.trans (B8.out.mono Q4.out.size)).mono B1.out.size)⟩
    | true =>
      have HOK := Lib.hid q
      clear q
      go_wp2
      go_loopg [5, 6, 7] t.length (fun gg s5 _ _ wr => ∃ k : Nat, k ≤ t.length ∧ t.length - k ≤ gg ∧ s5 = .int .i64 k ∧ Aside (Below w3.heap.size w3 wr))
      case atStart => exact ⟨0, Nat.zero_le _, by omega, rfl, Below.refl _ _⟩
      case round =>
        obtain ⟨k, hk, hg, rfl, BW⟩ := hrel
        have QW := Lib.hid (Q3.out.trans (BW.out.mono Q3.out.size))
        by_cases hlt : k < t.length
        · have hltz : (k : Int) < (t.length : Int) := by omega
          have HAK := Lib.hid (askers_ok HOK.out hlt)
          obtain ⟨wo, hwo⟩ : ∃ wo : World, wo = wr := ⟨_, rfl⟩
          subst hwo
          go_wp2
          go_loopg [6, 7] t.length (fun g2 s6 s7 wi => ∃ j : Nat, j ≤ t.length ∧ t.length - j ≤ g2 ∧ s7 = .int .i64 j ∧ s6 = .int .i64 (askers t j k : Nat) ∧ Aside (wo = wi))
          case atStart => exact ⟨0, Nat.zero_le _, by omega, rfl, by simp [askers], rfl⟩
          case round =>
            obtain ⟨j, hj, hg2, rfl, rfl, EW⟩ := hrel
            obtain rfl := EW.out
            by_cases hjl : j < t.length
            · have hjz : (j : Int) < (t.length : Int) := by omega
              obtain ⟨b, off, A3, c3, rfl, hb, hr, hd0, hd1, hd2, hd3, hd4, hd5, hd6⟩ := rule_at (T1.out.later QW.out) hjl
              have HN := Lib.hid (askers_succ t j k hjl)
              obtain ⟨_, _, oy, on, _⟩ := treeOk_at HOK.out hjl
              have HY := Lib.hid (nextOk_pos oy)
              have HNn := Lib.hid (nextOk_pos on)
              have hal := askers_le t j k
              clear hr hd0 hd1 hd2 hd5 hd6 oy on
              generalize t[j] = y at hd3 hd4 HN HY HNn
              by_cases hy : y.yes = (k : Int)
              · have e1 : (y.yes == (k : Int)) = true := by simp [hy]
                have HS : Hid (askers t (j + 1) k = askers t j k + 1) := by show _ = _; rw [HN.out]; simp [hy]
                have hjk : (j : Int) < (k : Int) := by
                  rcases HY.out with h | ⟨h, _⟩
                  · rw [hy] at h; omega
                  · rw [hy] at h; omega
                clear hy
                go_wp2
                go_roundg (t.length - (j + 1))
                case measure => omega
                case rel => exact ⟨j + 1, by omega, by omega, by go_num, by rw [HS.out]; go_num, rfl⟩
              · have e1 : (y.yes == (k : Int)) = false := by simp [hy]
                by_cases hn : y.no = (k : Int)
                · have e2 : (y.no == (k : Int)) = true := by simp [hn]
                  have HS : Hid (askers t (j + 1) k = askers t j k + 1) := by show _ = _; rw [HN.out]; simp [hn]
                  have hjk : (j : Int) < (k : Int) := by
                    rcases HNn.out with h | ⟨h, _⟩
                    · rw [hn] at h; omega
                    · rw [hn] at h; omega
                  clear hy hn
                  go_wp2
                  go_roundg (t.length - (j + 1))
                  case measure => omega
                  case rel => exact ⟨j + 1, by omega, by omega, by go_num, by rw [HS.out]; go_num, rfl⟩
                · have e2 : (y.no == (k : Int)) = false := by simp [hn]
                  have HS : Hid (askers t (j + 1) k = askers t j k) := by show _ = _; rw [HN.out]; simp [hy, hn]
                  clear hy hn
                  go_wp2
                  go_roundg (t.length - (j + 1))
                  case measure => omega
                  case rel => exact ⟨j + 1, by omega, by omega, by go_num, by rw [HS.out], rfl⟩
            · have hjz : ¬ (j : Int) < (t.length : Int) := by omega
              have he : j = t.length := by omega
              rw [he, HAK.out]
              clear he
              obtain ⟨b, off, A3, c3, rfl, hb, hr, hd0, hd1, hd2, hd3, hd4, hd5, hd6⟩ := rule_at (T1.out.later QW.out) hlt
              have HR := Lib.hid hr.ints
              have HH := Lib.hid (treeOk_at HOK.out hlt).1
              have HS : Hid ((fun W : World => W.cell? ⟨b, off + k * 7, none⟩ = some (.int .i64 t[k].ask.op) ∧ W.cell? ⟨b, off + k * 7 + 1, none⟩ = some (.int .i64 t[k].ask.var) ∧ W.cell? ⟨b, off + k * 7 + 2, none⟩ = some (.int .i64 t[k].ask.k) ∧ W.cell? ⟨b, off + k * 7 + 6, none⟩ = some (.slice A3 t[k].stone.length c3)) wo.drew) := ⟨hd0, hd1, hd2, hd6⟩
              have HRd : Hid (Ints wo.drew wo.drew.heap.size A3 t[k].stone) := HR.out
              clear hr hd3 hd4 hd5
              generalize t[k] = y at HS HRd HH hd0 hd1 hd2 hd6
              have hbw : b < wo.drew.heap.size := hb
              have g1 : ∀ n : Nat, n = (if k = 0 then 0 else 1) → ¬ (1 : Int) < (n : Int) := fun n hn => by rw [hn]; split <;> omega
              clear HR hd0 hd1 hd2 hd6
              rcases Nat.eq_zero_or_pos k with h0 | h0
              · subst h0
                rw [if_pos rfl]
                clear g1
                rw [Nat.zero_mul, Nat.add_zero] at HS
                go_wp2
                go_region_held3 (fun W : World => W.cell? ⟨b, off, none⟩ = some (.int .i64 y.ask.op) ∧ W.cell? ⟨b, off + 1, none⟩ = some (.int .i64 y.ask.var) ∧ W.cell? ⟨b, off + 2, none⟩ = some (.int .i64 y.ask.k) ∧ W.cell? ⟨b, off + 6, none⟩ = some (.slice A3 y.stone.length c3)) (first | exact HS.out | exact HS6.out)
                  (first
                    | (go_at_call 31; refine (impl_ExpHolds y.ask A3 c3 y.stone _ HRd.out).mono ?_; rintro e w6 ⟨rfl, hb6⟩; rw [HH.out]; have B6 := Lib.hid hb6; have HS6 := Lib.hid (⟨(hb6.cell (p := ⟨b, off, none⟩) hbw).trans HS.out.1, (hb6.cell (p := ⟨b, off + 1, none⟩) hbw).trans HS.out.2.1, (hb6.cell (p := ⟨b, off + 2, none⟩) hbw).trans HS.out.2.2.1, (hb6.cell (p := ⟨b, off + 6, none⟩) hbw).trans HS.out.2.2.2⟩ : (fun W : World => W.cell? ⟨b, off, none⟩ = some (.int .i64 y.ask.op) ∧ W.cell? ⟨b, off + 1, none⟩ = some (.int .i64 y.ask.var) ∧ W.cell? ⟨b, off + 2, none⟩ = some (.int .i64 y.ask.k) ∧ W.cell? ⟨b, off + 6, none⟩ = some (.slice A3 y.stone.length c3)) w6); clear hb6))
                go_wp2
                go_roundg (t.length - (0 + 1))
                case measure => omega
                case rel => exact ⟨0 + 1, by omega, by omega, by go_num, BW.out.drew.trans (B6.out.mono BW.out.size)⟩
              · have g0 : ((k : Int) == 0) = false := by rw [beq_eq_false_iff_ne]; omega
                rw [if_neg (by omega)]
                clear g1
                go_wp2
                go_region_held3 (fun W : World => W.cell? ⟨b, off + k * 7, none⟩ = some (.int .i64 y.ask.op) ∧ W.cell? ⟨b, off + k * 7 + 1, none⟩ = some (.int .i64 y.ask.var) ∧ W.cell? ⟨b, off + k * 7 + 2, none⟩ = some (.int .i64 y.ask.k) ∧ W.cell? ⟨b, off + k * 7 + 6, none⟩ = some (.slice A3 y.stone.length c3)) (first | exact HS.out | exact HS6.out)
                  (first
                    | (go_at_call 31; refine (impl_ExpHolds y.ask A3 c3 y.stone _ HRd.out).mono ?_; rintro e w6 ⟨rfl, hb6⟩; rw [HH.out]; have B6 := Lib.hid hb6; have HS6 := Lib.hid (⟨(hb6.cell (p := ⟨b, off + k * 7, none⟩) hbw).trans HS.out.1, (hb6.cell (p := ⟨b, off + k * 7 + 1, none⟩) hbw).trans HS.out.2.1, (hb6.cell (p := ⟨b, off + k * 7 + 2, none⟩) hbw).trans HS.out.2.2.1, (hb6.cell (p := ⟨b, off + k * 7 + 6, none⟩) hbw).trans HS.out.2.2.2⟩ : (fun W : World => W.cell? ⟨b, off + k * 7, none⟩ = some (.int .i64 y.ask.op) ∧ W.cell? ⟨b, off + k * 7 + 1, none⟩ = some (.int .i64 y.ask.var) ∧ W.cell? ⟨b, off + k * 7 + 2, none⟩ = some (.int .i64 y.ask.k) ∧ W.cell? ⟨b, off + k * 7 + 6, none⟩ = some (.slice A3 y.stone.length c3)) w6); clear hb6))
                go_wp2
                go_roundg (t.length - (k + 1))
                case measure => omega
                case rel => exact ⟨k + 1, by omega, by omega, by go_num, BW.out.drew.trans (B6.out.mono BW.out.size)⟩
        · have hltz : ¬ (k : Int) < (t.length : Int) := by omega
          have a1 : ((rdrDepth t : Nat) : Int) ≤ (t.length : Int) := by have := rdrDepth_le t; omega
          have c1' : decide (((rdrDepth t : Nat) : Int) ≤ (t.length : Int)) = true := decide_eq_true a1
          go_wp2_with (go_at_call 24; refine (impl_RdrDepth A1 c1 t none _ (T1.out.later QW.out) (by omega)).mono ?_; rintro e w9 ⟨rfl, hb9⟩; have B9 := Lib.hid hb9; clear hb9)
          go_ret
          exact ⟨by simp, B1.out.trans ((QW.out.trans (B9.out.mono QW.out.size)).mono B1.out.size)⟩
  · have hz : (1048576 : Int) < xs.length := by omega
    go_enter Try.func6, Try.ntmps6
    go_wp2
    go_ret
    exact ⟨rfl, Below.refl _ _⟩
end Go.Proofs.Ytnnhhmdeoedmmaa
