/- The reference's l7Walk, RdrHeld, RdrAsk, RdrWay. -/
import Derived.Test.YtnnhhmdeoedmmaaWay
namespace Go.Proofs.Ytnnhhmdeoedmmaa
open Go.RowKit

def Walked (t : List GRule) (d : List Int) (w : World) (e : Ending) (w' : World) : Prop :=
  e = .returned (.tuple #[.int .i64 (heldOf t d (wayL t d)), .int .i64 (lastOf (wayL t d))]) ∧ Below w.heap.size w w'

set_option maxRecDepth 100000 in
set_option maxHeartbeats 2000000 in
theorem spec_l7Walk (A A' : Option Addr) (c c' : Nat) (t : List GRule) (d : List Int) (m : Option Nat) (w : World) (hx : Rows ruleC m w w.heap.size A t) (hd : Ints w w.heap.size A' d) (hok : treeOk t = true) :
    Calls Try.prog 70 #[.slice A t.length c, .slice A' d.length c'] w (Walked t d w) := by
  have hlen := treeOk_len hok
  have hrl := hx.1
  have HX := Lib.hid hx
  have HD := Lib.hid hd
  have HOK := Lib.hid hok
  have HL := Lib.hid hlen
  clear hx hd hok hlen
  by_cases h0 : t.length = 0
  · have HW : Hid (wayL t d = []) := way_eq (n := 0) (by unfold pos; rw [if_pos h0]) (fun j hj => absurd hj (Nat.not_lt_zero _)) (by omega)
    have hz : ((t.length : Int) == 0) = true := by simp [h0]
    clear h0
    go_enter Try.func70, Try.ntmps70
    go_wp2
    go_rounds 1
    refine bodyPost_ret (v := .tuple #[.int .i64 (-1), .int .i64 (-1)]) (by simp [results, Try.results70, go_sem]) rfl ?_
    exact ⟨by rw [HW.out]; rfl, Below.refl _ _⟩
  have hp0 : pos t d 0 = 0 := by unfold pos; rw [if_neg h0]
  have hz : ((t.length : Int) == 0) = false := by rw [beq_eq_false_iff_ne]; omega
  have HP := Lib.hid hp0
  clear hp0 h0
  go_enter Try.func70, Try.ntmps70
  go_wp2
  clear hz
  go_loopg [6, 7, 8, 9] 12 (fun gg s6 s7 s8 s9 wr => ∃ n : Nat, n ≤ 12 ∧ 12 - n ≤ gg ∧ s9 = .int .i64 n ∧ s8 = .int .i64 (pos t d n) ∧ s6 = .int .i64 (heldOf t d (posTo t d n)) ∧ s7 = .int .i64 (lastOf (posTo t d n)) ∧ Aside (∀ j, j < n → pos t d j ≠ -1) ∧ Aside (Below w.heap.size w wr))
  case atStart => exact ⟨0, Nat.zero_le _, by omega, rfl, by rw [HP.out], rfl, rfl, fun j hj => absurd hj (Nat.not_lt_zero _), Below.refl _ _⟩
  case round =>
    obtain ⟨n, hn, hg, rfl, rfl, rfl, rfl, AL, BW⟩ := hrel
    by_cases hp : pos t d n = -1
    · have HW := Lib.hid (way_eq hp AL.out hn)
      rw [hp]
      clear hp
      by_cases hn12 : n < 12
      · have hz : (n : Int) < 12 := by omega
        go_wp2
        refine bodyPost_ret (v := .tuple #[.int .i64 (heldOf t d (posTo t d n)), .int .i64 (lastOf (posTo t d n))]) (by simp [results, Try.results70, go_sem]) rfl ?_
        exact ⟨by rw [HW.out], BW.out⟩
      · have hz : ¬ (n : Int) < 12 := by omega
        go_wp2
        refine bodyPost_ret (v := .tuple #[.int .i64 (heldOf t d (posTo t d n)), .int .i64 (lastOf (posTo t d n))]) (by simp [results, Try.results70, go_sem]) rfl ?_
        exact ⟨by rw [HW.out], BW.out⟩
    · obtain ⟨i, hi, hni, hil⟩ := pos_nat HOK.out hp
      have hl12 := HL.out
      have hn12 : n < 12 := by omega
      have hz : (n : Int) < 12 := by omega
      have hiz : (i : Int) < (t.length : Int) := by omega
      have hb1 : ((i : Int) != -1) = true := by simp
      have HN := Lib.hid (pos_next hi hil)
      have HS1 := Lib.hid ((congrArg (heldOf t d) (posTo_succ t d n)).trans (heldOf_snoc t d _ _))
      have HS2 := Lib.hid ((congrArg lastOf (posTo_succ t d n)).trans (lastOf_snoc _ _))
      have HA := Lib.hid (pos_all AL.out hp)
      rw [hi, rule_get hil] at HS1
      rw [hi] at HS2
      rw [hi]
      clear hp hi hl12
      obtain ⟨b, off, A1, c1, rfl, hb, hr, hd0, hd1, hd2, hd3, hd4, hd5, hd6⟩ := rule_at (HX.out.below BW.out) hil
      clear hr hd3 hd4 hd5 hd6
      generalize heldOf t d (posTo t d n) = hh at HS1 ⊢
      go_wp2_with fail
      refine (spec_ExpHolds t[i].ask _ _ d _ ((HD.out.below BW.out).more BW.out.size)).mono ?_
      rintro e w3 ⟨rfl, hb3⟩
      have EW3 := Lib.hid (BW.out.trans (hb3.mono BW.out.size))
      clear hb3 hd0 hd1 hd2 hb
      obtain ⟨b', off', A1', c1', hA', hb', hr', hd0, hd1, hd2, hd3, hd4, hd5, hd6⟩ := rule_at (HX.out.below EW3.out) hil
      cases hA'
      clear hr' hd0 hd1 hd2 hd5 hd6
      generalize t[i] = y at hd3 hd4 HN HS1 ⊢
      cases q : holds y.ask d with
      | true =>
        rw [q, if_pos rfl] at HN HS1
        go_wp2
        go_roundg (12 - (n + 1))
        case measure => omega
        case rel => exact ⟨n + 1, by omega, by omega, by go_num, by rw [HN.out], by rw [HS1.out], by rw [HS2.out], HA.out, EW3.out⟩
      | false =>
        rw [q, if_neg (by decide)] at HN HS1
        go_wp2
        go_roundg (12 - (n + 1))
        case measure => omega
        case rel => exact ⟨n + 1, by omega, by omega, by go_num, by rw [HN.out], by rw [HS1.out], by rw [HS2.out], HA.out, EW3.out⟩

theorem rdrHeld_no {t : List GRule} {d : List Int} (h : treeOk t = false ∨ datOk d = false) : rdrHeld t d = -1 := by
  unfold rdrHeld
  rw [rdrWay_no h]; rfl
theorem rdrHeld_yes {t : List GRule} {d : List Int} (h : treeOk t = true) (h2 : datOk d = true) : rdrHeld t d = heldOf t d (wayL t d) := by
  unfold rdrHeld
  rw [rdrWay_yes h h2]

theorem spec_RdrHeld (A A' : Option Addr) (c c' : Nat) (t : List GRule) (d : List Int) (m : Option Nat) (w : World) (hx : Rows ruleC m w w.heap.size A t) (hd : Ints w w.heap.size A' d) :
    Calls Try.prog 25 #[.slice A t.length c, .slice A' d.length c'] w (Says (.int .i64 (rdrHeld t d)) w) := by
  have HX := Lib.hid hx
  have HD := Lib.hid hd
  clear hx hd
  go_enter Try.func25, Try.ntmps25
  go_wp2_with fail
  refine (spec_RdrOk A c t m w HX.out).mono ?_
  rintro e w1 ⟨rfl, hb1⟩
  have B1 := Lib.hid hb1
  clear hb1
  cases q1 : treeOk t with
  | false =>
    have HW := Lib.hid (rdrHeld_no (d := d) (.inl q1))
    go_wp2
    go_ret
    exact ⟨by rw [HW.out]; rfl, B1.out⟩
  | true =>
    go_wp2_with fail
    refine (spec_DatOk A' c' d w1 _ (HD.out.later B1.out)).mono ?_
    rintro e w2 ⟨rfl, rfl⟩
    cases q2 : datOk d with
    | false =>
      have HW := Lib.hid (rdrHeld_no (t := t) (.inr q2))
      go_wp2
      go_ret
      exact ⟨by rw [HW.out]; rfl, B1.out⟩
    | true =>
      have HW := Lib.hid (rdrHeld_yes q1 q2)
      go_wp2_with fail
      refine (spec_l7Walk A A' c c' t d m w1 (HX.out.later B1.out) (HD.out.later B1.out) q1).mono ?_
      rintro e w3 ⟨rfl, hb3⟩
      have B3 := Lib.hid (B1.out.trans (hb3.mono B1.out.size))
      clear hb3
      go_wp2
      go_ret
      exact ⟨by rw [HW.out]; rfl, B3.out⟩

theorem rdrAsk_no {t : List GRule} {d : List Int} (h : treeOk t = false ∨ datOk d = false) : rdrAsk t d = 0 := by
  unfold rdrAsk
  rw [if_pos (rdrHeld_no h)]

set_option maxHeartbeats 1000000 in
theorem spec_RdrAsk (A A' : Option Addr) (c c' : Nat) (t : List GRule) (d : List Int) (m : Option Nat) (w : World) (hx : Rows ruleC m w w.heap.size A t) (hd : Ints w w.heap.size A' d) :
    Calls Try.prog 32 #[.slice A t.length c, .slice A' d.length c'] w (Says (.int .i64 (rdrAsk t d)) w) := by
  have HX := Lib.hid hx
  have HD := Lib.hid hd
  clear hx hd
  go_enter Try.func32, Try.ntmps32
  go_wp2_with fail
  refine (spec_RdrOk A c t m w HX.out).mono ?_
  rintro e w1 ⟨rfl, hb1⟩
  have B1 := Lib.hid hb1
  clear hb1
  cases q1 : treeOk t with
  | false =>
    have HW := Lib.hid (rdrAsk_no (d := d) (.inl q1))
    go_wp2
    go_ret
    exact ⟨by rw [HW.out]; rfl, B1.out⟩
  | true =>
    go_wp2_with fail
    refine (spec_DatOk A' c' d w1 _ (HD.out.later B1.out)).mono ?_
    rintro e w2 ⟨rfl, rfl⟩
    cases q2 : datOk d with
    | false =>
      have HW := Lib.hid (rdrAsk_no (t := t) (.inr q2))
      go_wp2
      go_ret
      exact ⟨by rw [HW.out]; rfl, B1.out⟩
    | true =>
      have HF : Hid (rdrAsk t d = if rdrHeld t d = -1 then 0 else (rule t (rdrHeld t d)).ans) := rfl
      have hh := rdrHeld_yes q1 q2
      have hin := rdrHeld_in t d
      go_wp2_with fail
      refine (spec_l7Walk A A' c c' t d m w1 (HX.out.later B1.out) (HD.out.later B1.out) q1).mono ?_
      intro e w3 hWk
      unfold Walked at hWk
      rw [← hh] at hWk
      obtain ⟨rfl, hb3⟩ := hWk
      have B3 := Lib.hid (B1.out.trans (hb3.mono B1.out.size))
      clear hb3 hh
      rcases hin with h | ⟨i, h, hil⟩
      · rw [h] at HF ⊢
        clear h
        go_wp2
        go_ret
        exact ⟨by rw [HF.out]; rfl, B3.out⟩
      · have hiz : (i : Int) < (t.length : Int) := by omega
        have b1 : ((i : Int) == -1) = false := by simp
        rw [h, rule_get hil, if_neg (by omega)] at HF
        rw [h]
        clear h
        obtain ⟨b, off, A1, c1, rfl, hb, hr, hd0, hd1, hd2, hd3, hd4, hd5, hd6⟩ := rule_at (HX.out.below B3.out) hil
        clear hr hd0 hd1 hd2 hd3 hd4 hd6
        go_wp2
        go_ret
        exact ⟨by rw [HF.out]; rfl, B3.out⟩

set_option maxRecDepth 100000 in
set_option maxHeartbeats 2000000 in
theorem spec_RdrWay (A A' : Option Addr) (c c' : Nat) (t : List GRule) (d : List Int) (m : Option Nat) (w : World) (hx : Rows ruleC m w w.heap.size A t) (hd : Ints w w.heap.size A' d) :
    Calls Try.prog 34 #[.slice A t.length c, .slice A' d.length c'] w (GivesL (rdrWay t d) w) := by
  have hrl := hx.1
  have HX := Lib.hid hx
  have HD := Lib.hid hd
  clear hx hd
  go_enter Try.func34, Try.ntmps34
  go_wp2_with fail
  refine callsAt fun W hW => ?_
  have hB : Below w.heap.size w W := by rw [hW]; exact (Below.refl _ _).alloc (Nat.le_refl _) _
  have hO : OwnV W w.heap.size (.slice (some ⟨w.heap.size, 0, none⟩) 0 0) [] := by
    rw [hW]
    exact World.ownsRow_made w #[] 0 (Nat.le_refl _) (by simp [maxLen]) rfl
  clear hW
  have HB := Lib.hid hB
  have HO := Lib.hid hO
  clear hB hO
  refine (spec_RdrOk A c t m W (HX.out.later HB.out)).mono ?_
  rintro e w1 ⟨rfl, hb1⟩
  have B1 := Lib.hid (HB.out.trans (hb1.mono HB.out.size))
  have O1 := Lib.hid (HO.out.later hb1)
  clear hb1 HO HB
  cases q1 : treeOk t with
  | false =>
    have HW := Lib.hid (rdrWay_no (d := d) (.inl q1))
    go_wp2
    go_ret
    exact ⟨_, rfl, by rw [HW.out]; exact O1.out, B1.out⟩
  | true =>
    go_wp2_with fail
    refine (spec_DatOk A' c' d w1 _ (HD.out.later B1.out)).mono ?_
    rintro e w2 ⟨rfl, rfl⟩
    cases q2 : datOk d with
    | false =>
      have HW := Lib.hid (rdrWay_no (t := t) (.inr q2))
      go_wp2
      go_ret
      exact ⟨_, rfl, by rw [HW.out]; exact O1.out, B1.out⟩
    | true =>
      have HWY := Lib.hid (rdrWay_yes q1 q2)
      have HL := Lib.hid (treeOk_len q1)
      have HOK := Lib.hid q1
      clear q1 q2
      by_cases h0 : t.length = 0
      · have HW : Hid (wayL t d = []) := way_eq (n := 0) (by unfold pos; rw [if_pos h0]) (fun j hj => absurd hj (Nat.not_lt_zero _)) (by omega)
        have hz : ((t.length : Int) == 0) = true := by simp [h0]
        clear h0
        go_wp2
        go_ret
        exact ⟨_, rfl, by rw [HWY.out, HW.out]; exact O1.out, B1.out⟩
      have hp0 : pos t d 0 = 0 := by unfold pos; rw [if_neg h0]
      have hz : ((t.length : Int) == 0) = false := by rw [beq_eq_false_iff_ne]; omega
      have HP := Lib.hid hp0
      clear hp0 h0
      go_wp2
      clear hz
      go_loopg [5, 6, 7] 12 (fun gg s5 s6 s7 wr => ∃ n : Nat, n ≤ 12 ∧ 12 - n ≤ gg ∧ s7 = .int .i64 n ∧ s6 = .int .i64 (pos t d n) ∧ Aside (OwnV wr w.heap.size s5 (posTo t d n)) ∧ Aside (∀ j, j < n → pos t d j ≠ -1) ∧ Aside (Below w.heap.size w wr))
      case atStart => exact ⟨0, Nat.zero_le _, by omega, rfl, by rw [HP.out], O1.out, fun j hj => absurd hj (Nat.not_lt_zero _), B1.out⟩
      case round =>
        obtain ⟨n, hn, hg, rfl, rfl, OW, AL, BW⟩ := hrel
        by_cases hp : pos t d n = -1
        · have HW := Lib.hid (way_eq hp AL.out hn)
          rw [hp]
          clear hp
          by_cases hn12 : n < 12
          · have hz : (n : Int) < 12 := by omega
            go_wp2
            go_ret
            exact ⟨_, rfl, by rw [HWY.out, HW.out]; exact OW.out, BW.out⟩
          · have hz : ¬ (n : Int) < 12 := by omega
            go_wp2
            go_ret
            exact ⟨_, rfl, by rw [HWY.out, HW.out]; exact OW.out, BW.out⟩
        · obtain ⟨i, hi, hni, hil⟩ := pos_nat HOK.out hp
          have hl12 := HL.out
          have hn12 : n < 12 := by omega
          have hz : (n : Int) < 12 := by omega
          have hiz : (i : Int) < (t.length : Int) := by omega
          have hb1 : ((i : Int) != -1) = true := by simp
          have HN := Lib.hid (pos_next hi hil)
          have HS := Lib.hid (posTo_succ t d n)
          have HA := Lib.hid (pos_all AL.out hp)
          have hpl := posTo_len t d n
          rw [hi] at HS
          rw [hi]
          clear hp hi hl12
          go_upto_region 9 with (at_builtin; refine append_int rfl (.tmp 31) (.tmp 33) rfl w.heap.size _ _ rfl (OW.out.alloc _) wr.heap.size (i : Int) rfl (by simp) (by omega) (by have := BW.out.size; simp only [World.size_alloc]; omega) ?_; intro v' w2 hown2 hb2; have HO2 := Lib.hid hown2; have HB2 := Lib.hid hb2; clear hown2 hb2)
          have EW := Lib.hid ((BW.out.alloc BW.out.size _).trans HB2.out)
          obtain ⟨b, off, A1, c1, rfl, hb, hr, hd0, hd1, hd2, hd3, hd4, hd5, hd6⟩ := rule_at (HX.out.below EW.out) hil
          clear hr hd3 hd4 hd5 hd6
          go_wp2_with fail
          refine (spec_ExpHolds t[i].ask _ _ d _ ((HD.out.below EW.out).more EW.out.size)).mono ?_
          rintro e w3 ⟨rfl, hb3⟩
          have EW3 := Lib.hid (EW.out.trans (hb3.mono EW.out.size))
          have HO3 := Lib.hid (HO2.out.later hb3)
          clear hb3 hd0 hd1 hd2 hb
          obtain ⟨b', off', A1', c1', hA', hb', hr', hd0, hd1, hd2, hd3, hd4, hd5, hd6⟩ := rule_at (HX.out.below EW3.out) hil
          cases hA'
          clear hr' hd0 hd1 hd2 hd5 hd6
          generalize t[i] = y at hd3 hd4 HN ⊢
          cases q : holds y.ask d with
          | true =>
            rw [q, if_pos rfl] at HN
            go_wp2
            go_roundg (12 - (n + 1))
            case measure => omega
            case rel => exact ⟨n + 1, by omega, by omega, by go_num, by rw [HN.out], by show OwnV _ _ _ _; rw [HS.out]; exact HO3.out, HA.out, EW3.out⟩
          | false =>
            rw [q, if_neg (by decide)] at HN
            go_wp2
            go_roundg (12 - (n + 1))
            case measure => omega
            case rel => exact ⟨n + 1, by omega, by omega, by go_num, by rw [HN.out], by show OwnV _ _ _ _; rw [HS.out]; exact HO3.out, HA.out, EW3.out⟩
end Go.Proofs.Ytnnhhmdeoedmmaa
