/- The reference's l7Walk, RdrHeld, RdrAsk, RdrWay. -/
import Derived.Test.YtjieilicjdoaaaaWay
namespace Go.Proofs.Ytjieilicjdoaaaa
open Go.RowKit

def Walked (t : List GRule) (d : List Int) (w : World) (e : Ending) (w' : World) : Prop :=
  e = .returned (.tuple #[.int .i64 (heldOf t d (wayL t d)), .int .i64 (lastOf (wayL t d))]) ∧ Below w.heap.size w w'

set_option maxRecDepth 100000 in
set_option maxHeartbeats 2000000 in
theorem spec_l7Walk (A A' : Option Addr) (c c' : Nat) (t : List GRule) (d : List Int) (m : Option Nat) (w : World) (hx : Rows ruleC m w w.heap.size A t) (hd : Ints w w.heap.size A' d) (hok : treeOk t = true) :
    Calls Try.prog 34 #[.slice A t.length c, .slice A' d.length c'] w (Walked t d w) := by
  have hlen := treeOk_len hok
  have hrl := hx.1
  have HX := Lib.hid hx
  have HD := Lib.hid hd
  have HOK := Lib.hid hok
  have HL := Lib.hid hlen
  clear hx hd hok hlen
  by_cases h0 : t.length = 0
  · have HW : Hid (wayL t d = []) := way_eq (n := 0) (by unfold pos; rw [if_pos h0]) (fun j hj => absurd hj (Nat.not_lt_zero _)) (by omega)
    have hz : ((t.length : Int) == 0) = true := by simp [h0]
    clear h0
    go_enter Try.func34, Try.ntmps34
    go_wp2
    go_rounds 1
    refine bodyPost_ret (v := .tuple #[.int .i64 (-1), .int .i64 (-1)]) (by simp [results, Try.results34, go_sem]) rfl ?_
    exact ⟨by rw [HW.out]; rfl, Below.refl _ _⟩
  have hp0 : pos t d 0 = 0 := by unfold pos; rw [if_neg h0]
  have hz : ((t.length : Int) == 0) = false := by rw [beq_eq_false_iff_ne]; omega
  have HP := Lib.hid hp0
  clear hp0 h0
  go_enter Try.func34, Try.ntmps34
  go_wp2
  clear hz
  go_loopg [6, 7, 8, 9] 12 (fun gg s6 s7 s8 s9 wr => ∃ n : Nat, n ≤ 12 ∧ 12 - n ≤ gg ∧ s9 = .int .i64 n ∧ s8 = .int .i64 (pos t d n) ∧ s6 = .int .i64 (heldOf t d (posTo t d n)) ∧ s7 = .int .i64 (lastOf (posTo t d n)) ∧ Aside (∀ j, j < n → pos t d j ≠ -1) ∧ Aside (Below w.heap.size w wr))
  case atStart => exact ⟨0, Nat.zero_le _, by omega, rfl, by rw [HP.out], rfl, rfl, fun j hj => absurd hj (Nat.not_lt_zero _), Below.refl _ _⟩
  case round =>
    obtain ⟨n, hn, hg, rfl, rfl, rfl, rfl, AL, BW⟩ := hrel
    by_cases hp : pos t d n = -1
    · have HW := Lib.hid (way_eq hp AL.out hn)
      rw [hp]
      clear hp
      by_cases hn12 : n < 12
      · have hz : (n : Int) < 12 := by omega
        go_wp2
        refine bodyPost_ret (v := .tuple #[.int .i64 (heldOf t d (posTo t d n)), .int .i64 (lastOf (posTo t d n))]) (by simp [results, Try.results34, go_sem]) rfl ?_
        exact ⟨by rw [HW.out], BW.out⟩
      · have hz : ¬ (n : Int) < 12 := by omega
        go_wp2
        refine bodyPost_ret (v := .tuple #[.int .i64 (heldOf t d (posTo t d n)), .int .i64 (lastOf (posTo t d n))]) (by simp [results, Try.results34, go_sem]) rfl ?_
        exact ⟨by rw [HW.out], BW.out⟩
    · obtain ⟨i, hi, hni, hil⟩ := pos_nat HOK.out hp
      have hl12 := HL.out
      have hn12 : n < 12 := by omega
      have hz : (n : Int) < 12 := by omega
      have hiz : (i : Int) < (t.length : Int) := by omega
      have hb1 : ((i : Int) != -1) = true := by simp
      have HN := Lib.hid (pos_next hi hil)
      have HS1 := Lib.hid ((congrArg (heldOf t d) (posTo_succ t d n)).trans (heldOf_snoc t d _ _))
      have HS2 := Lib.hid ((congrArg lastOf (posTo_succ t d n)).trans (lastOf_snoc _ _))
      have HA := Lib.hid (pos_all AL.out hp)
      rw [hi, rule_get hil] at HS1
      rw [hi] at HS2
      rw [hi]
      clear hp hi hl12
      obtain ⟨b, off, A1, c1, rfl, hb, hr, hd0, hd1, hd2, hd3, hd4, hd5, hd6⟩ := rule_at (HX.out.below BW.out) hil
      clear hr hd3 hd4 hd5 hd6
      generalize heldOf t d (posTo t d n) = hh at HS1 ⊢
      go_wp2_with fail
      refine (spec_ExpHolds t[i].ask _ _ d _ ((HD.out.below BW.out).more BW.out.size)).mono ?_
      rintro e w3 ⟨rfl, hb3⟩
      have EW3 := Lib.hid (BW.out.trans (hb3.mono BW.out.size))
      clear hb3 hd0 hd1 hd2 hb
      obtain ⟨b', off', A1', c1', hA', hb', hr', hd0, hd1, hd2, hd3, hd4, hd5, hd6⟩ := rule_at (HX.out.below EW3.out) hil
      cases hA'
      clear hr' hd0 hd1 hd2 hd5 hd6
      generalize t[i] = y at hd3 hd4 HN HS1 ⊢
      cases q : holds y.ask d with
      | true =>
        rw [q, if_pos rfl] at HN HS1
        go_wp2
        go_roundg (12 - (n + 1))
        case measure => omega
        case rel => exact ⟨n + 1, by omega, by omega, by go_num, by rw [HN.out], by rw [HS1.out], by rw [HS2.out], HA.out, EW3.out⟩
      | false =>
        rw [q, if_neg (by decide)] at HN HS1
        go_wp2
        go_roundg (12 - (n + 1))
        case measure => omega
        case rel => exact ⟨n + 1, by omega, by omega, by go_num, by rw [HN.out], by rw [HS1.out], by rw [HS2.out], HA.out, EW3.out⟩

theorem rdrHeld_no {t : List GRule} {d : List Int} (h : treeOk t = false ∨ datOk d = false) : rdrHeld t d = -1 := by
  unfold rdrHeld
  rw [rdrWay_no h]; rfl
theorem rdrHeld_yes {t : List GRule} {d : List Int} (h : treeOk t = true) (h2 : datOk d = true) : rdrHeld t d = heldOf t d (wayL t d) := by
  unfold rdrHeld
  rw [rdrWay_yes h h2]

theorem rdrAsk_no {t : List GRule} {d : List Int} (h : treeOk t = false ∨ datOk d = false) : rdrAsk t d = 0 := by
  unfold rdrAsk
  rw [if_pos (rdrHeld_no h)]

end Go.Proofs.Ytjieilicjdoaaaa
