/- The walk of FnRdrWay: it returns true. -/
import Derived.Test.YtnnhhmdeoedmmaaDrawRdr
import Derived.Test.YtnnhhmdeoedmmaaWayS
import Derived.Test.YtnnhhmdeoedmmaaDepthS
namespace Go.Proofs.Ytnnhhmdeoedmmaa
open Go.RowKit

set_option maxHeartbeats 2000000 in
theorem walk_FnRdrWay (A : Option Addr) (c : Nat) (xs : List Int) (w : World) (hx : Code w w.heap.size A c xs) :
    Calls Try.prog 11 #[.slice A xs.length c] w fun e w' => e = .returned (.bool true) ∧ Below w.heap.size w w' := by
  by_cases hl : xs.length ≤ 1048576
  · have hlz : ¬ (1048576 : Int) < xs.length := by omega
    have HX := Lib.hid hx
    clear hx
    go_enter Try.func11, Try.ntmps11
    go_wp2_with fail
    refine (spec_DrawRdrWay A c xs w HX.out).mono ?_
    rintro e w1 ⟨A1, c1, t, A2, c2, d, rfl, htl, hst, hdl, hrow, hint, hb1⟩
    have T1 := Lib.hid hrow
    have D1 := Lib.hid hint
    have B1 := Lib.hid hb1
    clear hrow hint hb1 hst hlz
    go_wp2_with fail
    refine (impl_RdrWay A1 A2 c1 c2 t d none w1 T1.out D1.out (by omega)).mono ?_
    rintro e w3 ⟨v3, rfl, hv3, hb3⟩
    have hwl := rdrWay_len t d
    obtain ⟨A3, c3, rfl, hi3⟩ := own_ints hv3 (by omega)
    have I3 := Lib.hid hi3
    have Q3 := Lib.hid hb3
    clear hv3 hb3 hi3
    go_wp2_with fail
    refine (spec_RdrWay A1 A2 c1 c2 t d none w3 (T1.out.later Q3.out) (D1.out.later Q3.out)).mono ?_
    rintro e w5 ⟨v5, rfl, hv5, hb5⟩
    obtain ⟨A5, c5, rfl, hi5⟩ := own_ints hv5 (by omega)
    have I5 := Lib.hid hi5
    have J5 := Lib.hid (I3.out.later hb5)
    have Q5 := Lib.hid (Q3.out.trans (hb5.mono Q3.out.size))
    clear hv5 hb5 hi5 Q3 I3
    have HNO := Lib.hid (fun h => rdrWay_no (t := t) (d := d) h)
    have HYES := Lib.hid (fun h h2 => rdrWay_yes (t := t) (d := d) h h2)
    have HWD := Lib.hid (rdrWay_depth t d)
    generalize rdrWay t d = ws at *
    go_wp2_with fail
    refine (laws_guInts A3 A5 c3 c5 ws ws w5 w5.heap.size J5.out I5.out).mono ?_
    rintro e w6 ⟨rfl, n6, rfl⟩
    have Q6 := Lib.hid (bdN Q5.out n6)
    have J6 : Hid (Ints (w5.drewN n6) (w5.drewN n6).heap.size A3 ws) := J5.out
    clear Q5 J5 I5
    generalize w5.drewN n6 = W6 at Q6 J6 ⊢
    have hdec : decide (ws = ws) = true := by simp
    rw [hdec]
    clear hdec
    go_wp2_with fail
    refine (spec_RdrOk A1 c1 t none W6 (T1.out.later Q6.out)).mono ?_
    rintro e w7 ⟨rfl, hb7⟩
    have Q7 := Lib.hid (Q6.out.trans (hb7.mono Q6.out.size))
    have J7 := Lib.hid (J6.out.later hb7)
    clear hb7 Q6 J6
    cases q1 : treeOk t with
    | false =>
      obtain rfl := HNO.out (.inl q1)
      go_wp2_with (go_at_call 30; refine (laws_guOk _).mono ?_; rintro e w8 ⟨rfl, hb8⟩; have B8 := Lib.hid hb8; clear hb8)
      go_ret
      exact ⟨rfl, B1.out.trans ((Q7.out.trans (B8.out.mono Q7.out.size)).mono B1.out.size)⟩
    | true =>
      go_wp2_with fail
      refine (spec_DatOk A2 c2 d w7 _ (D1.out.later Q7.out)).mono ?_
      rintro e w8 ⟨rfl, rfl⟩
      cases q2 : datOk d with
      | false =>
        obtain rfl := HNO.out (.inr q2)
        go_wp2_with (go_at_call 30; refine (laws_guOk _).mono ?_; rintro e w8 ⟨rfl, hb8⟩; have B8 := Lib.hid hb8; clear hb8)
        go_ret
        exact ⟨rfl, B1.out.trans ((Q7.out.trans (B8.out.mono Q7.out.size)).mono B1.out.size)⟩
      | true =>
        have hws := HYES.out q1 q2
        obtain ⟨N, hN, hpN, hall, hwN⟩ := wayL_is q1 d
        rw [hwN] at hws
        have HOK := Lib.hid q1
        by_cases h0 : t.length = 0
        · have hz : ((t.length : Int) == 0) = true := by simp [h0]
          have hN0 : N = 0 := by omega
          subst hN0
          obtain rfl : ws = [] := hws
          clear h0
          go_wp2_with (go_at_call 30; refine (laws_guOk _).mono ?_; rintro e w8 ⟨rfl, hb8⟩; have B8 := Lib.hid hb8; clear hb8)
          go_ret
          exact ⟨rfl, B1.out.trans ((Q7.out.trans (B8.out.mono Q7.out.size)).mono B1.out.size)⟩
        · have hz : ((t.length : Int) == 0) = false := by rw [beq_eq_false_iff_ne]; omega
          have hp0 : pos t d 0 = 0 := by unfold pos; rw [if_neg h0]
          have HP0 := Lib.hid hp0
          have hN1 : 0 < N := by
            rcases Nat.eq_zero_or_pos N with h | h
            · rw [h, hp0] at hpN; omega
            · exact h
          have hwsl : ws.length = N := by rw [hws, posTo_len]
          have HWS := Lib.hid hws
          have HLEN := Lib.hid hwsl
          have HALL := Lib.hid hall
          have HPN := Lib.hid hpN
          clear h0 hws hwsl hall hpN hp0 q1 q2 hwN
          go_wp2
          clear hz
          go_loopg [6, 7, 8] ws.length (fun gg s6 s7 _ wr => ∃ k : Nat, k ≤ ws.length ∧ ws.length - k ≤ gg ∧ s7 = .int .i64 k ∧ s6 = .int .i64 (pos t d k) ∧ Aside (Below w7.heap.size w7 wr))
          case atStart => exact ⟨0, Nat.zero_le _, by omega, rfl, by rw [HP0.out], Below.refl _ _⟩
          case round =>
            obtain ⟨k, hk, hg, rfl, rfl, BW⟩ := hrel
            by_cases hlt : k < ws.length
            · have hltz : (k : Int) < (ws.length : Int) := by omega
              have hkN : k < N := by have := HLEN.out; omega
              obtain ⟨bg, og, rfl, hbg, hcg⟩ := (J7.out.below BW.out).at_ hlt
              obtain ⟨i, hi, hni, hil⟩ := pos_nat HOK.out (HALL.out k hkN)
              have hwk : ws[k] = (i : Int) := by
                have h1 := HWS.out
                have h2 : ws[k]? = some (pos t d k) := by rw [h1]; simp [posTo, hkN]
                rw [List.getElem?_eq_getElem hlt] at h2
                rw [← hi]
                exact Option.some.inj h2
              have HN := Lib.hid (pos_next hi hil)
              rw [hwk] at hcg
              rw [hi]
              have hiz : (i : Int) < (t.length : Int) := by omega
              have hne : ((i : Int) != (i : Int)) = false := by simp
              have EW := Lib.hid (Q7.out.trans (BW.out.mono Q7.out.size))
              have HT : Hid (Rows ruleC none wr w1.heap.size A1 t) := T1.out.below EW.out
              obtain ⟨b, off, A7, c7, rfl, hb, hr, hd0, hd1, hd2, hd3, hd4, hd5, hd6⟩ := rule_at HT.out hil
              clear hr hd3 hd5 hd6 hi hwk
              go_wp2_with fail
              refine (impl_ExpHolds t[i].ask _ _ d _ ((D1.out.below EW.out).more EW.out.size)).mono ?_
              rintro e w9 ⟨rfl, hb9⟩
              have BW9 := Lib.hid (BW.out.trans (hb9.mono BW.out.size))
              clear hd0 hd1 hd2 hb hd4
              obtain ⟨b', off', A8, c8, hA', hb', hr', hd0, hd1, hd2, hd3, hd4, hd5, hd6⟩ := rule_at (HT.out.below (hb9.mono EW.out.size)) hil
              cases hA'
              clear hr' hd0 hd1 hd2 hd4 hd5 hd6 hb9
              generalize t[i] = y at hd3 HN ⊢
              cases q : holds y.ask d with
              | true =>
                rw [q, if_pos rfl] at HN
                go_wp2
                go_roundg (ws.length - (k + 1))
                case measure => omega
                case rel => exact ⟨k + 1, by omega, by omega, by go_num, by rw [HN.out], BW9.out⟩
              | false =>
                rw [q, if_neg (by decide)] at HN
                go_wp2
                go_roundg (ws.length - (k + 1))
                case measure => omega
                case rel => exact ⟨k + 1, by omega, by omega, by go_num, by rw [HN.out], BW9.out⟩
            · have hltz : ¬ (k : Int) < (ws.length : Int) := by omega
              have HE : Hid (pos t d k = -1) := by
                show _ = _
                have := HLEN.out
                rw [show k = N from by omega]
                exact HPN.out
              have EW := Lib.hid (Q7.out.trans (BW.out.mono Q7.out.size))
              have a1 : (ws.length : Int) ≤ ((rdrDepth t : Nat) : Int) := by have := HWD.out; omega
              have a2 : (0 : Int) < (ws.length : Int) := by have := HLEN.out; omega
              have c1' : decide ((ws.length : Int) ≤ ((rdrDepth t : Nat) : Int)) = true := decide_eq_true a1
              have c2' : decide ((0 : Int) < (ws.length : Int)) = true := decide_eq_true a2
              rw [HE.out]
              go_wp2_with (go_at_call 24; refine (impl_RdrDepth A1 c1 t none _ (T1.out.later EW.out) (by omega)).mono ?_; rintro e w9 ⟨rfl, hb9⟩; have B9 := Lib.hid hb9; clear hb9)
              go_ret
              exact ⟨by simp; omega, B1.out.trans ((EW.out.trans (B9.out.mono EW.out.size)).mono B1.out.size)⟩
  · have hz : (1048576 : Int) < xs.length := by omega
    go_enter Try.func11, Try.ntmps11
    go_wp2
    go_ret
    exact ⟨rfl, Below.refl _ _⟩
end Go.Proofs.Ytnnhhmdeoedmmaa
