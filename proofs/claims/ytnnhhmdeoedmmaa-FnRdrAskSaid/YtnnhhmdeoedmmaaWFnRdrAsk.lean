/- The walk of FnRdrAsk: it returns true. -/
import Derived.Test.YtnnhhmdeoedmmaaDrawRdr
import Derived.Test.YtnnhhmdeoedmmaaWayS
namespace Go.Proofs.Ytnnhhmdeoedmmaa
open Go.RowKit

def ansOf (t : List GRule) (h : Int) : Int := if h = -1 then 0 else (rule t h).ans

set_option maxHeartbeats 2000000 in
theorem walk_FnRdrAsk (A : Option Addr) (c : Nat) (xs : List Int) (w : World) (hx : Code w w.heap.size A c xs) :
    Calls Try.prog 12 #[.slice A xs.length c] w fun e w' => e = .returned (.bool true) ∧ Below w.heap.size w w' := by
  by_cases hl : xs.length ≤ 1048576
  · have hlz : ¬ (1048576 : Int) < xs.length := by omega
    have HX := Lib.hid hx
    clear hx
    go_enter Try.func12, Try.ntmps12
    go_wp2_with fail
    refine (spec_DrawRdrAsk A c xs w HX.out).mono ?_
    rintro e w1 ⟨A1, c1, t, A2, c2, d, rfl, htl, hst, hdl, hrow, hint, hb1⟩
    have T1 := Lib.hid hrow
    have D1 := Lib.hid hint
    have B1 := Lib.hid hb1
    clear hrow hint hb1 hst hlz
    go_wp2_with fail
    refine (impl_RdrAsk A1 A2 c1 c2 t d none w1 T1.out D1.out (by omega)).mono ?_
    rintro e w2 ⟨rfl, hb2⟩
    have Q2 := Lib.hid hb2
    clear hb2
    go_wp2_with fail
    refine (impl_RdrWay A1 A2 c1 c2 t d none w2 (T1.out.later Q2.out) (D1.out.later Q2.out) (by omega)).mono ?_
    rintro e w3 ⟨v3, rfl, hv3, hb3⟩
    have hwl := rdrWay_len t d
    obtain ⟨A3, c3, rfl, hi3⟩ := own_ints hv3 (by omega)
    have I3 := Lib.hid hi3
    have Q3 := Lib.hid (Q2.out.trans (hb3.mono Q2.out.size))
    clear hv3 hb3 hi3 Q2
    go_wp2_with fail
    refine (spec_RdrAsk A1 A2 c1 c2 t d none w3 (T1.out.later Q3.out) (D1.out.later Q3.out)).mono ?_
    rintro e w4 ⟨rfl, hb4⟩
    have I4 := Lib.hid (I3.out.later hb4)
    have Q4 := Lib.hid (Q3.out.trans (hb4.mono Q3.out.size))
    clear hb4 Q3 I3
    go_wp2_with fail
    refine (spec_RdrWay A1 A2 c1 c2 t d none w4 (T1.out.later Q4.out) (D1.out.later Q4.out)).mono ?_
    rintro e w5 ⟨v5, rfl, hv5, hb5⟩
    obtain ⟨A5, c5, rfl, hi5⟩ := own_ints hv5 (by omega)
    have I5 := Lib.hid hi5
    have J5 := Lib.hid (I4.out.later hb5)
    have Q5 := Lib.hid (Q4.out.trans (hb5.mono Q4.out.size))
    clear hv5 hb5 hi5 Q4 I4
    have HIN := Lib.hid (rdrWay_in t d)
    have HF : Hid (rdrAsk t d = ansOf t (heldOf t d (rdrWay t d))) := rfl
    generalize rdrWay t d = ws at *
    generalize rdrAsk t d = ra at HF ⊢
    go_wp2_with fail
    refine (laws_guInts A3 A5 c3 c5 ws ws w5 w5.heap.size J5.out I5.out).mono ?_
    rintro e w6 ⟨rfl, n6, rfl⟩
    have Q6 := Lib.hid (bdN Q5.out n6)
    have J6 : Hid (Ints (w5.drewN n6) (w5.drewN n6).heap.size A3 ws) := J5.out
    clear Q5 J5 I5
    generalize w5.drewN n6 = W6 at Q6 J6 ⊢
    have hdec : decide (ws = ws) = true := by simp
    rw [hdec]
    clear hdec
    go_wp2
    go_loopg [7, 8] ws.length (fun gg s7 s8 wr => ∃ k : Nat, k ≤ ws.length ∧ ws.length - k ≤ gg ∧ s8 = .int .i64 k ∧ s7 = .int .i64 (ansOf t (heldOf t d (ws.take k))) ∧ Aside (Below W6.heap.size W6 wr))
    case atStart => exact ⟨0, Nat.zero_le _, by omega, rfl, rfl, Below.refl _ _⟩
    case round =>
      obtain ⟨k, hk, hg, rfl, rfl, BW⟩ := hrel
      by_cases hlt : k < ws.length
      · have hltz : (k : Int) < (ws.length : Int) := by omega
        obtain ⟨bg, og, rfl, hbg, hcg⟩ := (J6.out.below BW.out).at_ hlt
        obtain ⟨i, hi, hil⟩ := HIN.out ws[k] (List.getElem_mem hlt)
        have HS : Hid (heldOf t d (ws.take (k + 1)) = if holds (rule t ws[k]).ask d then ws[k] else heldOf t d (ws.take k)) := by
          show _ = _
          rw [List.take_succ_eq_append_getElem hlt, heldOf_snoc]
        rw [hi, rule_get hil] at HS
        have HAI : Hid (ansOf t (i : Int) = t[i].ans) := by show _ = _; unfold ansOf; rw [if_neg (by omega), rule_get hil]
        rw [hi] at hcg
        have hiz : (i : Int) < (t.length : Int) := by omega
        have EW := Lib.hid (Q6.out.trans (BW.out.mono Q6.out.size))
        have HT : Hid (Rows ruleC none wr w1.heap.size A1 t) := T1.out.below EW.out
        obtain ⟨b, off, A7, c7, rfl, hb, hr, hd0, hd1, hd2, hd3, hd4, hd5, hd6⟩ := rule_at HT.out hil
        clear hr hd3 hd4 hd5 hd6 hi
        go_wp2_with fail
        refine (impl_ExpHolds t[i].ask _ _ d _ ((D1.out.below EW.out).more EW.out.size)).mono ?_
        rintro e w7 ⟨rfl, hb7⟩
        have BW7 := Lib.hid (BW.out.trans (hb7.mono BW.out.size))
        have hcg7 := (hb7.cell (p := ⟨bg, og + k, none⟩) (by have := BW.out.size; show bg < wr.heap.size; omega)).trans hcg
        clear hd0 hd1 hd2 hb hcg
        obtain ⟨b', off', A8, c8, hA', hb', hr', hd0, hd1, hd2, hd3, hd4, hd5, hd6⟩ := rule_at (HT.out.below (hb7.mono EW.out.size)) hil
        cases hA'
        clear hr' hd0 hd1 hd2 hd3 hd4 hd6 hb7
        generalize t[i] = y at hd5 HS HAI ⊢
        cases q : holds y.ask d with
        | true =>
          rw [q, if_pos rfl] at HS
          go_wp2
          go_roundg (ws.length - (k + 1))
          case measure => omega
          case rel => exact ⟨k + 1, by omega, by omega, by go_num, by rw [HS.out, HAI.out], BW7.out⟩
        | false =>
          rw [q, if_neg (by decide)] at HS
          go_wp2
          go_roundg (ws.length - (k + 1))
          case measure => omega
          case rel => exact ⟨k + 1, by omega, by omega, by go_num, by rw [HS.out], BW7.out⟩
      · have hltz : ¬ (k : Int) < (ws.length : Int) := by omega
        have he : k = ws.length := by omega
        have HE : Hid (ansOf t (heldOf t d (ws.take k)) = ra) := by show _ = _; rw [he, List.take_length, HF.out]
        rw [HE.out]
        clear he
        go_wp2_with (go_at_call 30; refine (laws_guOk _).mono ?_; rintro e w8 ⟨rfl, hb8⟩; have B8 := Lib.hid hb8; clear hb8)
        go_ret
        exact ⟨rfl, B1.out.trans ((Q6.out.trans ((BW.out.trans (B8.out.mono BW.out.size)).mono Q6.out.size)).mono B1.out.size)⟩
  · have hz : (1048576 : Int) < xs.length := by omega
    go_enter Try.func12, Try.ntmps12
    go_wp2
    go_ret
    exact ⟨rfl, Below.refl _ _⟩
end Go.Proofs.Ytnnhhmdeoedmmaa
