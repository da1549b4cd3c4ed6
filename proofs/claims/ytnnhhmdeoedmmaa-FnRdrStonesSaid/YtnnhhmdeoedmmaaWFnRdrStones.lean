/- The walk of FnRdrStones: it returns true. -/
import Derived.Test.YtnnhhmdeoedmmaaDrawRdrAdd
import Derived.Test.YtnnhhmdeoedmmaaGuTree
import Derived.Test.YtnnhhmdeoedmmaaAddI
import Derived.Test.YtnnhhmdeoedmmaaAddS
import Derived.Test.YtnnhhmdeoedmmaaAddLaw
import Derived.Test.YtnnhhmdeoedmmaaRdrOkI
import Derived.Test.YtnnhhmdeoedmmaaRdrOkS
import Derived.Test.YtnnhhmdeoedmmaaWay
import Derived.Deep.RegionHeld3
namespace Go.Proofs.Ytnnhhmdeoedmmaa
open Go.RowKit

set_option maxRecDepth 100000 in
set_option maxHeartbeats 4000000 in
theorem walk_FnRdrStones (A : Option Addr) (c : Nat) (xs : List Int) (w : World) (hx : Code w w.heap.size A c xs) :
    Calls Try.prog 13 #[.slice A xs.length c] w fun e w' => e = .returned (.bool true) ∧ Below w.heap.size w w' := by
  by_cases hl : xs.length ≤ 1048576
  · have hlz : ¬ (1048576 : Int) < xs.length := by omega
    have HX := Lib.hid hx
    clear hx
    go_enter Try.func13, Try.ntmps13
    go_wp2_with fail
    refine (spec_DrawRdrAdd A c xs w HX.out).mono ?_
    rintro e w1 ⟨A1, c1, t, A2, c2, d, x, a, rfl, htl, hst, hdl, hrow, hint, hb1⟩
    have T1 := Lib.hid hrow
    have D1 := Lib.hid hint
    have B1 := Lib.hid hb1
    have S1 := Lib.hid hst
    clear hrow hint hb1 hst hlz HX
    go_wp2_with fail
    refine callsAt fun V hV => ?_
    have bV : Bk V w1.heap.size 39 #[.int .i64 x.op, .int .i64 x.var, .int .i64 x.k] := by
      rw [hV]
      exact Bk.new rfl
    have hBV : Below w1.heap.size w1 V := by rw [hV]; go_grown
    clear hV
    refine (impl_RdrAdd A1 A2 c1 c2 t d x a none V (T1.out.later hBV) (D1.out.later hBV) (by omega) (fun r hr => Nat.le_trans (S1.out r hr) (by omega)) (by omega)).mono ?_
    rintro e w2 ⟨v2, rfl, ho2, hb2⟩
    have K2 := Lib.hid (bV.later hb2)
    have O2 := Lib.hid ho2
    have Q2 := Lib.hid (hBV.trans (hb2.mono hBV.size))
    clear ho2 hb2 bV hBV
    have k2 := fun i => K2.out.cell i
    go_wp2_with fail
    refine (spec_RdrAdd A1 A2 c1 c2 t d x a none w2 (T1.out.later Q2.out) (D1.out.later Q2.out) (by omega) (fun r hr => Nat.le_trans (S1.out r hr) (by omega)) (by omega)).mono ?_
    rintro e w3 ⟨v3, rfl, ho3, hb3⟩
    have O3 := Lib.hid ho3
    have P3 := Lib.hid (O2.out.later hb3)
    have Q3 := Lib.hid (Q2.out.trans (hb3.mono Q2.out.size))
    clear ho3 hb3 k2 K2 O2 Q2
    have hrl : (rdrAdd t d x a).length ≤ 13 := by
      unfold rdrAdd
      split
      · rw [added_length]; omega
      · omega
    generalize rdrAdd t d x a = ra at *
    obtain ⟨A3, c3, rfl, hr3⟩ := P3.out.rows (by omega)
    obtain ⟨A4, c4, rfl, hr4⟩ := O3.out.rows (by omega)
    have R3 := Lib.hid hr3
    have R4 := Lib.hid hr4
    clear hr3 hr4 P3 O3
    go_wp2_with fail
    refine (laws_guTree A3 A4 c3 c4 ra _ _ w3 R3.out R4.out).mono ?_
    rintro e w4 ⟨rfl, n4, rfl⟩
    have Q4 := Lib.hid (bdN Q3.out n4)
    generalize w3.drewN n4 = W at Q4 ⊢
    have hcc : (canAdd t d x a != canAdd t d x a) = false := by simp
    clear R3 R4 Q3 hrl
    go_wp2
    have HB0 : Hid (Below w1.heap.size w1 (W.alloc (.cells #[] 41))) := Q4.out.alloc Q4.out.size _
    have HR0 : Hid (Rows ruleC none (W.alloc (.cells #[] 41)) (W.alloc (.cells #[] 41)).heap.size (some ⟨W.heap.size, 0, none⟩) []) := Rows.nil
    go_loopg [11, 12, 13, 14] t.length (fun gg s11 s12 _ _ wr => ∃ (k : Nat) (M : Option Addr) (m : Nat) (ts : List GRule), k ≤ t.length ∧ t.length - k ≤ gg ∧ s12 = .int .i64 k ∧ s11 = .slice M ts.length m ∧ Aside (ownT ts) ∧ Aside (∀ r ∈ ts, r.stone.length ≤ 4) ∧ Aside (Rows ruleC none wr wr.heap.size M ts) ∧ Aside (Below w1.heap.size w1 wr))
    case atStart => exact ⟨0, _, _, [], Nat.zero_le _, by omega, rfl, rfl, ownT_nil, by show ∀ r ∈ ([] : List GRule), _; simp, HR0.out, HB0.out⟩
    case round =>
      obtain ⟨k, M, m, ts, hk, hg, rfl, rfl, OW, SM, RM, BW⟩ := hrel
      have hts := treeOk_len OW.out.1
      go_upto_region 10 with fail
      go_cut [59] from 52 to 59 (fun s59 wx => s59 = .bool (decide (k < t.length) && treeOk t) ∧ Aside (Below wr.heap.size wr wx))
      case first =>
        by_cases hlt : k < t.length
        · have hltz : (k : Int) < (t.length : Int) := by omega
          have hde : decide (k < t.length) = true := decide_eq_true hlt
          go_wp2_with (go_at_call 19; refine (spec_RdrOk A1 c1 t none _ (T1.out.later BW.out)).mono ?_; rintro e w5 ⟨rfl, hb5⟩; have B5 := Lib.hid hb5; clear hb5)
          go_meet
          case rel => exact ⟨by rw [hde]; rfl, B5.out⟩
        · have hltz : ¬ (k : Int) < (t.length : Int) := by omega
          have hde : decide (k < t.length) = false := decide_eq_false hlt
          go_wp2
          go_meet
          case rel => exact ⟨by rw [hde]; rfl, Below.refl _ _⟩
      case rest =>
        obtain ⟨rfl, BC⟩ := hcut
        have RC := Lib.hid (RM.out.later BC.out)
        have BWC := Lib.hid (BW.out.trans (BC.out.mono BW.out.size))
        clear RM BW BC
        cases q : decide (k < t.length) && treeOk t with
        | true =>
          rw [Bool.and_eq_true] at q
          have hlt : k < t.length := of_decide_eq_true q.1
          clear q
          have hltz : (k : Int) < (t.length : Int) := by omega
          obtain ⟨b, off, A7, c7, rfl, hb, hr, hd0, hd1, hd2, hd3, hd4, hd5, hd6⟩ := rule_at (T1.out.later BWC.out) hlt
          have hsl := S1.out t[k] (List.getElem_mem hlt)
          have HR := Lib.hid hr.ints
          clear hr
          generalize t[k] = y at hd0 hd1 hd2 hd3 hd4 hd5 hd6 HR hsl
          have HS : Hid ((fun V : World => V.cell? ⟨b, off + k * 7, none⟩ = some (.int .i64 y.ask.op) ∧ V.cell? ⟨b, off + k * 7 + 1, none⟩ = some (.int .i64 y.ask.var) ∧ V.cell? ⟨b, off + k * 7 + 2, none⟩ = some (.int .i64 y.ask.k) ∧ V.cell? ⟨b, off + k * 7 + 5, none⟩ = some (.int .i64 y.ans) ∧ V.cell? ⟨b, off + k * 7 + 6, none⟩ = some (.slice A7 y.stone.length c7)) wc.drew) := ⟨hd0, hd1, hd2, hd5, hd6⟩
          have RCd : Hid (Rows ruleC none wc.drew wc.drew.heap.size M ts) := RC.out
          have HRd : Hid (Ints wc.drew wc.drew.heap.size A7 y.stone) := HR.out
          have hbl : b < wc.drew.heap.size := hb
          clear hd0 hd1 hd2 hd3 hd4 hd5 hd6 hb HR
          have HA := Lib.hid (fun r hr => Nat.le_trans (SM.out r hr) (show 4 ≤ 1048576 by omega))
          go_upto_region 12 with fail
          go_region_held3 (fun V : World => V.cell? ⟨b, off + k * 7, none⟩ = some (.int .i64 y.ask.op) ∧ V.cell? ⟨b, off + k * 7 + 1, none⟩ = some (.int .i64 y.ask.var) ∧ V.cell? ⟨b, off + k * 7 + 2, none⟩ = some (.int .i64 y.ask.k) ∧ V.cell? ⟨b, off + k * 7 + 5, none⟩ = some (.int .i64 y.ans) ∧ V.cell? ⟨b, off + k * 7 + 6, none⟩ = some (.slice A7 y.stone.length c7)) (first | exact HS.out | exact HS6.out)
            (first
              | (go_at_call 46; refine (impl_RdrAdd M A7 m c7 ts y.stone y.ask y.ans none _ RCd.out HRd.out (by omega) HA.out (by omega)).mono ?_; rintro e w6 ⟨v6, rfl, ho6, hb6⟩; have HS6 := Lib.hid (⟨(hb6.cell (p := ⟨b, off + k * 7, none⟩) hbl).trans HS.out.1, (hb6.cell (p := ⟨b, off + k * 7 + 1, none⟩) hbl).trans HS.out.2.1, (hb6.cell (p := ⟨b, off + k * 7 + 2, none⟩) hbl).trans HS.out.2.2.1, (hb6.cell (p := ⟨b, off + k * 7 + 5, none⟩) hbl).trans HS.out.2.2.2.1, (hb6.cell (p := ⟨b, off + k * 7 + 6, none⟩) hbl).trans HS.out.2.2.2.2⟩ : (fun V : World => V.cell? ⟨b, off + k * 7, none⟩ = some (.int .i64 y.ask.op) ∧ V.cell? ⟨b, off + k * 7 + 1, none⟩ = some (.int .i64 y.ask.var) ∧ V.cell? ⟨b, off + k * 7 + 2, none⟩ = some (.int .i64 y.ask.k) ∧ V.cell? ⟨b, off + k * 7 + 5, none⟩ = some (.int .i64 y.ans) ∧ V.cell? ⟨b, off + k * 7 + 6, none⟩ = some (.slice A7 y.stone.length c7)) w6)))
          have B6 := Lib.hid (BWC.out.trans (((Below.refl wc.heap.size wc).drew.trans hb6).mono BWC.out.size))
          have R6 : Hid (Rows ruleC none w6 w6.heap.size M ts) := RCd.out.later hb6
          cases q : canAdd ts y.stone y.ask y.ans with
          | false =>
            clear ho6
            go_wp2
            go_roundg (t.length - (k + 1))
            case measure => omega
            case rel => exact ⟨k + 1, M, m, ts, by omega, by omega, by go_num, rfl, OW.out, SM.out, R6.out, B6.out⟩
          | true =>
            have HAD : Hid (rdrAdd ts y.stone y.ask y.ans = added ts y.stone y.ask y.ans) := by show _ = _; unfold rdrAdd; rw [q]; rfl
            rw [HAD.out] at ho6
            have HAL := Lib.hid (added_length ts y.stone y.ask y.ans)
            obtain ⟨A8, c8, rfl, hr8⟩ := ho6.rows (by rw [HAL.out]; omega)
            have R8 := Lib.hid (hr8.weak (Weaker.none _))
            have OA := Lib.hid (ownT_added OW.out q)
            have SA := Lib.hid (added_stone (x := y.ask) (a := y.ans) SM.out hsl)
            clear ho6 hr8
            go_wp2
            go_roundg (t.length - (k + 1))
            case measure => omega
            case rel => exact ⟨k + 1, A8, c8, _, by omega, by omega, by go_num, rfl, OA.out, SA.out, R8.out, B6.out⟩
        | false =>
          clear q
          obtain ⟨wo, hwo⟩ : ∃ wo : World, wo = wc := ⟨_, rfl⟩
          subst hwo
          go_wp2
          go_loopg [15] ts.length (fun gg s15 wr => ∃ j : Nat, j ≤ ts.length ∧ ts.length - j ≤ gg ∧ s15 = .int .i64 j ∧ Aside (Below wo.heap.size wo wr))
          case atStart => exact ⟨0, Nat.zero_le _, by omega, rfl, Below.refl _ _⟩
          case round =>
            obtain ⟨j, hj, hg2, rfl, BJ⟩ := hrel
            by_cases hjl : j < ts.length
            · have hjz : (j : Int) < (ts.length : Int) := by omega
              obtain ⟨b, off, A7, c7, rfl, hb, hr, hd0, hd1, hd2, hd3, hd4, hd5, hd6⟩ := rule_at (RC.out.later BJ.out) hjl
              have HR := Lib.hid hr.ints
              have HO := Lib.hid (OW.out.2 ts[j] (List.getElem_mem hjl))
              clear hr hd0 hd1 hd2 hd3 hd4
              generalize ts[j] = y at hd5 hd6 HR HO
              have HS : Hid ((fun V : World => V.cell? ⟨b, off + j * 7 + 5, none⟩ = some (.int .i64 y.ans) ∧ V.cell? ⟨b, off + j * 7 + 6, none⟩ = some (.slice A7 y.stone.length c7)) wr.drew) := ⟨hd5, hd6⟩
              have RCd : Hid (Rows ruleC none wr.drew wr.drew.heap.size (some ⟨b, off, none⟩) ts) := RC.out.later BJ.out.drew
              have HRd : Hid (Ints wr.drew wr.drew.heap.size A7 y.stone) := HR.out
              have hbl : b < wr.drew.heap.size := hb
              have hne : (y.ans != y.ans) = false := by simp
              clear hd5 hd6 hb HR
              go_upto_region 18 with fail
              go_region_held3 (fun V : World => V.cell? ⟨b, off + j * 7 + 5, none⟩ = some (.int .i64 y.ans) ∧ V.cell? ⟨b, off + j * 7 + 6, none⟩ = some (.slice A7 y.stone.length c7)) (first | exact HS.out | exact HS6.out)
                (first
                  | (go_at_call 33; refine (impl_RdrAsk _ A7 m c7 ts y.stone none _ RCd.out HRd.out (by omega)).mono ?_; rintro e w6 ⟨rfl, hb6⟩; rw [HO.out]; have HS6 := Lib.hid (⟨(hb6.cell (p := ⟨b, off + j * 7 + 5, none⟩) hbl).trans HS.out.1, (hb6.cell (p := ⟨b, off + j * 7 + 6, none⟩) hbl).trans HS.out.2⟩ : (fun V : World => V.cell? ⟨b, off + j * 7 + 5, none⟩ = some (.int .i64 y.ans) ∧ V.cell? ⟨b, off + j * 7 + 6, none⟩ = some (.slice A7 y.stone.length c7)) w6)))
              have B6 := Lib.hid (BJ.out.trans (((Below.refl wr.heap.size wr).drew.trans hb6).mono BJ.out.size))
              go_wp2
              go_roundg (ts.length - (j + 1))
              case measure => omega
              case rel => exact ⟨j + 1, by omega, by omega, by go_num, B6.out⟩
            · have hjz : ¬ (j : Int) < (ts.length : Int) := by omega
              have HT := Lib.hid OW.out.1
              have BE := Lib.hid (BWC.out.trans (BJ.out.mono BWC.out.size))
              go_wp2_with fail
              refine (impl_RdrOk M m ts none _ (RC.out.later BJ.out) (by omega)).mono ?_
              rintro e w7 ⟨rfl, hb7⟩
              rw [HT.out]
              have B7 := Lib.hid (BE.out.trans (hb7.mono BE.out.size))
              clear hb7
              go_wp2_with (go_at_call 30; refine (laws_guOk _).mono ?_; rintro e w8 ⟨rfl, hb8⟩; have B8 := Lib.hid hb8; clear hb8)
              go_ret
              exact ⟨rfl, B1.out.trans ((B7.out.trans (B8.out.mono B7.out.size)).mono B1.out.size)⟩
  · have hz : (1048576 : Int) < xs.length := by omega
    go_enter Try.func13, Try.ntmps13
    go_wp2
    go_ret
    exact ⟨rfl, Below.refl _ _⟩
end Go.Proofs.Ytnnhhmdeoedmmaa
