/- The walk of FnPplHas: it returns true. -/
import Derived.Test.YtkngpmmjmhidcaaDrawPpl
import Derived.Test.YtkngpmmjmhidcaaDat
import Derived.Deep.Cut
namespace Go.Proofs.Ytkngpmmjmhidcaa
open Go.RowKit

theorem pplOk_one (x : Int) : pplOk [x] = inB x 0 7 := by
  have : inB 1 1 4 = true := inB_true (by omega) (by omega)
  simp [pplOk, this]
theorem all_step {α : Type} (p : α → Bool) (xs : List α) (k : Nat) (hk : k < xs.length) : (xs.take (k + 1)).all p = ((xs.take k).all p && p xs[k]) := by
  rw [List.take_succ_eq_append_getElem hk, List.all_append]; simp

/-- What the roles of who make, told by the bit. -/
theorem hasBit_lit (x role : Int) (h1 : 1 ≤ role) (h3 : role ≤ 3) (z : Int) (hz : [1, 2, 4][(role - 1).toNat]? = some z) : hasBit x role = decide (x / z % 2 = 1) := by
  rcases (by omega : role = 1 ∨ role = 2 ∨ role = 3) with rfl | rfl | rfl <;> (simp at hz; subst hz; rfl)

set_option maxRecDepth 100000 in
set_option maxHeartbeats 2000000 in
theorem walk_FnPplHas (A1 : Option Addr) (c1 : Nat) (xs1 : List Int) (A2 : Option Addr) (c2 : Nat) (xs2 : List Int) (w : World) (h1 : Code w w.heap.size A1 c1 xs1) (h2 : Code w w.heap.size A2 c2 xs2) :
    Calls Try.prog 7 #[.slice A1 xs1.length c1, .slice A2 xs2.length c2] w fun e w' => e = .returned (.bool true) ∧ Below w.heap.size w w' := by
  have hlen1 := h1.1.1
  have hlen2 := h2.1.1
  have HC1 := Lib.hid h1
  have HC2 := Lib.hid h2
  clear h1 h2
  by_cases hl1 : 1048576 < xs1.length
  · have hlz : (1048576 : Int) < (xs1.length : Int) := by omega
    go_enter Try.func7, Try.ntmps7
    go_wp2
    go_ret
    exact ⟨rfl, Below.refl _ _⟩
  have hlz1 : ¬ (1048576 : Int) < (xs1.length : Int) := by omega
  by_cases hl2 : 1048576 < xs2.length
  · have hlz : (1048576 : Int) < (xs2.length : Int) := by omega
    go_enter Try.func7, Try.ntmps7
    go_wp2
    go_ret
    exact ⟨rfl, Below.refl _ _⟩
  have hlz2 : ¬ (1048576 : Int) < (xs2.length : Int) := by omega
  go_enter Try.func7, Try.ntmps7
  go_wp2_with fail
  refine (DrawPplHas A1 c1 xs1 w HC1.out).mono ?_
  rintro e w1 ⟨A, c, ps, who, role, rfl, hd5, hrow, hw0, hw5, hr0, hr4, hb1⟩
  have D1 := Lib.hid hrow
  have B1 := Lib.hid hb1
  clear hrow hb1
  go_wp2_with fail
  refine (DrawPplOk A2 c2 xs2 w1 ⟨⟨HC2.out.1.1, fun hn => ?_, HC2.out.1.2.2⟩, HC2.out.2⟩).mono ?_
  · obtain ⟨b, off, hA, hb, hc⟩ := HC2.out.1.2.1 hn
    exact ⟨b, off, hA, Nat.lt_of_lt_of_le hb B1.out.size, fun j x hx => (B1.out.cell (p := ⟨b, off + j, none⟩) hb).trans (hc j x hx)⟩
  rintro e w2 ⟨A', c', qs, rfl, hq5, hqc, hrow2, hb2⟩
  have D2 := Lib.hid (D1.out.later hb2)
  have Q2 := Lib.hid hrow2
  have B2 := Lib.hid (B1.out.trans (hb2.mono B1.out.size))
  clear hrow2 hb2
  go_wp2_with fail
  refine (impl_PplHas A c ps who role w2 D2.out).mono ?_
  rintro e w3 ⟨rfl, hb3⟩
  have D3 := Lib.hid (D2.out.later hb3)
  have Q3 := Lib.hid (Q2.out.later hb3)
  have B3 := Lib.hid (B2.out.trans (hb3.mono B2.out.size))
  clear hb3
  generalize hP : pplHas ps who role = P
  generalize hPQ : pplOk qs = PQ
  have HP := Lib.hid hP
  have HPQ := Lib.hid hPQ
  clear hP hPQ
  go_wp2_with fail
  refine (spec_PplHas A c ps who role w3 _ D3.out).mono ?_
  rintro e w' ⟨rfl, rfl⟩
  rw [HP.out]
  go_wp2_with fail
  refine (impl_PplOk A' c' qs w3 Q3.out).mono ?_
  rintro e w4 ⟨rfl, hb4⟩
  have D4 := Lib.hid (D3.out.later hb4)
  have Q4 := Lib.hid (Q3.out.later hb4)
  have B4 := Lib.hid (B3.out.trans (hb4.mono B3.out.size))
  clear hb4
  rw [HPQ.out]
  go_wp2_with fail
  refine (spec_PplOk A' c' qs w4 _ Q4.out).mono ?_
  rintro e w' ⟨rfl, rfl⟩
  rw [HPQ.out]
  go_upto_region 8 with fail
  go_cut [10] from 46 (fun s10 wx => s10 = .bool (inB qs.length 1 4) ∧ wx = w4)
  case first =>
    by_cases g1 : 1 ≤ qs.length
    · have g1z : (1 : Int) ≤ (qs.length : Int) := by omega
      by_cases g4 : qs.length ≤ 4
      · have g4z : (qs.length : Int) ≤ 4 := by omega
        have hB := Lib.hid (inB_true g1z g4z)
        go_wp2
        go_meet
        case rel => exact ⟨by rw [hB.out], rfl⟩
      · have g4z : ¬ (qs.length : Int) ≤ 4 := by omega
        have hB := Lib.hid (inB_not (n := qs.length) (lo := 1) (hi := 4) |>.2 (by omega))
        go_wp2
        go_meet
        case rel => exact ⟨by rw [hB.out], rfl⟩
    · have g1z : ¬ (1 : Int) ≤ (qs.length : Int) := by omega
      have hB := Lib.hid (inB_not (n := qs.length) (lo := 1) (hi := 4) |>.2 (by omega))
      go_wp2
      go_meet
      case rel => exact ⟨by rw [hB.out], rfl⟩
  case rest =>
    obtain ⟨rfl, hwc⟩ := hcut
    have hwc' := hwc.symm
    clear hwc
    subst hwc'
    go_wp2
    go_loopg [10, 11] qs.length (fun gg s10 s11 wr => ∃ k : Nat, k ≤ qs.length ∧ qs.length - k ≤ gg ∧ s11 = .int .i64 k ∧ s10 = .bool (inB qs.length 1 4 && (qs.take k).all fun x => inB x 0 7) ∧ Aside (Below w4.heap.size w4 wr))
    case atStart => exact ⟨0, Nat.zero_le _, by omega, rfl, by simp, Below.refl _ _⟩
    case round =>
      obtain ⟨k, hk, hgg, rfl, rfl, BW⟩ := hrel
      by_cases hlt : k < qs.length
      · have hltz : (k : Int) < (qs.length : Int) := by omega
        obtain ⟨b, off, rfl, hb, hc⟩ := Q4.out.at_ hlt
        have HM := Lib.hid (all_step (fun x : Int => inB x 0 7) qs k hlt)
        have HO := Lib.hid (pplOk_one qs[k])
        have HC := Lib.hid ((BW.out.cell (p := ⟨b, off + k, none⟩) hb).trans hc)
        generalize qs[k] = y at hc HM HO HC
        clear hc
        generalize hacc : (inB qs.length 1 4 && (qs.take k).all fun x => inB x 0 7) = acc
        have HA := Lib.hid hacc
        clear hacc
        cases acc with
        | true =>
          have hk1 : (k : Int) + 1 ≤ (c' : Int) := by omega
          have hk2 : (k : Int) ≤ (k : Int) + 1 := by omega
          go_wp2_with fail
          refine (impl_PplOk (some ⟨b, off + k, none⟩) (c' - k) [y] wr ⟨by simp, fun _ => ⟨b, off + k, rfl, Nat.lt_of_lt_of_le hb BW.out.size, fun j x hx => ?_⟩⟩).mono ?_
          · match j, hx with
            | 0, hx => simp only [List.getElem?_cons_zero, Option.some.injEq] at hx; subst hx; exact HC.out
            | j + 1, hx => simp at hx
          rintro e w5 ⟨rfl, hb5⟩
          rw [HO.out]
          have B5 := Lib.hid (BW.out.trans (hb5.mono BW.out.size))
          clear hb5
          have HS : Hid ((inB qs.length 1 4 && (qs.take (k + 1)).all fun x => inB x 0 7) = inB y 0 7) := by
            show _ = _
            rw [HM.out, ← Bool.and_assoc, HA.out]; rfl
          go_wp2
          go_roundg (qs.length - (k + 1))
          case measure => omega
          case rel => exact ⟨k + 1, by omega, by omega, by go_num, by rw [HS.out], B5.out⟩
        | false =>
          have HS : Hid ((inB qs.length 1 4 && (qs.take (k + 1)).all fun x => inB x 0 7) = false) := by
            show _ = _
            rw [HM.out, ← Bool.and_assoc, HA.out]; rfl
          go_wp2
          go_roundg (qs.length - (k + 1))
          case measure => omega
          case rel => exact ⟨k + 1, by omega, by omega, by go_num, by rw [HS.out], BW.out⟩
      · have hltz : ¬ (k : Int) < (qs.length : Int) := by omega
        have he : k = qs.length := by omega
        subst he
        rw [List.take_length]
        have HQ : Hid ((inB qs.length 1 4 && qs.all fun x => inB x 0 7) = PQ) := by
          show _ = _
          rw [← HPQ.out]; simp [pplOk, List.any_eq_not_all_not]
        rw [HQ.out]
        go_wp2_with fail
        refine (impl_PplOk A' c' qs wr (Q4.out.later BW.out)).mono ?_
        rintro e w5 ⟨rfl, hb5⟩
        rw [HPQ.out]
        have B5 := Lib.hid (BW.out.trans (hb5.mono BW.out.size))
        clear hb5
        go_wp2_with fail
        refine (spec_PplOk A c ps w5 _ (D4.out.later B5.out)).mono ?_
        rintro e w' ⟨rfl, rfl⟩
        by_cases hbad : pplOk ps = false ∨ who < 1 ∨ (ps.length : Int) < who ∨ role < 1 ∨ 3 < role
        · have hPf : P = false := by
            rw [← HP.out]
            rcases hbad with h | h | h | h | h
            · simp [pplHas, h]
            · simp [pplHas, inB_not.2 (.inl h : who < 1 ∨ (ps.length : Int) < who)]
            · simp [pplHas, inB_not.2 (.inr h : who < 1 ∨ (ps.length : Int) < who)]
            · simp [pplHas, inB_not.2 (.inl h : role < 1 ∨ 3 < role)]
            · simp [pplHas, inB_not.2 (.inr h : role < 1 ∨ 3 < role)]
          subst hPf
          have fin : Hid (∀ w6, Below w5.heap.size w5 w6 → Below w.heap.size w w6) := fun w6 h6 => B4.out.trans ((B5.out.trans (h6.mono B5.out.size)).mono B4.out.size)
          generalize hOK : pplOk ps = ok at *
          cases ok with
          | false =>
            go_wp2_with (go_at_call 29; refine (laws_guOk _).mono ?_; rintro e w6 ⟨rfl, hb6⟩)
            go_ret
            exact ⟨rfl, fin.out _ hb6⟩
          | true =>
            by_cases h1 : who < 1
            · clear hbad
              go_wp2_with (go_at_call 29; refine (laws_guOk _).mono ?_; rintro e w6 ⟨rfl, hb6⟩)
              go_ret
              exact ⟨rfl, fin.out _ hb6⟩
            by_cases h2 : (ps.length : Int) < who
            · clear hbad
              go_wp2_with (go_at_call 29; refine (laws_guOk _).mono ?_; rintro e w6 ⟨rfl, hb6⟩)
              go_ret
              exact ⟨rfl, fin.out _ hb6⟩
            by_cases h3 : role < 1
            · clear hbad
              go_wp2_with (go_at_call 29; refine (laws_guOk _).mono ?_; rintro e w6 ⟨rfl, hb6⟩)
              go_ret
              exact ⟨rfl, fin.out _ hb6⟩
            have h4 : 3 < role := by
              rcases hbad with h | h | h | h | h
              · cases h
              all_goals omega
            clear hbad
            go_wp2_with (go_at_call 29; refine (laws_guOk _).mono ?_; rintro e w6 ⟨rfl, hb6⟩)
            go_ret
            exact ⟨rfl, fin.out _ hb6⟩
        · have hok : pplOk ps = true := by
            cases h : pplOk ps with
            | true => rfl
            | false => exact absurd (.inl h) hbad
          have h1 : ¬ who < 1 := fun h => hbad (.inr (.inl h))
          have h2 : ¬ (ps.length : Int) < who := fun h => hbad (.inr (.inr (.inl h)))
          have h3 : ¬ role < 1 := fun h => hbad (.inr (.inr (.inr (.inl h))))
          have h4 : ¬ 3 < role := fun h => hbad (.inr (.inr (.inr (.inr h))))
          clear hbad
          rw [hok]
          obtain ⟨r, hr⟩ : ∃ r : Nat, role = (r : Int) + 1 := ⟨(role - 1).toNat, by omega⟩
          obtain ⟨q, hq⟩ : ∃ q : Nat, who = (q : Int) + 1 := ⟨(who - 1).toNat, by omega⟩
          subst hr hq
          have hql : q < ps.length := by omega
          obtain ⟨b, off, rfl, hb, hc⟩ := (D4.out.later B5.out).at_ hql
          have hx07 := (pplOk_bounds hok).2.2 ps[q] (List.getElem_mem hql)
          have hr2 : r < 3 := by omega
          have hr2z : (r : Int) < 3 := by omega
          obtain ⟨z, hz, hz1, hz4⟩ : ∃ z : Int, [1, 2, 4][r]? = some z ∧ 1 ≤ z ∧ z ≤ 4 := by
            rcases (by omega : r = 0 ∨ r = 1 ∨ r = 2) with rfl | rfl | rfl
            · exact ⟨1, rfl, by omega, by omega⟩
            · exact ⟨2, rfl, by omega, by omega⟩
            · exact ⟨4, rfl, by omega, by omega⟩
          have hPv : P = ((ps[q] / z).tmod 2 == 1) := by
            have e1 : ((q : Int) + 1 - 1).toNat = q := by omega
            have e2 : inB ((q : Int) + 1) 1 ps.length = true := inB_true (by omega) (by omega)
            have e3 : inB ((r : Int) + 1) 1 3 = true := inB_true (by omega) (by omega)
            have e4 := hasBit_lit ps[q] ((r : Int) + 1) (by omega) (by omega) z (by rw [show ((r : Int) + 1 - 1).toNat = r by omega]; exact hz)
            rw [← HP.out]
            unfold pplHas
            rw [hok, e2, e3, e1, List.getD_eq_getElem?_getD, List.getElem?_eq_getElem hql, Option.getD_some, e4, Int.tmod_eq_emod_of_nonneg (Int.ediv_nonneg hx07.1 (by omega))]
            rfl
          have hlit : ((w5.alloc (.cells #[.int .i64 1, .int .i64 2, .int .i64 4] 3)).cell? ⟨w5.heap.size, r, none⟩) = some (.int .i64 z) := by
            rw [Bk.cell (Bk.new rfl)]
            rcases (by omega : r = 0 ∨ r = 1 ∨ r = 2) with rfl | rfl | rfl <;> (simp at hz; subst hz; rfl)
          generalize ps[q] = x at hc hx07 hPv
          clear HP
          subst hPv
          obtain ⟨hx0, hx7⟩ := hx07
          have hq2 : (q : Int) < (ps.length : Int) := by omega
          have fin : Hid (∀ w6, Below w5.heap.size w5 w6 → Below w.heap.size w w6) := fun w6 h6 => B4.out.trans ((B5.out.trans (h6.mono B5.out.size)).mono B4.out.size)
          go_wp2_with (go_at_call 29; refine (laws_guOk _).mono ?_; rintro e w6 ⟨rfl, hb6⟩)
          go_ret
          exact ⟨rfl, fin.out _ (Below.trans ((Below.refl _ _).alloc (Nat.le_refl _) _) (hb6.mono (by simp)))⟩
end Go.Proofs.Ytkngpmmjmhidcaa
