/- The walk of FnRdrAdd: it returns true. -/
import Derived.Test.YtnnhhmdeoedmmaaDrawRdrAdd
import Derived.Test.YtnnhhmdeoedmmaaGuTree
import Derived.Test.YtnnhhmdeoedmmaaAddI
import Derived.Test.YtnnhhmdeoedmmaaAddS
import Derived.Test.YtnnhhmdeoedmmaaAddLaw
import Derived.Test.YtnnhhmdeoedmmaaRdrOkI
import Derived.Test.YtnnhhmdeoedmmaaRdrOkS
import Derived.Test.YtnnhhmdeoedmmaaWay
import Derived.Test.YtnnhhmdeoedmmaaWayS
import Derived.Deep.RegionHeld3
namespace Go.Proofs.Ytnnhhmdeoedmmaa
open Go.RowKit

set_option linter.unusedSimpArgs false in
set_option maxRecDepth 100000 in
set_option maxHeartbeats 4000000 in
theorem walk_FnRdrAdd (A : Option Addr) (c : Nat) (xs : List Int) (A' : Option Addr) (c' : Nat) (ys : List Int) (w : World) (hx : Code w w.heap.size A c xs) (hy : Code w w.heap.size A' c' ys) :
    Calls Try.prog 14 #[.slice A xs.length c, .slice A' ys.length c'] w fun e w' => e = .returned (.bool true) ∧ Below w.heap.size w w' := by
  by_cases hl : xs.length ≤ 1048576
  · by_cases hl2 : ys.length ≤ 1048576
    · have hlz : ¬ (1048576 : Int) < xs.length := by omega
      have hlz2 : ¬ (1048576 : Int) < ys.length := by omega
      have HX := Lib.hid hx
      have HY := Lib.hid hy
      clear hx hy
      go_enter Try.func14, Try.ntmps14
      go_wp2_with fail
      refine (spec_DrawRdrAdd A c xs w HX.out).mono ?_
      rintro e w1 ⟨A1, c1, t, A2, c2, d, x, a, rfl, htl, hst, hdl, hrow, hint, hb1⟩
      have T1 := Lib.hid hrow
      have D1 := Lib.hid hint
      have B1 := Lib.hid hb1
      have S1 := Lib.hid hst
      have Y1 := Lib.hid (HY.out.later hb1)
      clear hrow hint hb1 hst hlz hlz2 HX HY
      go_wp2_with fail
      refine callsAt fun V hV => ?_
      have bV : Bk V w1.heap.size 39 #[.int .i64 x.op, .int .i64 x.var, .int .i64 x.k] := by
        rw [hV]
        exact Bk.new rfl
      have hBV : Below w1.heap.size w1 V := by rw [hV]; go_grown
      clear hV
      refine (impl_RdrAdd A1 A2 c1 c2 t d x a none V (T1.out.later hBV) (D1.out.later hBV) (by omega) (fun r hr => Nat.le_trans (S1.out r hr) (by omega)) (by omega)).mono ?_
      rintro e w2 ⟨v2, rfl, ho2, hb2⟩
      have K2 := Lib.hid (bV.later hb2)
      have O2 := Lib.hid ho2
      have Q2 := Lib.hid (hBV.trans (hb2.mono hBV.size))
      clear ho2 hb2 bV hBV
      have k2 := fun i => K2.out.cell i
      go_wp2_with fail
      refine (spec_RdrAdd A1 A2 c1 c2 t d x a none w2 (T1.out.later Q2.out) (D1.out.later Q2.out) (by omega) (fun r hr => Nat.le_trans (S1.out r hr) (by omega)) (by omega)).mono ?_
      rintro e w3 ⟨v3, rfl, ho3, hb3⟩
      have O3 := Lib.hid ho3
      have P3 := Lib.hid (O2.out.later hb3)
      have K3 := Lib.hid (K2.out.later hb3)
      have Q3 := Lib.hid (Q2.out.trans (hb3.mono Q2.out.size))
      clear ho3 hb3 k2 K2 O2 Q2
      have hrl : (rdrAdd t d x a).length ≤ 13 := by
        unfold rdrAdd
        split
        · rw [added_length]; omega
        · omega
      have HRA : Hid (rdrAdd t d x a = if canAdd t d x a then added t d x a else t) := rfl
      generalize rdrAdd t d x a = ra at *
      obtain ⟨A3, c3, rfl, hr3⟩ := P3.out.rows (by omega)
      obtain ⟨A4, c4, rfl, hr4⟩ := O3.out.rows (by omega)
      have R3 := Lib.hid hr3
      have R4 := Lib.hid hr4
      clear hr3 hr4 P3 O3
      go_wp2_with fail
      refine (laws_guTree A3 A4 c3 c4 ra _ _ w3 R3.out R4.out).mono ?_
      rintro e w4 ⟨rfl, n4, rfl⟩
      have Q4 := Lib.hid (bdN Q3.out n4)
      have K4 : Hid (Bk (w3.drewN n4) w1.heap.size 39 #[.int .i64 x.op, .int .i64 x.var, .int .i64 x.k]) := K3.out
      have G4 : Hid (Rows ruleC none (w3.drewN n4) (w3.drewN n4).heap.size A3 ra) := R3.out.weak (Weaker.none _)
      generalize w3.drewN n4 = W at Q4 K4 G4 ⊢
      clear R3 R4 Q3 K3
      cases q : canAdd t d x a with
      | false =>
        rw [q, if_neg (by decide)] at HRA
        obtain rfl := HRA.out.symm
        go_wp2_with fail
        refine (laws_guTree A3 A1 c3 c1 t _ _ W G4.out (T1.out.later Q4.out)).mono ?_
        rintro e w5 ⟨rfl, n5, rfl⟩
        have Q5 := Lib.hid (bdN Q4.out n5)
        generalize W.drewN n5 = W5 at Q5 ⊢
        go_wp2_with (go_at_call 30; refine (laws_guOk _).mono ?_; rintro e w8 ⟨rfl, hb8⟩; have B8 := Lib.hid hb8; clear hb8)
        go_ret
        exact ⟨rfl, B1.out.trans ((Q5.out.trans (B8.out.mono Q5.out.size)).mono B1.out.size)⟩
      | true =>
        rw [q, if_pos rfl] at HRA
        obtain rfl := HRA.out
        have HQ := Lib.hid q
        have HAL := Lib.hid (added_length t d x a)
        have HASK := Lib.hid (fun (i : Nat) (hi : i < t.length) => ask_stone q hi)
        have HNEW := Lib.hid (ask_new q)
        have HOTH := Lib.hid (fun (o : List Int) (ho : datOk o = true) => ask_other q ho)
        have HTOK := Lib.hid (treeOk_added q)
        clear q HRA HQ
        generalize added t d x a = ga at *
        go_wp2
        go_loopg [13] t.length (fun gg s13 wr => ∃ k : Nat, k ≤ t.length ∧ t.length - k ≤ gg ∧ s13 = .int .i64 k ∧ Aside (Below W.heap.size W wr))
        case atStart => exact ⟨0, Nat.zero_le _, by omega, rfl, Below.refl _ _⟩
        case round =>
          obtain ⟨k, hk, hg, rfl, BW⟩ := hrel
          have QW := Lib.hid (Q4.out.trans (BW.out.mono Q4.out.size))
          by_cases hlt : k < t.length
          · have hltz : (k : Int) < (t.length : Int) := by omega
            obtain ⟨b, off, A7, c7, rfl, hb, hr, hd0, hd1, hd2, hd3, hd4, hd5, hd6⟩ := rule_at (T1.out.later QW.out) hlt
            have HR := Lib.hid hr.ints
            have HE := Lib.hid (HASK.out k hlt)
            clear hr hd0 hd1 hd2 hd3 hd4 hd5
            generalize t[k] = y at hd6 HR HE
            have GW : Hid (Rows ruleC none wr wr.heap.size A3 ga) := G4.out.later BW.out
            have TW : Hid (Rows ruleC none wr wr.heap.size (some ⟨b, off, none⟩) t) := T1.out.later QW.out
            have HF : Hid (∀ V : World, Below wr.heap.size wr V → Calls Try.prog 33 #[.slice A3 ga.length c3, .slice A7 y.stone.length c7] V (Says (.int .i64 (rdrAsk t y.stone)) V)) := fun V hV => by
              have h := impl_RdrAsk A3 A7 c3 c7 ga y.stone none V (GW.out.later hV) (HR.out.later hV) (by rw [HAL.out]; omega)
              rw [HE.out] at h
              exact h
            have HG : Hid (∀ V : World, Below wr.heap.size wr V → Calls Try.prog 33 #[.slice (some ⟨b, off, none⟩) t.length c1, .slice A7 y.stone.length c7] V (Says (.int .i64 (rdrAsk t y.stone)) V)) := fun V hV => impl_RdrAsk _ A7 c1 c7 t y.stone none V (TW.out.later hV) (HR.out.later hV) (by omega)
            have hne : (rdrAsk t y.stone != rdrAsk t y.stone) = false := by simp
            have HS : Hid ((fun V : World => V.cell? ⟨b, off + k * 7 + 6, none⟩ = some (.slice A7 y.stone.length c7)) wr.drew) := hd6
            have hd : wr.heap.size = wr.drew.heap.size := rfl
            have HB0 : Hid (Below wr.heap.size wr wr.drew) := (Below.refl _ _).drew
            have hbl : b < wr.heap.size := hb
            generalize rdrAsk t y.stone = z at HF HG hne
            clear hd6 hb HR HE GW TW hd
            go_upto_region 13 with fail
            refine wp_region_held_drew (S := fun V : World => V.cell? ⟨b, off + k * 7 + 6, none⟩ = some (.slice A7 y.stone.length c7)) (by kernel_rfl) HS.out (fun hHeld => ?_)
            refine wpAnyH_take (i := 0) (v := ?_) rfl (by kernel_rfl) (by kernel_rfl) (by kernel_rfl) (fun _ _ _ h => h) (Or.inl ⟨by rfl, ?_⟩) (by assumption) ?_
            rotate_left
            · intro V hSw
              (try dsimp only at hSw)
              go_simp
              (try with_reducible rfl)
            simp only [List.getElem_toArray, List.getElem_cons_succ, List.getElem_cons_zero, Act.put, List.setIfInBounds_toArray, List.set_cons_zero, List.set_cons_succ]
            refine wpAnyH_take (i := 1) (v := ?_) rfl (by kernel_rfl) (by kernel_rfl) (by kernel_rfl) (fun _ _ _ h => h) (Or.inl ⟨by rfl, ?_⟩) (by assumption) ?_
            rotate_left
            · intro V hSw
              (try dsimp only at hSw)
              go_simp
              (try with_reducible rfl)
            simp only [List.getElem_toArray, List.getElem_cons_succ, List.getElem_cons_zero, Act.put, List.setIfInBounds_toArray, List.set_cons_zero, List.set_cons_succ]
            refine wpAnyH_take (i := 2) (v := ?_) rfl (by kernel_rfl) (by kernel_rfl) (by kernel_rfl) (fun _ _ _ h => h) (Or.inl ⟨by rfl, ?_⟩) (by assumption) ?_
            rotate_left
            · intro V hSw
              (try dsimp only at hSw)
              go_simp
              (try with_reducible rfl)
            simp only [List.getElem_toArray, List.getElem_cons_succ, List.getElem_cons_zero, Act.put, List.setIfInBounds_toArray, List.set_cons_zero, List.set_cons_succ]
            refine wpAnyH_take (i := 3) (v := ?_) rfl (by kernel_rfl) (by kernel_rfl) (by kernel_rfl) (fun _ _ _ h => h) (Or.inl ⟨by rfl, ?_⟩) (by assumption) ?_
            rotate_left
            · intro V hSw
              (try dsimp only at hSw)
              go_simp
              (try with_reducible rfl)
            simp only [List.getElem_toArray, List.getElem_cons_succ, List.getElem_cons_zero, Act.put, List.setIfInBounds_toArray, List.set_cons_zero, List.set_cons_succ]
            refine wpAnyH_take (i := 4) (v := ?_) rfl (by kernel_rfl) (by kernel_rfl) (by kernel_rfl) (fun _ _ _ h => h) (Or.inl ⟨by rfl, ?_⟩) (by assumption) ?_
            rotate_left
            · intro V hSw
              (try dsimp only at hSw)
              go_simp
              (try with_reducible rfl)
            simp only [List.getElem_toArray, List.getElem_cons_succ, List.getElem_cons_zero, Act.put, List.setIfInBounds_toArray, List.set_cons_zero, List.set_cons_succ]
            refine wpAnyH_take (i := 5) (v := ?_) rfl (by kernel_rfl) (by kernel_rfl) (by kernel_rfl) (fun _ _ _ h => h) (Or.inl ⟨by rfl, ?_⟩) (by assumption) ?_
            rotate_left
            · intro V hSw
              (try dsimp only at hSw)
              go_simp
              (try with_reducible rfl)
            simp only [List.getElem_toArray, List.getElem_cons_succ, List.getElem_cons_zero, Act.put, List.setIfInBounds_toArray, List.set_cons_zero, List.set_cons_succ]
            refine wpAnyH_take (i := 7) (v := ?_) rfl (by kernel_rfl) (by kernel_rfl) (by kernel_rfl) (fun _ _ _ h => h) (Or.inl ⟨by rfl, ?_⟩) (by assumption) ?_
            rotate_left
            · intro V hSw
              (try dsimp only at hSw)
              go_simp
              (try with_reducible rfl)
            simp only [List.getElem_toArray, List.getElem_cons_succ, List.getElem_cons_zero, Act.put, List.setIfInBounds_toArray, List.set_cons_zero, List.set_cons_succ]
            refine wpAnyH_take (i := 8) (v := ?_) rfl (by kernel_rfl) (by kernel_rfl) (by kernel_rfl) (fun _ _ _ h => h) (Or.inl ⟨by rfl, ?_⟩) (by assumption) ?_
            rotate_left
            · intro V hSw
              (try dsimp only at hSw)
              go_simp
              (try with_reducible rfl)
            simp only [List.getElem_toArray, List.getElem_cons_succ, List.getElem_cons_zero, Act.put, List.setIfInBounds_toArray, List.set_cons_zero, List.set_cons_succ]
            refine wpAnyH_take (i := 9) (v := ?_) rfl (by kernel_rfl) (by kernel_rfl) (by kernel_rfl) (fun _ _ _ h => h) (Or.inl ⟨by rfl, ?_⟩) (by assumption) ?_
            rotate_left
            · intro V hSw
              (try dsimp only at hSw)
              go_simp
              (try with_reducible rfl)
            simp only [List.getElem_toArray, List.getElem_cons_succ, List.getElem_cons_zero, Act.put, List.setIfInBounds_toArray, List.set_cons_zero, List.set_cons_succ]
            refine wpAnyH_take (i := 10) (v := ?_) rfl (by kernel_rfl) (by kernel_rfl) (by kernel_rfl) (fun _ _ _ h => h) (Or.inl ⟨by rfl, ?_⟩) (by assumption) ?_
            rotate_left
            · intro V hSw
              (try dsimp only at hSw)
              go_simp
              (try with_reducible rfl)
            simp only [List.getElem_toArray, List.getElem_cons_succ, List.getElem_cons_zero, Act.put, List.setIfInBounds_toArray, List.set_cons_zero, List.set_cons_succ]
            refine wpAnyH_take (i := 11) (v := ?_) rfl (by kernel_rfl) (by kernel_rfl) (by kernel_rfl) (fun _ _ _ h => h) (Or.inl ⟨by rfl, ?_⟩) (by assumption) ?_
            rotate_left
            · intro V hSw
              (try dsimp only at hSw)
              go_simp
              (try with_reducible rfl)
            simp only [List.getElem_toArray, List.getElem_cons_succ, List.getElem_cons_zero, Act.put, List.setIfInBounds_toArray, List.set_cons_zero, List.set_cons_succ]
            refine wpAnyH_take (i := 12) (v := ?_) rfl (by kernel_rfl) (by kernel_rfl) (by kernel_rfl) (fun _ _ _ h => h) (Or.inl ⟨by rfl, ?_⟩) (by assumption) ?_
            rotate_left
            · intro V hSw
              (try dsimp only at hSw)
              go_simp
              (try with_reducible rfl)
            simp only [List.getElem_toArray, List.getElem_cons_succ, List.getElem_cons_zero, Act.put, List.setIfInBounds_toArray, List.set_cons_zero, List.set_cons_succ]
            refine wpAnyH_ready (rs := [6]) (by kernel_rfl) (by simp) ?_
            refine AllReadyH.cons rfl (fun K hK => ?_) ?_
            rotate_left
            · exact AllReadyH.nil
            go_simp
            go_wp2_with (go_at_call 33; refine (HF.out _ HB0.out).mono ?_; rintro e w6 ⟨rfl, hb6⟩; have HB6 := Lib.hid (HB0.out.trans (hb6.mono HB0.out.size)))
            refine hK.out _ _ ((HB6.out.cell (p := ⟨b, off + k * 7 + 6, none⟩) hbl).trans HS.out) (fun hHeld => ?_)
            clear hK K
            refine wpAnyH_ready (rs := [13]) (by kernel_rfl) (by simp) ?_
            refine AllReadyH.cons rfl (fun K hK => ?_) ?_
            rotate_left
            · exact AllReadyH.nil
            go_simp
            go_wp2_with (go_at_call 33; refine (HG.out _ HB6.out).mono ?_; rintro e w7 ⟨rfl, hb7⟩; have HB7 := Lib.hid (HB6.out.trans (hb7.mono HB6.out.size)))
            refine hK.out _ _ ((HB7.out.cell (p := ⟨b, off + k * 7 + 6, none⟩) hbl).trans HS.out) (fun hHeld => ?_)
            clear hK K
            refine wpAnyH_take (i := 14) (v := ?_) rfl (by kernel_rfl) (by kernel_rfl) (by kernel_rfl) (fun _ _ _ h => h) (Or.inl ⟨by rfl, ?_⟩) (by assumption) ?_
            rotate_left
            · intro V hSw
              (try dsimp only at hSw)
              go_simp
              (try with_reducible rfl)
            simp only [List.getElem_toArray, List.getElem_cons_succ, List.getElem_cons_zero, Act.put, List.setIfInBounds_toArray, List.set_cons_zero, List.set_cons_succ]
            refine wpAnyH_done (by kernel_rfl) ?_ _
            go_wp2
            go_roundg (t.length - (k + 1))
            case measure => omega
            case rel => exact ⟨k + 1, by omega, by omega, by go_num, BW.out.trans (HB7.out.mono BW.out.size)⟩
          · have hltz : ¬ (k : Int) < (t.length : Int) := by omega
            go_wp2_with fail
            refine (spec_DrawRdrAsk A' c' ys wr (Y1.out.later QW.out)).mono ?_
            rintro e w5 ⟨A5, c5, t5, A6, c6, o, rfl, _, _, hol, _, hint, hb5⟩
            have I5 := Lib.hid hint
            have Q5 := Lib.hid (QW.out.trans (hb5.mono QW.out.size))
            have G5 := Lib.hid ((G4.out.later BW.out).later hb5)
            have K5 := Lib.hid ((K4.out.later BW.out).later hb5)
            have P5 := Lib.hid (T1.out.later Q5.out)
            have M5 := Lib.hid (D1.out.later Q5.out)
            clear hint hb5 BW QW K4 G4 Q4
            go_upto_region 16 with fail
            go_cut [115] from 90 to 115 (fun s115 wx => s115 = .bool false ∧ Aside (Below w5.heap.size w5 wx))
            case first =>
              cases q2 : datOk o with
              | false =>
                go_wp2_with (go_at_call 43; refine (spec_DatOk A6 c6 o _ _ I5.out).mono ?_; rintro e w6 ⟨rfl, rfl⟩)
                go_meet
                case rel => exact ⟨rfl, Below.refl _ _⟩
              | true =>
                have HW := Lib.hid (HOTH.out o q2)
                go_wp2_with fail
                refine (spec_DatOk A6 c6 o _ _ I5.out).mono ?_
                rintro e w6 ⟨rfl, rfl⟩
                go_wp2_with fail
                refine (impl_RdrAsk A3 A6 c3 c6 ga o none _ G5.out I5.out (by omega)).mono ?_
                rintro e w6 ⟨rfl, hb6⟩
                have B6 := Lib.hid hb6
                clear hb6
                go_wp2_with fail
                refine (impl_RdrAsk A1 A6 c1 c6 t o none _ (P5.out.later B6.out) (I5.out.later B6.out) (by omega)).mono ?_
                rintro e w7 ⟨rfl, hb7⟩
                have B7 := Lib.hid (B6.out.trans (hb7.mono B6.out.size))
                clear hb7
                by_cases hq : rdrAsk ga o = rdrAsk t o
                · have hqb : (rdrAsk ga o != rdrAsk t o) = false := by simp [hq]
                  clear hq
                  go_wp2
                  go_meet
                  case rel => exact ⟨rfl, B7.out⟩
                · have hqb : (rdrAsk ga o != rdrAsk t o) = true := by simp [hq]
                  obtain ⟨hw1, hw2⟩ := HW.out hq
                  have hwl := rdrWay_len ga o
                  have HWY := Lib.hid hw1
                  have HHO := Lib.hid hw2
                  clear hq hw1 hw2
                  go_wp2_with fail
                  refine (impl_RdrWay A3 A6 c3 c6 ga o none _ (G5.out.later B7.out) (I5.out.later B7.out) (by omega)).mono ?_
                  rintro e w8 ⟨v8, rfl, hv8, hb8⟩
                  obtain ⟨A8, c8, rfl, hi8⟩ := own_ints hv8 (by omega)
                  have I8 := Lib.hid hi8
                  have B8 := Lib.hid (B7.out.trans (hb8.mono B7.out.size))
                  clear hv8 hb8 hi8
                  have HAN : Hid (((rdrWay ga o).any fun x => decide (x = (t.length : Int))) = true) := List.any_eq_true.2 ⟨_, HWY.out, by simp⟩
                  generalize rdrWay ga o = ws at *
                  go_wp2_with fail
                  refine (laws_guHas A8 c8 ws (t.length : Int) _ _ I8.out).mono ?_
                  rintro e w9 ⟨rfl, rfl⟩
                  rw [HAN.out]
                  have K8 := Lib.hid (K5.out.later B8.out)
                  have k8 := fun i => K8.out.cell i
                  go_wp2_with fail
                  refine (impl_ExpHolds x A6 c6 o _ (I5.out.later B8.out)).mono ?_
                  rintro e w9 ⟨rfl, hb9⟩
                  rw [HHO.out]
                  have B9 := Lib.hid (B8.out.trans (hb9.mono B8.out.size))
                  clear hb9 k8
                  go_wp2
                  go_meet
                  case rel => exact ⟨rfl, B9.out⟩
            case rest =>
              obtain ⟨rfl, BC⟩ := hcut
              have GC := Lib.hid (G5.out.later BC.out)
              have MC := Lib.hid (M5.out.later BC.out)
              have QC := Lib.hid (Q5.out.trans (BC.out.mono Q5.out.size))
              have hle : ((ga.length : Int) == (t.length : Int) + 1) = true := by rw [HAL.out]; simp
              clear BC G5 M5 Q5 I5 K5 P5
              go_wp2_with fail
              refine (impl_RdrOk A3 c3 ga none _ GC.out (by omega)).mono ?_
              rintro e w6 ⟨rfl, hb6⟩
              rw [HTOK.out]
              have B6 := Lib.hid hb6
              clear hb6
              go_wp2_with fail
              refine (impl_RdrAsk A3 A2 c3 c2 ga d none _ (GC.out.later B6.out) (MC.out.later B6.out) (by omega)).mono ?_
              rintro e w7 ⟨rfl, hb7⟩
              rw [HNEW.out]
              have B7 := Lib.hid (QC.out.trans ((B6.out.trans (hb7.mono B6.out.size)).mono QC.out.size))
              clear hb7
              go_wp2
              go_ret
              exact ⟨by simp, B1.out.trans (B7.out.mono B1.out.size)⟩
    · have hlz : ¬ (1048576 : Int) < xs.length := by omega
      have hz : (1048576 : Int) < ys.length := by omega
      go_enter Try.func14, Try.ntmps14
      go_wp2
      go_ret
      exact ⟨rfl, Below.refl _ _⟩
  · have hz : (1048576 : Int) < xs.length := by omega
    go_enter Try.func14, Try.ntmps14
    go_wp2
    go_ret
    exact ⟨rfl, Below.refl _ _⟩
end Go.Proofs.Ytnnhhmdeoedmmaa
