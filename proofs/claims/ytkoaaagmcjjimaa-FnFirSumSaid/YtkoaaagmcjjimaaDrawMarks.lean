/- Marks drawn: l20Marks. -/
import Derived.Test.YtkoaaagmcjjimaaDrawData
namespace Go.Proofs.Ytkoaaagmcjjimaa
open Go.RowKit
set_option linter.unusedSimpArgs false
set_option linter.unusedVariables false

/-- What drawing marks leaves. -/
def DrawnM (R Q : Nat) (w : World) (e : Ending) (w' : World) : Prop :=
  ∃ A c xs, e = .returned (.slice A (List.length (α := Int) xs) c) ∧ xs.length ≤ 11 ∧ Rows intC (some w.heap.size) w' w'.heap.size A xs ∧ RdB w' R Q ∧ Turned R w w'

theorem OwnV.put9 {w : World} {base g c : Nat} {xs : List Int} (h : OwnV w base (.slice (some ⟨g, 0, none⟩) xs.length c) xs) (j : Nat) (z : Int) : OwnV (w.setCell ⟨g, j, none⟩ (.int .i64 z)) base (.slice (some ⟨g, 0, none⟩) (xs.set j z).length c) (xs.set j z) := by
  unfold OwnV
  rw [List.length_set, ← iv_put]
  exact (World.ownsRow.stored h j (.int .i64 z)).1

set_option maxRecDepth 100000 in
set_option maxHeartbeats 4000000 in
theorem l20Marks (R P p : Nat) (n : Int) (w : World) (h : RdB w R P) (hP : P ≤ 800000) (hp : p ≤ 10) (hn : n ≤ 1000) :
    Calls Try.prog 138 #[.pointer (some ⟨R, 0, none⟩), .int .i64 p, .int .i64 n] w (DrawnM R (P + 40) w) := by
  have HR := Lib.hid h
  have HRlt := Lib.hid h.lt
  clear h
  go_enter Try.func138, Try.ntmps138
  go_wp2
  generalize hW : w.alloc _ = W
  have W0 : Hid (Turned R w W) := by show Turned _ _ _; rw [← hW]; exact Turned.of_below ((Below.refl _ _).alloc (Nat.le_refl _) _)
  have R0 : Hid (RdB W R P) := by show RdB _ _ _; rw [← hW]; exact HR.out.low ((Below.refl _ _).alloc (Nat.le_refl _) _) HRlt.out
  have O0 : Hid (OwnV W w.heap.size (.slice (some ⟨w.heap.size, 0, none⟩) 0 0) []) := by
    show OwnV _ _ _ _
    rw [← hW]
    exact World.ownsRow_made w #[] 0 (Nat.le_refl _) (by simp [maxLen]) rfl
  clear hW
  go_loopg [7, 8] p (fun gg s7 s8 wr => ∃ (k : Nat) (xs : List Int), k ≤ p ∧ p - k ≤ gg ∧ s8 = .int .i64 k ∧ xs.length = k ∧ Aside (OwnV wr w.heap.size s7 xs) ∧ Aside (Turned R w wr) ∧ Aside (RdB wr R (P + k)))
  case atStart => exact ⟨0, [], by omega, by omega, rfl, rfl, O0.out, W0.out, R0.out⟩
  case round =>
    obtain ⟨k, xs, hk, hg, rfl, hxl, OW, TW, RW⟩ := hrel
    have HXL := Lib.hid hxl
    clear hxl
    by_cases hlt : k < p
    · have hltz : (k : Int) < (p : Int) := by omega
      go_wp2_with fail
      refine callsAt fun W2 hW2 => ?_
      have bL : Bk W2 wr.heap.size 3 (iv [0, 0, 1, 1, 2, 4]).toArray := by rw [hW2]; exact Bk.new rfl
      have hB2 : Below wr.heap.size wr W2 := by rw [hW2]; exact (Below.refl _ _).alloc (Nat.le_refl _) _
      clear hW2
      refine (l20Rd_pick R _ 6 _ (RW.out.low hB2 RW.out.lt) (by omega) (by omega)).mono ?_
      rintro e w3 ⟨v3, rfl, hv30, hv31, _, hr3, ht3⟩
      obtain ⟨k3, rfl⟩ := Int.eq_ofNat_of_zero_le hv30
      have hk3 : (k3 : Int) < 6 := by omega
      obtain ⟨z3, hz3⟩ := lit_at (bL.turned ht3 (by have := RW.out.lt; omega)) (k := k3) (by simp; omega)
      have O3 := Lib.hid ((OW.out.later hB2).later' ht3 HRlt.out)
      have T3 := Lib.hid ((TW.out.then hB2).trans ht3)
      have R3 := Lib.hid hr3
      have hs3 := T3.out.size
      clear bL hB2 hr3 ht3 hv31
      go_wp2_with (at_builtin; refine append_int rfl (.tmp 15) (.tmp 21) rfl w.heap.size _ _ rfl (O3.out.alloc _) w3.heap.size z3 rfl (by simp) (by have := HXL.out; omega) (by simp only [World.size_alloc]; omega) ?_; intro v' w4 hown hb4; have O4 := Lib.hid hown; have B4 := Lib.hid hb4; clear hown hb4)
      go_roundg (p - (k + 1))
      case measure => omega
      case rel => exact ⟨k + 1, xs ++ [z3], by omega, by omega, by go_num, by simp [HXL.out], O4.out, (T3.out.alloc _).trans' (B4.out), by show RdB _ _ _; exact ((R3.out.low ((Below.refl _ _).alloc (Nat.le_refl _) _) R3.out.lt).low B4.out HRlt.out).mono (by omega)⟩
    · have hltz : ¬ (k : Int) < (p : Int) := by omega
      have hkp : k = p := by omega
      have HXP : Hid (xs.length = p) := by show _ = _; rw [HXL.out, hkp]
      subst hkp
      have O3 := Lib.hid OW.out
      have T3 := Lib.hid TW.out
      have R3 := Lib.hid RW.out
      have hs0 := TW.out.size
      clear HXL OW TW RW
      by_cases hp1 : (1 : Int) < (k : Int)
      · go_wp2_with fail
        refine (l20Rd_pick R _ 4 _ R3.out (by omega) (by omega)).mono ?_
        rintro e w4 ⟨v4, rfl, hv40, _, _, hr4, ht4⟩
        have O4 := Lib.hid (O3.out.later' ht4 HRlt.out)
        have T4 := Lib.hid (T3.out.trans ht4)
        have R4 := Lib.hid hr4
        have hs4 := T4.out.size
        clear hr4 ht4 O3 T3 R3
        by_cases h4 : (0 : Int) < v4
        · obtain ⟨A, c, rfl, hcap, hA⟩ := O4.out.form'
          have hxp := HXP.out
          obtain ⟨g8, rfl, hgb, hWr⟩ := hA (by omega)
          have h1l : 1 < xs.length := by omega
          have h1z : (1 : Int) < (xs.length : Int) := by omega
          obtain ⟨y0, hy0⟩ : ∃ y0 : Int, w4.cell? ⟨g8, 1, none⟩ = some (.int .i64 y0) := ⟨xs[1], hWr.cell (iv_get (List.getElem?_eq_getElem h1l))⟩
          have hfr := hWr.frozen 1
          have HG := Lib.hid hgb
          have hgl := hWr.lt
          have HO4 : Hid (OwnV w4 w.heap.size (.slice (some ⟨g8, 0, none⟩) xs.length c) xs) := O4.out
          clear hWr hcap hA hxp
          go_upto_region 8 with fail
          clear hy0 hfr h1z
          generalize hV : World.setCell w4 _ _ = V4
          have O8 : Hid (OwnV V4 w.heap.size (.slice (some ⟨g8, 0, none⟩) (xs.set 1 0).length c) (xs.set 1 0)) := by
            show OwnV _ _ _ _
            rw [← hV]
            exact HO4.out.put9 1 0
          rw [show xs.length = (xs.set 1 0).length from (List.length_set ..).symm]
          have T8 : Hid (Turned R w V4) := by show Turned _ _ _; rw [← hV]; exact T4.out.trans' (Below.setCell (Below.refl _ _) (p := ⟨g8, 1, none⟩) HG.out _)
          have R8 : Hid (RdB V4 R (P + k + 1)) := by show RdB _ _ _; rw [← hV]; exact R4.out.low ((Below.refl g8 w4).setCell (p := ⟨g8, 1, none⟩) (Nat.le_refl _) _) (by have := HRlt.out; have := HG.out; omega)
          have hs8 := T8.out.size
          have HXP : Hid ((xs.set 1 0).length = k) := by show _ = _; rw [List.length_set]; exact HXP.out
          clear hV HO4 O4 T4 R4 h1l
          generalize xs.set 1 0 = ys at O8 HXP ⊢
          generalize Value.slice (some ⟨g8, 0, none⟩) ys.length c = vv at O8 ⊢
          go_wp2_with fail
          refine (l20Rd_pick R _ n _ R8.out (by omega) (by omega)).mono ?_
          rintro e w5 ⟨v5, rfl, _, _, _, hr5, ht5⟩
          have O5 := Lib.hid (O8.out.later' ht5 HRlt.out)
          have T5 := Lib.hid (T8.out.trans ht5)
          have R5 := Lib.hid hr5
          have hs5 := T5.out.size
          clear hr5 ht5 O8 T8 R8
          by_cases h5 : v5 = 0
          rotate_left
          · have b5 : (v5 == 0) = false := by simp [h5]
            clear h5
            go_wp2
            go_ret
            obtain ⟨A, c, rfl, hrow⟩ := O5.out.rows (by have := HXP.out; omega)
            exact ⟨A, c, _, rfl, by have := HXP.out; omega, hrow, R5.out.mono (by omega), T5.out⟩
          subst h5
          go_wp2_with fail
          refine (l20Rd_pick R _ 2 _ R5.out (by omega) (by omega)).mono ?_
          rintro e w6 ⟨v6, rfl, _, _, _, hr6, ht6⟩
          have O6 := Lib.hid (O5.out.later' ht6 HRlt.out)
          have T6 := Lib.hid (T5.out.trans ht6)
          have R6 := Lib.hid hr6
          have hs6 := T6.out.size
          clear hr6 ht6 O5 T5 R5
          by_cases h6 : v6 = 0 ∧ 0 < k
          · obtain ⟨rfl, hk0⟩ := h6
            have hk0z : (0 : Int) < (k : Int) := by omega
            go_wp2_with fail
            refine (l20Rd_pick R _ k _ R6.out (by omega) (by omega)).mono ?_
            rintro e w7 ⟨v7, rfl, hv70, hv71, _, hr7, ht7⟩
            obtain ⟨j, rfl⟩ := Int.eq_ofNat_of_zero_le hv70
            have hjk : (j : Int) < (k : Int) := hv71 (by omega)
            have O7 := Lib.hid (O6.out.later' ht7 HRlt.out)
            have T7 := Lib.hid (T6.out.trans ht7)
            have R7 := Lib.hid hr7
            have hs7 := T7.out.size
            clear hr7 ht7 hv71 O6 T6 R6
            go_wp2_with fail
            refine callsAt fun W8 hW8 => ?_
            have bL : Bk W8 w7.heap.size 3 (iv [-1, 5]).toArray := by rw [hW8]; exact Bk.new rfl
            have hB8 : Below w7.heap.size w7 W8 := by rw [hW8]; exact (Below.refl _ _).alloc (Nat.le_refl _) _
            clear hW8
            refine (l20Rd_pick R _ 2 _ (R7.out.low hB8 R7.out.lt) (by omega) (by omega)).mono ?_
            rintro e w9 ⟨v9, rfl, hv90, hv91, _, hr9, ht9⟩
            obtain ⟨k9, rfl⟩ := Int.eq_ofNat_of_zero_le hv90
            have hk9 : (k9 : Int) < 2 := by omega
            obtain ⟨z9, hz9⟩ := lit_at (bL.turned ht9 (by have := R7.out.lt; omega)) (k := k9) (by simp; omega)
            have T9 := Lib.hid ((T7.out.then hB8).trans ht9)
            have R9 := Lib.hid hr9
            obtain ⟨A, c, rfl, hcap, hA⟩ := ((O7.out.later hB8).later' ht9 HRlt.out).form'
            have hxp := HXP.out
            obtain ⟨g, rfl, hgb, hWr⟩ := hA (by omega)
            have hjl : j < List.length ys := by omega
            have hjz : (j : Int) < ((List.length ys : Nat) : Int) := by omega
            obtain ⟨y0, hy0⟩ : ∃ y0 : Int, w9.cell? ⟨g, j, none⟩ = some (.int .i64 y0) := ⟨ys[j], hWr.cell (iv_get (List.getElem?_eq_getElem hjl))⟩
            have hfr := hWr.frozen j
            have HS := Lib.hid (hWr.set j (.int .i64 z9))
            have HG := Lib.hid hgb
            clear bL hB8 hr9 ht9 hv91 hWr hcap hgb hA hxp
            go_wp2
            go_ret
            refine ⟨some ⟨g, 0, none⟩, c, List.set ys j z9, by rw [List.length_set]; rfl, by rw [List.length_set]; have := HXP.out; omega, ?_, ?_, ?_⟩
            · have h1 := HS.out
              rw [iv_put] at h1
              exact h1.rows (by rw [List.length_set]; have := HXP.out; omega) HG.out h1.lt
            · exact (R9.out.low ((Below.refl g w9).setCell (p := ⟨g, j, none⟩) (Nat.le_refl _) _) (by have := HRlt.out; have := HG.out; omega)).mono (by omega)
            · exact T9.out.trans' (Below.setCell (Below.refl _ _) (p := ⟨g, j, none⟩) HG.out _)
          · have b6 : (v6 == 0) = false ∨ (v6 == 0) = true ∧ ¬ (0 : Int) < (k : Int) := by
              by_cases h7 : v6 = 0
              · right
                exact ⟨by simp [h7], by intro h8; exact h6 ⟨h7, by omega⟩⟩
              · left
                simp [h7]
            clear h6
            rcases b6 with b6 | ⟨b6, b7⟩
            all_goals (try (exfalso; omega))
            all_goals
              go_wp2_with (at_builtin; refine append_int rfl (.tmp 53) (.tmp 54) rfl w.heap.size _ _ rfl (O6.out.alloc _) w6.heap.size 0 rfl (by simp) (by have := HXP.out; omega) (by simp only [World.size_alloc]; omega) ?_; intro v' wz hown hbz; have OZ := Lib.hid hown; have BZ := Lib.hid hbz; clear hown hbz)
              go_ret
              obtain ⟨A, c, rfl, hrow⟩ := OZ.out.rows (by rw [List.length_append]; have := HXP.out; simp only [List.length_cons, List.length_nil]; omega)
              exact ⟨A, c, _, rfl, by rw [List.length_append]; have := HXP.out; simp only [List.length_cons, List.length_nil]; omega, hrow, ((R6.out.low ((Below.refl _ _).alloc (Nat.le_refl _) _) R6.out.lt).low BZ.out HRlt.out).mono (by omega), (T6.out.alloc _).trans' BZ.out⟩
        · go_wp2_with fail
          refine (l20Rd_pick R _ n _ R4.out (by omega) (by omega)).mono ?_
          rintro e w5 ⟨v5, rfl, _, _, _, hr5, ht5⟩
          have O5 := Lib.hid (O4.out.later' ht5 HRlt.out)
          have T5 := Lib.hid (T4.out.trans ht5)
          have R5 := Lib.hid hr5
          have hs5 := T5.out.size
          clear hr5 ht5 O4 T4 R4
          by_cases h5 : v5 = 0
          rotate_left
          · have b5 : (v5 == 0) = false := by simp [h5]
            clear h5
            go_wp2
            go_ret
            obtain ⟨A, c, rfl, hrow⟩ := O5.out.rows (by have := HXP.out; omega)
            exact ⟨A, c, _, rfl, by have := HXP.out; omega, hrow, R5.out.mono (by omega), T5.out⟩
          subst h5
          go_wp2_with fail
          refine (l20Rd_pick R _ 2 _ R5.out (by omega) (by omega)).mono ?_
          rintro e w6 ⟨v6, rfl, _, _, _, hr6, ht6⟩
          have O6 := Lib.hid (O5.out.later' ht6 HRlt.out)
          have T6 := Lib.hid (T5.out.trans ht6)
          have R6 := Lib.hid hr6
          have hs6 := T6.out.size
          clear hr6 ht6 O5 T5 R5
          by_cases h6 : v6 = 0 ∧ 0 < k
          · obtain ⟨rfl, hk0⟩ := h6
            have hk0z : (0 : Int) < (k : Int) := by omega
            go_wp2_with fail
            refine (l20Rd_pick R _ k _ R6.out (by omega) (by omega)).mono ?_
            rintro e w7 ⟨v7, rfl, hv70, hv71, _, hr7, ht7⟩
            obtain ⟨j, rfl⟩ := Int.eq_ofNat_of_zero_le hv70
            have hjk : (j : Int) < (k : Int) := hv71 (by omega)
            have O7 := Lib.hid (O6.out.later' ht7 HRlt.out)
            have T7 := Lib.hid (T6.out.trans ht7)
            have R7 := Lib.hid hr7
            have hs7 := T7.out.size
            clear hr7 ht7 hv71 O6 T6 R6
            go_wp2_with fail
            refine callsAt fun W8 hW8 => ?_
            have bL : Bk W8 w7.heap.size 3 (iv [-1, 5]).toArray := by rw [hW8]; exact Bk.new rfl
            have hB8 : Below w7.heap.size w7 W8 := by rw [hW8]; exact (Below.refl _ _).alloc (Nat.le_refl _) _
            clear hW8
            refine (l20Rd_pick R _ 2 _ (R7.out.low hB8 R7.out.lt) (by omega) (by omega)).mono ?_
            rintro e w9 ⟨v9, rfl, hv90, hv91, _, hr9, ht9⟩
            obtain ⟨k9, rfl⟩ := Int.eq_ofNat_of_zero_le hv90
            have hk9 : (k9 : Int) < 2 := by omega
            obtain ⟨z9, hz9⟩ := lit_at (bL.turned ht9 (by have := R7.out.lt; omega)) (k := k9) (by simp; omega)
            have T9 := Lib.hid ((T7.out.then hB8).trans ht9)
            have R9 := Lib.hid hr9
            obtain ⟨A, c, rfl, hcap, hA⟩ := ((O7.out.later hB8).later' ht9 HRlt.out).form'
            have hxp := HXP.out
            obtain ⟨g, rfl, hgb, hWr⟩ := hA (by omega)
            have hjl : j < List.length xs := by omega
            have hjz : (j : Int) < ((List.length xs : Nat) : Int) := by omega
            obtain ⟨y0, hy0⟩ : ∃ y0 : Int, w9.cell? ⟨g, j, none⟩ = some (.int .i64 y0) := ⟨xs[j], hWr.cell (iv_get (List.getElem?_eq_getElem hjl))⟩
            have hfr := hWr.frozen j
            have HS := Lib.hid (hWr.set j (.int .i64 z9))
            have HG := Lib.hid hgb
            clear bL hB8 hr9 ht9 hv91 hWr hcap hgb hA hxp
            go_wp2
            go_ret
            refine ⟨some ⟨g, 0, none⟩, c, List.set xs j z9, by rw [List.length_set]; rfl, by rw [List.length_set]; have := HXP.out; omega, ?_, ?_, ?_⟩
            · have h1 := HS.out
              rw [iv_put] at h1
              exact h1.rows (by rw [List.length_set]; have := HXP.out; omega) HG.out h1.lt
            · exact (R9.out.low ((Below.refl g w9).setCell (p := ⟨g, j, none⟩) (Nat.le_refl _) _) (by have := HRlt.out; have := HG.out; omega)).mono (by omega)
            · exact T9.out.trans' (Below.setCell (Below.refl _ _) (p := ⟨g, j, none⟩) HG.out _)
          · have b6 : (v6 == 0) = false ∨ (v6 == 0) = true ∧ ¬ (0 : Int) < (k : Int) := by
              by_cases h7 : v6 = 0
              · right
                exact ⟨by simp [h7], by intro h8; exact h6 ⟨h7, by omega⟩⟩
              · left
                simp [h7]
            clear h6
            rcases b6 with b6 | ⟨b6, b7⟩
            all_goals (try (exfalso; omega))
            all_goals
              go_wp2_with (at_builtin; refine append_int rfl (.tmp 53) (.tmp 54) rfl w.heap.size _ _ rfl (O6.out.alloc _) w6.heap.size 0 rfl (by simp) (by have := HXP.out; omega) (by simp only [World.size_alloc]; omega) ?_; intro v' wz hown hbz; have OZ := Lib.hid hown; have BZ := Lib.hid hbz; clear hown hbz)
              go_ret
              obtain ⟨A, c, rfl, hrow⟩ := OZ.out.rows (by rw [List.length_append]; have := HXP.out; simp only [List.length_cons, List.length_nil]; omega)
              exact ⟨A, c, _, rfl, by rw [List.length_append]; have := HXP.out; simp only [List.length_cons, List.length_nil]; omega, hrow, ((R6.out.low ((Below.refl _ _).alloc (Nat.le_refl _) _) R6.out.lt).low BZ.out HRlt.out).mono (by omega), (T6.out.alloc _).trans' BZ.out⟩
          
      · go_wp2_with fail
        refine (l20Rd_pick R _ n _ R3.out (by omega) (by omega)).mono ?_
        rintro e w5 ⟨v5, rfl, _, _, _, hr5, ht5⟩
        have O5 := Lib.hid (O3.out.later' ht5 HRlt.out)
        have T5 := Lib.hid (T3.out.trans ht5)
        have R5 := Lib.hid hr5
        have hs5 := T5.out.size
        clear hr5 ht5 O3 T3 R3
        by_cases h5 : v5 = 0
        rotate_left
        · have b5 : (v5 == 0) = false := by simp [h5]
          clear h5
          go_wp2
          go_ret
          obtain ⟨A, c, rfl, hrow⟩ := O5.out.rows (by have := HXP.out; omega)
          exact ⟨A, c, _, rfl, by have := HXP.out; omega, hrow, R5.out.mono (by omega), T5.out⟩
        subst h5
        go_wp2_with fail
        refine (l20Rd_pick R _ 2 _ R5.out (by omega) (by omega)).mono ?_
        rintro e w6 ⟨v6, rfl, _, _, _, hr6, ht6⟩
        have O6 := Lib.hid (O5.out.later' ht6 HRlt.out)
        have T6 := Lib.hid (T5.out.trans ht6)
        have R6 := Lib.hid hr6
        have hs6 := T6.out.size
        clear hr6 ht6 O5 T5 R5
        by_cases h6 : v6 = 0 ∧ 0 < k
        · obtain ⟨rfl, hk0⟩ := h6
          have hk0z : (0 : Int) < (k : Int) := by omega
          go_wp2_with fail
          refine (l20Rd_pick R _ k _ R6.out (by omega) (by omega)).mono ?_
          rintro e w7 ⟨v7, rfl, hv70, hv71, _, hr7, ht7⟩
          obtain ⟨j, rfl⟩ := Int.eq_ofNat_of_zero_le hv70
          have hjk : (j : Int) < (k : Int) := hv71 (by omega)
          have O7 := Lib.hid (O6.out.later' ht7 HRlt.out)
          have T7 := Lib.hid (T6.out.trans ht7)
          have R7 := Lib.hid hr7
          have hs7 := T7.out.size
          clear hr7 ht7 hv71 O6 T6 R6
          go_wp2_with fail
          refine callsAt fun W8 hW8 => ?_
          have bL : Bk W8 w7.heap.size 3 (iv [-1, 5]).toArray := by rw [hW8]; exact Bk.new rfl
          have hB8 : Below w7.heap.size w7 W8 := by rw [hW8]; exact (Below.refl _ _).alloc (Nat.le_refl _) _
          clear hW8
          refine (l20Rd_pick R _ 2 _ (R7.out.low hB8 R7.out.lt) (by omega) (by omega)).mono ?_
          rintro e w9 ⟨v9, rfl, hv90, hv91, _, hr9, ht9⟩
          obtain ⟨k9, rfl⟩ := Int.eq_ofNat_of_zero_le hv90
          have hk9 : (k9 : Int) < 2 := by omega
          obtain ⟨z9, hz9⟩ := lit_at (bL.turned ht9 (by have := R7.out.lt; omega)) (k := k9) (by simp; omega)
          have T9 := Lib.hid ((T7.out.then hB8).trans ht9)
          have R9 := Lib.hid hr9
          obtain ⟨A, c, rfl, hcap, hA⟩ := ((O7.out.later hB8).later' ht9 HRlt.out).form'
          have hxp := HXP.out
          obtain ⟨g, rfl, hgb, hWr⟩ := hA (by omega)
          have hjl : j < List.length xs := by omega
          have hjz : (j : Int) < ((List.length xs : Nat) : Int) := by omega
          obtain ⟨y0, hy0⟩ : ∃ y0 : Int, w9.cell? ⟨g, j, none⟩ = some (.int .i64 y0) := ⟨xs[j], hWr.cell (iv_get (List.getElem?_eq_getElem hjl))⟩
          have hfr := hWr.frozen j
          have HS := Lib.hid (hWr.set j (.int .i64 z9))
          have HG := Lib.hid hgb
          clear bL hB8 hr9 ht9 hv91 hWr hcap hgb hA hxp
          go_wp2
          go_ret
          refine ⟨some ⟨g, 0, none⟩, c, List.set xs j z9, by rw [List.length_set]; rfl, by rw [List.length_set]; have := HXP.out; omega, ?_, ?_, ?_⟩
          · have h1 := HS.out
            rw [iv_put] at h1
            exact h1.rows (by rw [List.length_set]; have := HXP.out; omega) HG.out h1.lt
          · exact (R9.out.low ((Below.refl g w9).setCell (p := ⟨g, j, none⟩) (Nat.le_refl _) _) (by have := HRlt.out; have := HG.out; omega)).mono (by omega)
          · exact T9.out.trans' (Below.setCell (Below.refl _ _) (p := ⟨g, j, none⟩) HG.out _)
        · have b6 : (v6 == 0) = false ∨ (v6 == 0) = true ∧ ¬ (0 : Int) < (k : Int) := by
            by_cases h7 : v6 = 0
            · right
              exact ⟨by simp [h7], by intro h8; exact h6 ⟨h7, by omega⟩⟩
            · left
              simp [h7]
          clear h6
          rcases b6 with b6 | ⟨b6, b7⟩
          all_goals (try (exfalso; omega))
          all_goals
            go_wp2_with (at_builtin; refine append_int rfl (.tmp 53) (.tmp 54) rfl w.heap.size _ _ rfl (O6.out.alloc _) w6.heap.size 0 rfl (by simp) (by have := HXP.out; omega) (by simp only [World.size_alloc]; omega) ?_; intro v' wz hown hbz; have OZ := Lib.hid hown; have BZ := Lib.hid hbz; clear hown hbz)
            go_ret
            obtain ⟨A, c, rfl, hrow⟩ := OZ.out.rows (by rw [List.length_append]; have := HXP.out; simp only [List.length_cons, List.length_nil]; omega)
            exact ⟨A, c, _, rfl, by rw [List.length_append]; have := HXP.out; simp only [List.length_cons, List.length_nil]; omega, hrow, ((R6.out.low ((Below.refl _ _).alloc (Nat.le_refl _) _) R6.out.lt).low BZ.out HRlt.out).mono (by omega), (T6.out.alloc _).trans' BZ.out⟩
        
end Go.Proofs.Ytkoaaagmcjjimaa
