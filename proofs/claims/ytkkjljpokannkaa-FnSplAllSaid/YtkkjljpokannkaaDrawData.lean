/- Data drawn: l20Data, l20Meet. -/
import Derived.Test.YtkkjljpokannkaaDrawAsk
import Derived.Test.YtkkjljpokannkaaOwn0
import Derived.Test.YtkkjljpokannkaaExp
namespace Go.Proofs.Ytkkjljpokannkaa
open Go.RowKit

theorem OwnV.later' {w w' : World} {base : Nat} {v : Value} {xs : List Int} (h : OwnV w base v xs) {R : Nat} (ht : Turned R w w') (hR : R < base) : OwnV w' base v xs := h.kept (Kept.of_turned ht hR)

theorem rows_drop1 {m : Option Nat} {w : World} {B g : Nat} {xs : List Int} (h : Rows intC m w B (some ⟨g, 0, none⟩) xs) : Rows intC m w B (some ⟨g, 1, none⟩) (xs.drop 1) :=
  ⟨by rw [List.length_drop]; have := h.1; omega, fun hl => by
    rw [List.length_drop] at hl
    obtain ⟨b, off, hA, hb, hc⟩ := h.2 (by omega)
    simp only [Option.some.injEq, Addr.mk.injEq, and_true] at hA
    obtain ⟨rfl, rfl⟩ := hA
    refine ⟨g, 1, rfl, hb, fun j x hx => ?_⟩
    rw [List.getElem?_drop] at hx
    obtain ⟨cs, hR, hcs⟩ := hc (1 + j) x hx
    refine ⟨cs, hR, fun i u hu => ?_⟩
    have h2 := hcs i u hu
    have e : 0 + (1 + j) * intC.k + i = 1 + j * intC.k + i := by
      show 0 + (1 + j) * 1 + i = 1 + j * 1 + i
      omega
    rwa [e] at h2⟩

/-- What drawing data leaves: two to four numbers, in memory of the call's own. -/
def DrawnD (R Q : Nat) (w : World) (e : Ending) (w' : World) : Prop :=
  ∃ A c xs, e = .returned (.slice A (List.length (α := Int) xs) c) ∧ 2 ≤ xs.length ∧ xs.length ≤ 4 ∧ Rows intC (some w.heap.size) w' w'.heap.size A xs ∧ RdB w' R Q ∧ Turned R w w'

set_option maxRecDepth 100000 in
set_option maxHeartbeats 4000000 in
theorem l20Data (R P : Nat) (n : Int) (w : World) (h : RdB w R P) (hP : P ≤ 900000) (hn : n ≤ 4611686018427387904) :
    Calls Try.prog 117 #[.pointer (some ⟨R, 0, none⟩), .int .i64 n] w (DrawnD R (P + 20) w) := by
  have HR := Lib.hid h
  have HRlt := Lib.hid h.lt
  clear h
  go_enter Try.func117, Try.ntmps117
  go_wp2
  generalize hW : w.alloc _ = W
  have W0 : Hid (Turned R w W) := by show Turned _ _ _; rw [← hW]; exact Turned.of_below ((Below.refl _ _).alloc (Nat.le_refl _) _)
  have R0 : Hid (RdB W R P) := by show RdB _ _ _; rw [← hW]; exact HR.out.low ((Below.refl _ _).alloc (Nat.le_refl _) _) HRlt.out
  have O0 : Hid (OwnV W w.heap.size (.slice (some ⟨w.heap.size, 0, none⟩) 0 0) []) := by
    show OwnV _ _ _ _
    rw [← hW]
    exact World.ownsRow_made w #[] 0 (Nat.le_refl _) (by simp [maxLen]) rfl
  clear hW
  go_loopg [5, 6] 3 (fun gg s5 s6 wr => ∃ (k : Nat) (xs : List Int), k ≤ 3 ∧ 3 - k ≤ gg ∧ s6 = .int .i64 k ∧ xs.length = k ∧ Aside (OwnV wr w.heap.size s5 xs) ∧ Aside (Turned R w wr) ∧ Aside (RdB wr R (P + 2 * k)))
  case atStart => exact ⟨0, [], by omega, by omega, rfl, rfl, O0.out, W0.out, R0.out⟩
  case round =>
    obtain ⟨k, xs, hk, hg, rfl, hxl, OW, TW, RW⟩ := hrel
    have HXL := Lib.hid hxl
    clear hxl
    by_cases hlt : k < 3
    · have hltz : (k : Int) < 3 := by omega
      go_wp2_with fail
      refine (l20Rd_pick R _ 9 _ RW.out (by omega) (by omega)).mono ?_
      rintro e w1 ⟨v1, rfl, _, _, _, hr1, ht1⟩
      have O1 := Lib.hid (OW.out.later' ht1 HRlt.out)
      have T1 := Lib.hid (TW.out.trans ht1)
      have R1 := Lib.hid hr1
      clear hr1 ht1
      go_wp2_with fail
      refine callsAt fun W2 hW2 => ?_
      have bL : Bk W2 w1.heap.size 3 (iv [0, 1, -1, 5, 99, -99, v1]).toArray := by rw [hW2]; exact Bk.new rfl
      have hB2 : Below w1.heap.size w1 W2 := by rw [hW2]; exact (Below.refl _ _).alloc (Nat.le_refl _) _
      clear hW2
      refine (l20Rd_pick R _ 7 _ (R1.out.low hB2 R1.out.lt) (by omega) (by omega)).mono ?_
      rintro e w3 ⟨v3, rfl, hv30, hv31, _, hr3, ht3⟩
      obtain ⟨k3, rfl⟩ := Int.eq_ofNat_of_zero_le hv30
      have hk3 : (k3 : Int) < 7 := by omega
      obtain ⟨z3, hz3⟩ := lit_at (bL.turned ht3 (by have := R1.out.lt; omega)) (k := k3) (by simp; omega)
      have O3 := Lib.hid ((O1.out.later hB2).later' ht3 HRlt.out)
      have T3 := Lib.hid ((T1.out.then hB2).trans ht3)
      have R3 := Lib.hid hr3
      have hs3 := T3.out.size
      clear bL hB2 hr3 ht3 hv31
      go_wp2_with (at_builtin; refine append_int rfl (.tmp 12) (.tmp 20) rfl w.heap.size _ _ rfl (O3.out.alloc _) w3.heap.size z3 rfl (by simp) (by have := HXL.out; omega) (by simp only [World.size_alloc]; omega) ?_; intro v' w4 hown hb4; have O4 := Lib.hid hown; have B4 := Lib.hid hb4; clear hown hb4)
      go_roundg (3 - (k + 1))
      case measure => omega
      case rel => exact ⟨k + 1, xs ++ [z3], by omega, by omega, by go_num, by simp [HXL.out], O4.out, (T3.out.alloc _).trans' (B4.out), by show RdB _ _ _; exact ((R3.out.low ((Below.refl _ _).alloc (Nat.le_refl _) _) R3.out.lt).low B4.out HRlt.out).mono (by omega)⟩
    · have hltz : ¬ (k : Int) < 3 := by omega
      have hk3 : k = 3 := by omega
      subst hk3
      have O3 := Lib.hid OW.out
      have hs0 := TW.out.size
      go_wp2_with fail
      refine (l20Rd_pick R _ n _ RW.out (by omega) hn).mono ?_
      rintro e w4 ⟨v4, rfl, _, _, _, hr4, ht4⟩
      have O4 := Lib.hid (O3.out.later' ht4 HRlt.out)
      have T4 := Lib.hid (TW.out.trans ht4)
      have R4 := Lib.hid hr4
      have hs4 := T4.out.size
      clear hr4 ht4 O3 OW TW RW
      by_cases h4 : v4 = 0
      · subst h4
        go_wp2_with fail
        refine (l20Rd_pick R _ 3 _ R4.out (by omega) (by omega)).mono ?_
        rintro e w5 ⟨v5, rfl, hv50, hv51, _, hr5, ht5⟩
        have O5 := Lib.hid (O4.out.later' ht5 HRlt.out)
        have T5 := Lib.hid (T4.out.trans ht5)
        have R5 := Lib.hid hr5
        have hs5 := T5.out.size
        have hxl := HXL.out
        clear hr5 ht5 O4 T4 R4
        rcases (by omega : v5 = 0 ∨ v5 = 1 ∨ v5 = 2) with rfl | rfl | rfl
        · go_wp2_with fail
          refine (l20Rd_pick R _ 3 _ R5.out (by omega) (by omega)).mono ?_
          rintro e w6 ⟨v6, rfl, hv60, hv61, _, hr6, ht6⟩
          obtain ⟨j, rfl⟩ := Int.eq_ofNat_of_zero_le hv60
          have hj3 : (j : Int) < 3 := by omega
          have O6 := Lib.hid (O5.out.later' ht6 HRlt.out)
          have T6 := Lib.hid (T5.out.trans ht6)
          have R6 := Lib.hid hr6
          clear hr6 ht6 hv61 O5 T5 R5
          go_wp2_with fail
          refine callsAt fun W7 hW7 => ?_
          have bL : Bk W7 w6.heap.size 3 (iv [100, -100, 9223372036854775807, -9223372036854775808]).toArray := by rw [hW7]; exact Bk.new rfl
          have hB7 : Below w6.heap.size w6 W7 := by rw [hW7]; exact (Below.refl _ _).alloc (Nat.le_refl _) _
          clear hW7
          refine (l20Rd_pick R _ 4 _ (R6.out.low hB7 R6.out.lt) (by omega) (by omega)).mono ?_
          rintro e w8 ⟨v8, rfl, hv80, hv81, _, hr8, ht8⟩
          obtain ⟨k8, rfl⟩ := Int.eq_ofNat_of_zero_le hv80
          have hk8 : (k8 : Int) < 4 := by omega
          obtain ⟨z8, hz8⟩ := lit_at (bL.turned ht8 (by have := R6.out.lt; omega)) (k := k8) (by simp; omega)
          have T8 := Lib.hid ((T6.out.then hB7).trans ht8)
          have R8 := Lib.hid hr8
          obtain ⟨A, c, rfl, hcap, hA⟩ := ((O6.out.later hB7).later' ht8 HRlt.out).form'
          obtain ⟨g, rfl, hgb, hWr⟩ := hA (by omega)
          have hjl : j < xs.length := by omega
          have hjz : (j : Int) < (xs.length : Int) := by omega
          obtain ⟨y0, hy0⟩ : ∃ y0 : Int, w8.cell? ⟨g, j, none⟩ = some (.int .i64 y0) := ⟨xs[j], hWr.cell (iv_get (List.getElem?_eq_getElem hjl))⟩
          have hfr := hWr.frozen j
          have HS := Lib.hid (hWr.set j (.int .i64 z8))
          have HG := Lib.hid hgb
          have HXL' := Lib.hid hxl
          clear bL hB7 hr8 ht8 hv81 hWr hcap hgb hxl
          go_wp2
          go_ret
          refine ⟨some ⟨g, 0, none⟩, c, xs.set j z8, by rw [List.length_set]; rfl, by rw [List.length_set]; have := HXL'.out; omega, by rw [List.length_set]; have := HXL'.out; omega, ?_, ?_, ?_⟩
          · have h1 := HS.out
            rw [iv_put] at h1
            exact h1.rows (by rw [List.length_set]; have := HXL'.out; omega) HG.out h1.lt
          · exact (R8.out.low ((Below.refl g w8).setCell (p := ⟨g, j, none⟩) (Nat.le_refl _) _) (by have := HRlt.out; have := HG.out; omega)).mono (by omega)
          · exact T8.out.trans' (Below.setCell (Below.refl _ _) (p := ⟨g, j, none⟩) HG.out _)
        · obtain ⟨A, c, rfl, hcap, hA⟩ := O5.out.form'
          obtain ⟨g, rfl, hgb, hWr⟩ := hA (by omega)
          have h1z : (1 : Int) ≤ (xs.length : Int) := by omega
          have h1c : (xs.length : Int) ≤ (c : Int) := by omega
          have h1d : (1 : Int) ≤ (c : Int) := by omega
          have HROW : Hid (Rows intC (some w.heap.size) w5 w5.heap.size (some ⟨g, 0, none⟩) xs) := hWr.rows (by omega) hgb hWr.lt
          have HXL' := Lib.hid hxl
          have hc1 : ¬ c = 1 := by omega
          clear hWr hcap hgb hxl
          go_wp2
          all_goals go_ret
          all_goals exact ⟨some ⟨g, 1, none⟩, c - 1, xs.drop 1, by rw [List.length_drop]; rfl, by rw [List.length_drop]; have := HXL'.out; omega, by rw [List.length_drop]; have := HXL'.out; omega, (rows_drop1 HROW.out), R5.out.mono (by omega), T5.out⟩
        · have HXL' := Lib.hid hxl
          clear hxl
          go_wp2_with (at_builtin; refine append_int rfl (.tmp 28) (.tmp 29) rfl w.heap.size _ _ rfl (O5.out.alloc _) w5.heap.size 0 rfl (by simp) (by have := HXL'.out; omega) (by simp only [World.size_alloc]; omega) ?_; intro v' w6 hown hb6; have O6 := Lib.hid hown; have B6 := Lib.hid hb6; clear hown hb6)
          go_ret
          obtain ⟨A, c, rfl, hrow⟩ := O6.out.rows (by rw [List.length_append]; have := HXL'.out; simp only [List.length_cons, List.length_nil]; omega)
          exact ⟨A, c, xs ++ [0], rfl, by rw [List.length_append]; have := HXL'.out; omega, by rw [List.length_append]; have := HXL'.out; simp only [List.length_cons, List.length_nil]; omega, hrow, ((R5.out.low ((Below.refl _ _).alloc (Nat.le_refl _) _) R5.out.lt).low B6.out HRlt.out).mono (by omega), (T5.out.alloc _).trans' B6.out⟩
      · have b4 : (v4 == 0) = false := by simp [h4]
        have hxl := HXL.out
        go_wp2
        go_ret
        obtain ⟨A, c, rfl, hrow⟩ := O4.out.rows (by omega)
        exact ⟨A, c, xs, rfl, by omega, by omega, hrow, R4.out.mono (by omega), T4.out⟩

/-- What turning data so that a question holds leaves. -/
def MeetD (w : World) (e : Ending) (w' : World) : Prop :=
  ∃ A c xs B, e = .returned (.slice A (List.length (α := Int) xs) c) ∧ xs.length ≤ 1048576 ∧ Rows intC (some B) w' w'.heap.size A xs ∧ Below w.heap.size w w'

set_option maxRecDepth 100000 in
set_option maxHeartbeats 2000000 in
theorem spec_DatSet (A : Option Addr) (c : Nat) (xs : List Int) (k z : Int) (w : World) (hx : Ints w w.heap.size A xs) (hl : xs.length ≤ 1048576) :
    Calls Try.prog 238 #[.slice A xs.length c, .int .i64 k, .int .i64 z] w fun e w' => ∃ v ys, e = .returned v ∧ OwnV w' w.heap.size v ys ∧ ys.length = xs.length ∧ Below w.heap.size w w' := by
  have HX := Lib.hid hx
  clear hx
  have HX1 : Hid (Ints (w.alloc (.cells #[] 3)) w.heap.size A xs) := HX.out.below ((Below.refl _ _).alloc (Nat.le_refl _) _)
  cases q1 : datOk xs with
  | false =>
    go_enter Try.func238, Try.ntmps238
    go_wp2_with (first | (go_at_call 40; refine (spec_DatOk _ _ _ _ _ HX.out).mono ?_; rintro e w' ⟨rfl, rfl⟩) | (at_builtin; refine append_intsA rfl (.tmp 21) (.tmp 22) rfl w.heap.size _ [] rfl (OwnV.made' (Nat.le_refl _)) A c _ xs rfl HX1.out (by rw [List.length_nil]; omega) (by simp) ?_; intro v' w2 hown2 hg2 hb2; rw [List.nil_append] at hown2; have HO2 := Lib.hid hown2; have HB2 := Lib.hid (((Below.refl w.heap.size w).alloc (Nat.le_refl _) (.cells #[] 3)).trans hb2); clear hown2 hg2 hb2))
    go_ret
    exact ⟨_, xs, rfl, HO2.out, rfl, HB2.out⟩
  | true =>
    cases q2 : inB k 0 2 with
    | false =>
      go_enter Try.func238, Try.ntmps238
      go_wp2_with (first | (go_at_call 40; refine (spec_DatOk _ _ _ _ _ HX.out).mono ?_; rintro e w' ⟨rfl, rfl⟩) | (go_at_call 103; refine (l1In _ _ _ _).mono ?_; rintro e w' ⟨rfl, rfl⟩) | (at_builtin; refine append_intsA rfl (.tmp 21) (.tmp 22) rfl w.heap.size _ [] rfl (OwnV.made' (Nat.le_refl _)) A c _ xs rfl HX1.out (by rw [List.length_nil]; omega) (by simp) ?_; intro v' w2 hown2 hg2 hb2; rw [List.nil_append] at hown2; have HO2 := Lib.hid hown2; have HB2 := Lib.hid (((Below.refl w.heap.size w).alloc (Nat.le_refl _) (.cells #[] 3)).trans hb2); clear hown2 hg2 hb2))
      go_ret
      exact ⟨_, xs, rfl, HO2.out, rfl, HB2.out⟩
    | true =>
      cases q3 : inB z (-99) 99 with
      | false =>
        go_enter Try.func238, Try.ntmps238
        go_wp2_with (first | (go_at_call 40; refine (spec_DatOk _ _ _ _ _ HX.out).mono ?_; rintro e w' ⟨rfl, rfl⟩) | (go_at_call 103; refine (l1In _ _ _ _).mono ?_; rintro e w' ⟨rfl, rfl⟩) | (at_builtin; refine append_intsA rfl (.tmp 21) (.tmp 22) rfl w.heap.size _ [] rfl (OwnV.made' (Nat.le_refl _)) A c _ xs rfl HX1.out (by rw [List.length_nil]; omega) (by simp) ?_; intro v' w2 hown2 hg2 hb2; rw [List.nil_append] at hown2; have HO2 := Lib.hid hown2; have HB2 := Lib.hid (((Below.refl w.heap.size w).alloc (Nat.le_refl _) (.cells #[] 3)).trans hb2); clear hown2 hg2 hb2))
        go_ret
        exact ⟨_, xs, rfl, HO2.out, rfl, HB2.out⟩
      | true =>
        have hk := inB_iff.1 q2
        obtain ⟨j, rfl⟩ := Int.eq_ofNat_of_zero_le hk.1
        have hl3 := Lib.hid (datOk_len q1)
        have hjl : j < xs.length := by have := hl3.out; omega
        have hjz : (j : Int) < (xs.length : Int) := by omega
        go_enter Try.func238, Try.ntmps238
        go_upto_region 4 with (first | (go_at_call 40; refine (spec_DatOk _ _ _ _ _ HX.out).mono ?_; rintro e w' ⟨rfl, rfl⟩) | (go_at_call 103; refine (l1In _ _ _ _).mono ?_; rintro e w' ⟨rfl, rfl⟩) | (at_builtin; refine append_intsA rfl (.tmp 24) (.tmp 25) rfl w.heap.size _ [] rfl (OwnV.made' (Nat.le_refl _)) A c _ xs rfl HX1.out (by rw [List.length_nil]; omega) (by simp) ?_; intro v' w2 hown2 hg2 hb2; rw [List.nil_append] at hown2; have HO2 := Lib.hid hown2; have HB2 := Lib.hid (((Below.refl w.heap.size w).alloc (Nat.le_refl _) (.cells #[] 3)).trans hb2); clear hown2 hg2 hb2))
        obtain ⟨A', c', rfl, hA⟩ := HO2.out.form
        obtain ⟨g, rfl, hgb, hw⟩ := hA (by omega)
        obtain ⟨y0, hy0⟩ : ∃ y0 : Int, w2.cell? ⟨g, j, none⟩ = some (.int .i64 y0) := ⟨xs[j], hw.cell (iv_get (List.getElem?_eq_getElem hjl))⟩
        have hfr := hw.frozen j
        have HS : Hid (OwnV (w2.setCell ⟨g, j, none⟩ (.int .i64 z)) w.heap.size (.slice (some ⟨g, 0, none⟩) xs.length c') (xs.set j z)) := by
          show OwnV _ _ _ _
          unfold OwnV
          rw [List.length_set, ← iv_put]
          exact (World.ownsRow.stored HO2.out j (.int .i64 z)).1
        have HB3 := Lib.hid (HB2.out.setCell (p := ⟨g, j, none⟩) hgb (.int .i64 z))
        clear hw hgb hA
        go_wp2
        go_ret
        exact ⟨_, xs.set j z, rfl, HS.out, by simp, HB3.out⟩
end Go.Proofs.Ytkkjljpokannkaa
