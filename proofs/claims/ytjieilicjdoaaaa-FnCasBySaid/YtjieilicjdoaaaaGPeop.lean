/- People drawn: l20People. -/
import Derived.Test.YtjieilicjdoaaaaGCopy
import Derived.Test.YtjieilicjdoaaaaDrawAsk
import Derived.Test.YtjieilicjdoaaaaGBase
import Derived.Test.YtjieilicjdoaaaaGFir
namespace Go.Proofs.Ytjieilicjdoaaaa
open Go.RowKit

set_option maxHeartbeats 2000000 in
theorem l20People (R P : Nat) (n : Int) (w : World) (h : RdB w R P) (hP : P ≤ 900000) (hn : n ≤ 4611686018427387904) :
  Calls Try.prog 59 #[.pointer (some ⟨R, 0, none⟩), .int .i64 n] w (DrawnI R (P + 20) 5 w) := by
 have HR := Lib.hid h
 have HRlt := Lib.hid h.lt
 clear h
 go_enter Try.func59, Try.ntmps59
 go_wp2_with fail
 refine callsAt fun W hW => ?_
 have bs : ∀ v : Nat, v < 5 → ∃ (ys : List Int), 1 ≤ ys.length ∧ ys.length ≤ 4 ∧ Bk W (w.heap.size + v) 3 (iv ys).toArray ∧ W.cell? ⟨w.heap.size + 5, v, none⟩ = some (.slice (some ⟨w.heap.size + v, 0, none⟩) ys.length ys.length) := by
  intro v hv
  rcases (by omega : v = 0 ∨ v = 1 ∨ v = 2 ∨ v = 3 ∨ v = 4) with rfl | rfl | rfl | rfl | rfl
  ·
   exact ⟨[7], by decide, by decide, by rw [hW]; (repeat (first | exact Bk.new (by simp) | refine Bk.alloc ?_ _)), by rw [hW, Bk.cell (Bk.new (by simp))]; rfl⟩
  ·
   exact ⟨[7, 7], by decide, by decide, by rw [hW]; (repeat (first | exact Bk.new (by simp) | refine Bk.alloc ?_ _)), by rw [hW, Bk.cell (Bk.new (by simp))]; rfl⟩
  ·
   exact ⟨[1, 2, 4], by decide, by decide, by rw [hW]; (repeat (first | exact Bk.new (by simp) | refine Bk.alloc ?_ _)), by rw [hW, Bk.cell (Bk.new (by simp))]; rfl⟩
  ·
   exact ⟨[3, 5, 6, 7], by decide, by decide, by rw [hW]; (repeat (first | exact Bk.new (by simp) | refine Bk.alloc ?_ _)), by rw [hW, Bk.cell (Bk.new (by simp))]; rfl⟩
  ·
   exact ⟨[7, 3, 4], by decide, by decide, by rw [hW]; (repeat (first | exact Bk.new (by simp) | refine Bk.alloc ?_ _)), by rw [hW, Bk.cell (Bk.new (by simp))]; rfl⟩
 have hBW : Below w.heap.size w W := by rw [hW]; go_grown
 have hs6 : W.heap.size = w.heap.size + 6 := by rw [hW]; simp
 clear hW
 refine (l20Rd_pick R P 5 _ (HR.out.low hBW HRlt.out) (by omega) (by omega)).mono ?_
 rintro e w1 ⟨v, rfl, hv0, hv1, _, hr1, ht1⟩
 obtain ⟨k, rfl⟩ := Int.eq_ofNat_of_zero_le hv0
 obtain ⟨ys, hy1, hy4, hy, hcell⟩ := bs k (by omega)
 have hcell1 := (World.cell?_of_block (w' := w1) (ht1.block (w.heap.size + 5) (by omega) (by have := HRlt.out; omega))).trans hcell
 have Y1 := Lib.hid (hy.turned ht1 (by have := HRlt.out; omega))
 have T1 := Lib.hid ((Turned.of_below hBW).trans ht1)
 have R1 := Lib.hid hr1
 have hs1 := T1.out.size
 clear hy hcell hr1 ht1 bs hBW
 have hk5 : (k : Int) < 5 := by omega
 have hysl : (ys.length : Int) ≤ 4 := by omega
 go_wp2_with (at_builtin; refine append_ints rfl (.tmp 16) (.tmp 17) rfl w.heap.size _ [] rfl (OwnV.made hs1 0 #[] (by decide) rfl) (w.heap.size + k) _ ys rfl (fun j y hj => by rw [(Y1.out.alloc _).cell]; simpa using iv_get hj) (by simp; omega) (by simp; omega) ?_; intro v' w2 hown hg2 hb2; have O2 := Lib.hid hown; have G2 := Lib.hid hg2; have B2 := Lib.hid hb2; clear hown hg2 hb2)
 have T2 := Lib.hid ((T1.out.alloc (.cells #[] 3)).grown G2.out fun g hg => by change some w1.heap.size = some g at hg; cases hg; exact hs1)
 have R2 := Lib.hid ((R1.out.low ((Below.refl _ _).alloc (Nat.le_refl _) _) R1.out.lt).low B2.out HRlt.out)
 rw [List.nil_append] at O2
 have hs2 := T2.out.size
 clear G2 B2
 refine (l20Rd_pick R _ n _ R2.out (by omega) hn).mono ?_
 rintro e w3 ⟨v3, rfl, hv30, hv31, _, hr3, ht3⟩
 have O3 := Lib.hid (O2.out.kept (Kept.of_turned ht3 HRlt.out))
 have T3 := Lib.hid (T2.out.trans ht3)
 have R3 := Lib.hid hr3
 have hs3 := T3.out.size
 clear hr3 ht3
 by_cases h3 : v3 = 0
 ·
  subst h3
  go_wp2_with fail
  refine (l20Rd_pick R _ 3 _ R3.out (by omega) (by omega)).mono ?_
  rintro e w4 ⟨v4, rfl, hv40, hv41, _, hr4, ht4⟩
  have O4 := Lib.hid (O3.out.kept (Kept.of_turned ht4 HRlt.out))
  have T4 := Lib.hid (T3.out.trans ht4)
  have R4 := Lib.hid hr4
  have hs4 := T4.out.size
  clear hr4 ht4
  by_cases h40 : v4 = 0
  ·
   subst h40
   go_wp2
   go_ret
   exact ⟨_, _, [], rfl, by simp, by simp, fun h => absurd h (by simp), R4.out.low ((Below.refl _ _).alloc (Nat.le_refl _) _) R4.out.lt |>.mono (by omega), T4.out.alloc _⟩
  ·
   have b40 : (v4 == 0) = false := by simp [h40]
   by_cases h41 : v4 = 1
   ·
    subst h41
    go_wp2_with fail
    refine callsAt fun W5 hW5 => ?_
    have b5 : Bk W5 w4.heap.size 3 #[.int .i64 (-1), .int .i64 8, .int .i64 0] := by rw [hW5]; exact Bk.new rfl
    have hB5 : Below w4.heap.size w4 W5 := by rw [hW5]; exact (Below.refl _ _).alloc (Nat.le_refl _) _
    clear hW5
    refine (l20Rd_pick R _ 3 _ (R4.out.low hB5 R4.out.lt) (by omega) (by omega)).mono ?_
    rintro e w6 ⟨v6, rfl, hv60, hv61, _, hr6, ht6⟩
    obtain ⟨A, c, rfl, hcap, hA⟩ := ((O4.out.later hB5).kept (Kept.of_turned ht6 HRlt.out)).form'
    obtain ⟨g, rfl, hgb, hW⟩ := hA (by omega)
    have b6 := b5.turned ht6 (by have := HRlt.out; omega)
    obtain ⟨j, rfl⟩ := Int.eq_ofNat_of_zero_le hv60
    have hj : (j : Int) < 3 := by omega
    obtain ⟨z, hz⟩ : ∃ z : Int, w6.cell? ⟨w4.heap.size, j, none⟩ = some (.int .i64 z) := by
     rw [b6.cell]
     rcases (by omega : j = 0 ∨ j = 1 ∨ j = 2) with rfl | rfl | rfl
     ·
      exact ⟨_, rfl⟩
     ·
      exact ⟨_, rfl⟩
     ·
      exact ⟨_, rfl⟩
    obtain ⟨y0, hy0⟩ : ∃ y0 : Int, w6.cell? ⟨g, 0, none⟩ = some (.int .i64 y0) := ⟨ys[0], hW.cell (iv_get (List.getElem?_eq_getElem (by omega)))⟩
    have hfr := hW.frozen 0
    have HS := Lib.hid (hW.set 0 (.int .i64 z))
    have T6 := Lib.hid ((T4.out.then hB5).trans ht6)
    have R6 := Lib.hid hr6
    have hlen : (0 : Int) < (ys.length : Int) := by omega
    have HG := Lib.hid hgb
    clear hW b5 b6 hr6 ht6 hB5
    go_wp2
    go_ret
    refine ⟨_, c, ys.set 0 z, by rw [List.length_set]; rfl, by rw [List.length_set]; omega, by rw [List.length_set]; exact hcap, fun _ => ⟨g, rfl, HG.out, ?_⟩, ?_, ?_⟩
    ·
     rw [← iv_put]; exact HS.out
    ·
     exact (R6.out.low ((Below.refl g w6).setCell (p := ⟨g, 0, none⟩) (Nat.le_refl _) _) (by have := HRlt.out; have := HG.out; omega)).mono (by omega)
    ·
     exact T6.out.trans' (Below.setCell (Below.refl _ _) (p := ⟨g, 0, none⟩) HG.out _)
   ·
    have b41 : (v4 == 1) = false := by simp [h41]
    go_wp2
    go_ret
    exact ⟨_, _, [1, 1, 1, 1, 1], rfl, by simp, by simp, fun _ => ⟨_, rfl, hs4, by exact Wr.new _ _ _⟩, R4.out.low ((Below.refl _ _).alloc (Nat.le_refl _) _) R4.out.lt |>.mono (by omega), T4.out.alloc _⟩
 ·
  have b3 : (v3 == 0) = false := by simp [h3]
  go_wp2
  go_ret
  obtain ⟨A, c, rfl, hcap, hA⟩ := O3.out.form'
  exact ⟨A, c, ys, rfl, by omega, hcap, hA, R3.out.mono (by omega), T3.out⟩

end Go.Proofs.Ytjieilicjdoaaaa

/- Data drawn: l20Data, l20Meet. -/
namespace Go.Proofs.Ytjieilicjdoaaaa
open Go.RowKit

theorem OwnV.later' {w w' : World} {base : Nat} {v : Value} {xs : List Int} (h : OwnV w base v xs) {R : Nat} (ht : Turned R w w') (hR : R < base) : OwnV w' base v xs := h.kept (Kept.of_turned ht hR)

theorem rows_drop1 {m : Option Nat} {w : World} {B g : Nat} {xs : List Int} (h : Rows intC m w B (some ⟨g, 0, none⟩) xs) : Rows intC m w B (some ⟨g, 1, none⟩) (xs.drop 1) :=
 ⟨by rw [List.length_drop]; have := h.1; omega, fun hl => by
  rw [List.length_drop] at hl
  obtain ⟨b, off, hA, hb, hc⟩ := h.2 (by omega)
  simp only [Option.some.injEq, Addr.mk.injEq, and_true] at hA
  obtain ⟨rfl, rfl⟩ := hA
  refine ⟨g, 1, rfl, hb, fun j x hx => ?_⟩
  rw [List.getElem?_drop] at hx
  obtain ⟨cs, hR, hcs⟩ := hc (1 + j) x hx
  refine ⟨cs, hR, fun i u hu => ?_⟩
  have h2 := hcs i u hu
  have e : 0 + (1 + j) * intC.k + i = 1 + j * intC.k + i := by
   show 0 + (1 + j) * 1 + i = 1 + j * 1 + i
   omega
  rwa [e] at h2⟩

/-- What drawing data leaves: two to four numbers, in memory of the call's own. -/
def DrawnD (R Q : Nat) (w : World) (e : Ending) (w' : World) : Prop :=
 ∃ A c xs, e = .returned (.slice A (List.length (α := Int) xs) c) ∧ 2 ≤ xs.length ∧ xs.length ≤ 4 ∧ Rows intC (some w.heap.size) w' w'.heap.size A xs ∧ RdB w' R Q ∧ Turned R w w'

set_option maxRecDepth 100000 in
set_option maxHeartbeats 4000000 in
theorem l20Data (R P : Nat) (n : Int) (w : World) (h : RdB w R P) (hP : P ≤ 900000) (hn : n ≤ 4611686018427387904) :
  Calls Try.prog 61 #[.pointer (some ⟨R, 0, none⟩), .int .i64 n] w (DrawnD R (P + 20) w) := by
 have HR := Lib.hid h
 have HRlt := Lib.hid h.lt
 clear h
 go_enter Try.func61, Try.ntmps61
 go_wp2
 generalize hW : w.alloc _ = W
 have W0 : Hid (Turned R w W) := by show Turned _ _ _; rw [← hW]; exact Turned.of_below ((Below.refl _ _).alloc (Nat.le_refl _) _)
 have R0 : Hid (RdB W R P) := by show RdB _ _ _; rw [← hW]; exact HR.out.low ((Below.refl _ _).alloc (Nat.le_refl _) _) HRlt.out
 have O0 : Hid (OwnV W w.heap.size (.slice (some ⟨w.heap.size, 0, none⟩) 0 0) []) := by
  show OwnV _ _ _ _
  rw [← hW]
  exact World.ownsRow_made w #[] 0 (Nat.le_refl _) (by simp [maxLen]) rfl
 clear hW
 go_loopg [5, 6] 3 (fun gg s5 s6 wr => ∃ (k : Nat) (xs : List Int), k ≤ 3 ∧ 3 - k ≤ gg ∧ s6 = .int .i64 k ∧ xs.length = k ∧ Aside (OwnV wr w.heap.size s5 xs) ∧ Aside (Turned R w wr) ∧ Aside (RdB wr R (P + 2 * k)))
 case atStart => exact ⟨0, [], by omega, by omega, rfl, rfl, O0.out, W0.out, R0.out⟩
 case round =>
  obtain ⟨k, xs, hk, hg, rfl, hxl, OW, TW, RW⟩ := hrel
  have HXL := Lib.hid hxl
  clear hxl
  by_cases hlt : k < 3
  ·
   have hltz : (k : Int) < 3 := by omega
   go_wp2_with fail
   refine (l20Rd_pick R _ 9 _ RW.out (by omega) (by omega)).mono ?_
   rintro e w1 ⟨v1, rfl, _, _, _, hr1, ht1⟩
   have O1 := Lib.hid (OW.out.later' ht1 HRlt.out)
   have T1 := Lib.hid (TW.out.trans ht1)
   have R1 := Lib.hid hr1
   clear hr1 ht1
   go_wp2_with fail
   refine callsAt fun W2 hW2 => ?_
   have bL : Bk W2 w1.heap.size 3 (iv [0, 1, -1, 5, 99, -99, v1]).toArray := by rw [hW2]; exact Bk.new rfl
   have hB2 : Below w1.heap.size w1 W2 := by rw [hW2]; exact (Below.refl _ _).alloc (Nat.le_refl _) _
   clear hW2
   refine (l20Rd_pick R _ 7 _ (R1.out.low hB2 R1.out.lt) (by omega) (by omega)).mono ?_
   rintro e w3 ⟨v3, rfl, hv30, hv31, _, hr3, ht3⟩
   obtain ⟨k3, rfl⟩ := Int.eq_ofNat_of_zero_le hv30
   have hk3 : (k3 : Int) < 7 := by omega
   obtain ⟨z3, hz3⟩ := lit_at (bL.turned ht3 (by have := R1.out.lt; omega)) (k := k3) (by simp; omega)
   have O3 := Lib.hid ((O1.out.later hB2).later' ht3 HRlt.out)
   have T3 := Lib.hid ((T1.out.then hB2).trans ht3)
   have R3 := Lib.hid hr3
   have hs3 := T3.out.size
   clear bL hB2 hr3 ht3 hv31
   go_wp2_with (at_builtin; refine append_int rfl (.tmp 12) (.tmp 20) rfl w.heap.size _ _ rfl (O3.out.alloc _) w3.heap.size z3 rfl (by simp) (by have := HXL.out; omega) (by simp only [World.size_alloc]; omega) ?_; intro v' w4 hown hb4; have O4 := Lib.hid hown; have B4 := Lib.hid hb4; clear hown hb4)
   go_roundg (3 - (k + 1))
   case measure => omega
   case rel => exact ⟨k + 1, xs ++ [z3], by omega, by omega, by go_num, by simp [HXL.out], O4.out, (T3.out.alloc _).trans' (B4.out), by show RdB _ _ _; exact ((R3.out.low ((Below.refl _ _).alloc (Nat.le_refl _) _) R3.out.lt).low B4.out HRlt.out).mono (by omega)⟩
  ·
   have hltz : ¬ (k : Int) < 3 := by omega
   have hk3 : k = 3 := by omega
   subst hk3
   have O3 := Lib.hid OW.out
   have hs0 := TW.out.size
   go_wp2_with fail
   refine (l20Rd_pick R _ n _ RW.out (by omega) hn).mono ?_
   rintro e w4 ⟨v4, rfl, _, _, _, hr4, ht4⟩
   have O4 := Lib.hid (O3.out.later' ht4 HRlt.out)
   have T4 := Lib.hid (TW.out.trans ht4)
   have R4 := Lib.hid hr4
   have hs4 := T4.out.size
   clear hr4 ht4 O3 OW TW RW
   by_cases h4 : v4 = 0
   ·
    subst h4
    go_wp2_with fail
    refine (l20Rd_pick R _ 3 _ R4.out (by omega) (by omega)).mono ?_
    rintro e w5 ⟨v5, rfl, hv50, hv51, _, hr5, ht5⟩
    have O5 := Lib.hid (O4.out.later' ht5 HRlt.out)
    have T5 := Lib.hid (T4.out.trans ht5)
    have R5 := Lib.hid hr5
    have hs5 := T5.out.size
    have hxl := HXL.out
    clear hr5 ht5 O4 T4 R4
    rcases (by omega : v5 = 0 ∨ v5 = 1 ∨ v5 = 2) with rfl | rfl | rfl
    ·
     go_wp2_with fail
     refine (l20Rd_pick R _ 3 _ R5.out (by omega) (by omega)).mono ?_
     rintro e w6 ⟨v6, rfl, hv60, hv61, _, hr6, ht6⟩
     obtain ⟨j, rfl⟩ := Int.eq_ofNat_of_zero_le hv60
     have hj3 : (j : Int) < 3 := by omega
     have O6 := Lib.hid (O5.out.later' ht6 HRlt.out)
     have T6 := Lib.hid (T5.out.trans ht6)
     have R6 := Lib.hid hr6
     clear hr6 ht6 hv61 O5 T5 R5
     go_wp2_with fail
     refine callsAt fun W7 hW7 => ?_
     have bL : Bk W7 w6.heap.size 3 (iv [100, -100, 9223372036854775807, -9223372036854775808]).toArray := by rw [hW7]; exact Bk.new rfl
     have hB7 : Below w6.heap.size w6 W7 := by rw [hW7]; exact (Below.refl _ _).alloc (Nat.le_refl _) _
     clear hW7
     refine (l20Rd_pick R _ 4 _ (R6.out.low hB7 R6.out.lt) (by omega) (by omega)).mono ?_
     rintro e w8 ⟨v8, rfl, hv80, hv81, _, hr8, ht8⟩
     obtain ⟨k8, rfl⟩ := Int.eq_ofNat_of_zero_le hv80
     have hk8 : (k8 : Int) < 4 := by omega
     obtain ⟨z8, hz8⟩ := lit_at (bL.turned ht8 (by have := R6.out.lt; omega)) (k := k8) (by simp; omega)
     have T8 := Lib.hid ((T6.out.then hB7).trans ht8)
     have R8 := Lib.hid hr8
     obtain ⟨A, c, rfl, hcap, hA⟩ := ((O6.out.later hB7).later' ht8 HRlt.out).form'
     obtain ⟨g, rfl, hgb, hWr⟩ := hA (by omega)
     have hjl : j < xs.length := by omega
     have hjz : (j : Int) < (xs.length : Int) := by omega
     obtain ⟨y0, hy0⟩ : ∃ y0 : Int, w8.cell? ⟨g, j, none⟩ = some (.int .i64 y0) := ⟨xs[j], hWr.cell (iv_get (List.getElem?_eq_getElem hjl))⟩
     have hfr := hWr.frozen j
     have HS := Lib.hid (hWr.set j (.int .i64 z8))
     have HG := Lib.hid hgb
     have HXL' := Lib.hid hxl
     clear bL hB7 hr8 ht8 hv81 hWr hcap hgb hxl
     go_wp2
     go_ret
     refine ⟨some ⟨g, 0, none⟩, c, xs.set j z8, by rw [List.length_set]; rfl, by rw [List.length_set]; have := HXL'.out; omega, by rw [List.length_set]; have := HXL'.out; omega, ?_, ?_, ?_⟩
     ·
      have h1 := HS.out
      rw [iv_put] at h1
      exact h1.rows (by rw [List.length_set]; have := HXL'.out; omega) HG.out h1.lt
     ·
      exact (R8.out.low ((Below.refl g w8).setCell (p := ⟨g, j, none⟩) (Nat.le_refl _) _) (by have := HRlt.out; have := HG.out; omega)).mono (by omega)
     ·
      exact T8.out.trans' (Below.setCell (Below.refl _ _) (p := ⟨g, j, none⟩) HG.out _)
    ·
     obtain ⟨A, c, rfl, hcap, hA⟩ := O5.out.form'
     obtain ⟨g, rfl, hgb, hWr⟩ := hA (by omega)
     have h1z : (1 : Int) ≤ (xs.length : Int) := by omega
     have h1c : (xs.length : Int) ≤ (c : Int) := by omega
     have h1d : (1 : Int) ≤ (c : Int) := by omega
     have HROW : Hid (Rows intC (some w.heap.size) w5 w5.heap.size (some ⟨g, 0, none⟩) xs) := hWr.rows (by omega) hgb hWr.lt
     have HXL' := Lib.hid hxl
     have hc1 : ¬ c = 1 := by omega
     clear hWr hcap hgb hxl
     go_wp2
     all_goals go_ret
     all_goals exact ⟨some ⟨g, 1, none⟩, c - 1, xs.drop 1, by rw [List.length_drop]; rfl, by rw [List.length_drop]; have := HXL'.out; omega, by rw [List.length_drop]; have := HXL'.out; omega, (rows_drop1 HROW.out), R5.out.mono (by omega), T5.out⟩
    ·
     have HXL' := Lib.hid hxl
     clear hxl
     go_wp2_with (at_builtin; refine append_int rfl (.tmp 28) (.tmp 29) rfl w.heap.size _ _ rfl (O5.out.alloc _) w5.heap.size 0 rfl (by simp) (by have := HXL'.out; omega) (by simp only [World.size_alloc]; omega) ?_; intro v' w6 hown hb6; have O6 := Lib.hid hown; have B6 := Lib.hid hb6; clear hown hb6)
     go_ret
     obtain ⟨A, c, rfl, hrow⟩ := O6.out.rows (by rw [List.length_append]; have := HXL'.out; simp only [List.length_cons, List.length_nil]; omega)
     exact ⟨A, c, xs ++ [0], rfl, by rw [List.length_append]; have := HXL'.out; omega, by rw [List.length_append]; have := HXL'.out; simp only [List.length_cons, List.length_nil]; omega, hrow, ((R5.out.low ((Below.refl _ _).alloc (Nat.le_refl _) _) R5.out.lt).low B6.out HRlt.out).mono (by omega), (T5.out.alloc _).trans' B6.out⟩
   ·
    have b4 : (v4 == 0) = false := by simp [h4]
    have hxl := HXL.out
    go_wp2
    go_ret
    obtain ⟨A, c, rfl, hrow⟩ := O4.out.rows (by omega)
    exact ⟨A, c, xs, rfl, by omega, by omega, hrow, R4.out.mono (by omega), T4.out⟩

end Go.Proofs.Ytjieilicjdoaaaa

/- Marks drawn: l20Marks. -/
namespace Go.Proofs.Ytjieilicjdoaaaa
open Go.RowKit
set_option linter.unusedSimpArgs false
set_option linter.unusedVariables false

/-- What drawing marks leaves. -/
def DrawnM (R Q : Nat) (w : World) (e : Ending) (w' : World) : Prop :=
 ∃ A c xs, e = .returned (.slice A (List.length (α := Int) xs) c) ∧ xs.length ≤ 11 ∧ Rows intC (some w.heap.size) w' w'.heap.size A xs ∧ RdB w' R Q ∧ Turned R w w'

theorem OwnV.put9 {w : World} {base g c : Nat} {xs : List Int} (h : OwnV w base (.slice (some ⟨g, 0, none⟩) xs.length c) xs) (j : Nat) (z : Int) : OwnV (w.setCell ⟨g, j, none⟩ (.int .i64 z)) base (.slice (some ⟨g, 0, none⟩) (xs.set j z).length c) (xs.set j z) := by
 unfold OwnV
 rw [List.length_set, ← iv_put]
 exact (World.ownsRow.stored h j (.int .i64 z)).1

set_option maxRecDepth 100000 in
set_option maxHeartbeats 4000000 in
theorem l20Marks (R P p : Nat) (n : Int) (w : World) (h : RdB w R P) (hP : P ≤ 800000) (hp : p ≤ 10) (hn : n ≤ 1000) :
  Calls Try.prog 64 #[.pointer (some ⟨R, 0, none⟩), .int .i64 p, .int .i64 n] w (DrawnM R (P + 40) w) := by
 have HR := Lib.hid h
 have HRlt := Lib.hid h.lt
 clear h
 go_enter Try.func64, Try.ntmps64
 go_wp2
 generalize hW : w.alloc _ = W
 have W0 : Hid (Turned R w W) := by show Turned _ _ _; rw [← hW]; exact Turned.of_below ((Below.refl _ _).alloc (Nat.le_refl _) _)
 have R0 : Hid (RdB W R P) := by show RdB _ _ _; rw [← hW]; exact HR.out.low ((Below.refl _ _).alloc (Nat.le_refl _) _) HRlt.out
 have O0 : Hid (OwnV W w.heap.size (.slice (some ⟨w.heap.size, 0, none⟩) 0 0) []) := by
  show OwnV _ _ _ _
  rw [← hW]
  exact World.ownsRow_made w #[] 0 (Nat.le_refl _) (by simp [maxLen]) rfl
 clear hW
 go_loopg [7, 8] p (fun gg s7 s8 wr => ∃ (k : Nat) (xs : List Int), k ≤ p ∧ p - k ≤ gg ∧ s8 = .int .i64 k ∧ xs.length = k ∧ Aside (OwnV wr w.heap.size s7 xs) ∧ Aside (Turned R w wr) ∧ Aside (RdB wr R (P + k)))
 case atStart => exact ⟨0, [], by omega, by omega, rfl, rfl, O0.out, W0.out, R0.out⟩
 case round =>
  obtain ⟨k, xs, hk, hg, rfl, hxl, OW, TW, RW⟩ := hrel
  have HXL := Lib.hid hxl
  clear hxl
  by_cases hlt : k < p
  ·
   have hltz : (k : Int) < (p : Int) := by omega
   go_wp2_with fail
   refine callsAt fun W2 hW2 => ?_
   have bL : Bk W2 wr.heap.size 3 (iv [0, 0, 1, 1, 2, 4]).toArray := by rw [hW2]; exact Bk.new rfl
   have hB2 : Below wr.heap.size wr W2 := by rw [hW2]; exact (Below.refl _ _).alloc (Nat.le_refl _) _
   clear hW2
   refine (l20Rd_pick R _ 6 _ (RW.out.low hB2 RW.out.lt) (by omega) (by omega)).mono ?_
   rintro e w3 ⟨v3, rfl, hv30, hv31, _, hr3, ht3⟩
   obtain ⟨k3, rfl⟩ := Int.eq_ofNat_of_zero_le hv30
   have hk3 : (k3 : Int) < 6 := by omega
   obtain ⟨z3, hz3⟩ := lit_at (bL.turned ht3 (by have := RW.out.lt; omega)) (k := k3) (by simp; omega)
   have O3 := Lib.hid ((OW.out.later hB2).later' ht3 HRlt.out)
   have T3 := Lib.hid ((TW.out.then hB2).trans ht3)
   have R3 := Lib.hid hr3
   have hs3 := T3.out.size
   clear bL hB2 hr3 ht3 hv31
   go_wp2_with (at_builtin; refine append_int rfl (.tmp 15) (.tmp 21) rfl w.heap.size _ _ rfl (O3.out.alloc _) w3.heap.size z3 rfl (by simp) (by have := HXL.out; omega) (by simp only [World.size_alloc]; omega) ?_; intro v' w4 hown hb4; have O4 := Lib.hid hown; have B4 := Lib.hid hb4; clear hown hb4)
   go_roundg (p - (k + 1))
   case measure => omega
   case rel => exact ⟨k + 1, xs ++ [z3], by omega, by omega, by go_num, by simp [HXL.out], O4.out, (T3.out.alloc _).trans' (B4.out), by show RdB _ _ _; exact ((R3.out.low ((Below.refl _ _).alloc (Nat.le_refl _) _) R3.out.lt).low B4.out HRlt.out).mono (by omega)⟩
  ·
   have hltz : ¬ (k : Int) < (p : Int) := by omega
   have hkp : k = p := by omega
   have HXP : Hid (xs.length = p) := by show _ = _; rw [HXL.out, hkp]
   subst hkp
   have O3 := Lib.hid OW.out
   have T3 := Lib.hid TW.out
   have R3 := Lib.hid RW.out
   have hs0 := TW.out.size
   clear HXL OW TW RW
   by_cases hp1 : (1 : Int) < (k : Int)
   ·
    go_wp2_with fail
    refine (l20Rd_pick R _ 4 _ R3.out (by omega) (by omega)).mono ?_
    rintro e w4 ⟨v4, rfl, hv40, _, _, hr4, ht4⟩
    have O4 := Lib.hid (O3.out.later' ht4 HRlt.out)
    have T4 := Lib.hid (T3.out.trans ht4)
    have R4 := Lib.hid hr4
    have hs4 := T4.out.size
    clear hr4 ht4 O3 T3 R3
    by_cases h4 : (0 : Int) < v4
    ·
     obtain ⟨A, c, rfl, hcap, hA⟩ := O4.out.form'
     have hxp := HXP.out
     obtain ⟨g8, rfl, hgb, hWr⟩ := hA (by omega)
     have h1l : 1 < xs.length := by omega
     have h1z : (1 : Int) < (xs.length : Int) := by omega
     obtain ⟨y0, hy0⟩ : ∃ y0 : Int, w4.cell? ⟨g8, 1, none⟩ = some (.int .i64 y0) := ⟨xs[1], hWr.cell (iv_get (List.getElem?_eq_getElem h1l))⟩
     have hfr := hWr.frozen 1
     have HG := Lib.hid hgb
     have hgl := hWr.lt
     have HO4 : Hid (OwnV w4 w.heap.size (.slice (some ⟨g8, 0, none⟩) xs.length c) xs) := O4.out
     clear hWr hcap hA hxp
     go_upto_region 8 with fail
     clear hy0 hfr h1z
     generalize hV : World.setCell w4 _ _ = V4
     have O8 : Hid (OwnV V4 w.heap.size (.slice (some ⟨g8, 0, none⟩) (xs.set 1 0).length c) (xs.set 1 0)) := by
      show OwnV _ _ _ _
      rw [← hV]
      exact HO4.out.put9 1 0
     rw [show xs.length = (xs.set 1 0).length from (List.length_set ..).symm]
     have T8 : Hid (Turned R w V4) := by show Turned _ _ _; rw [← hV]; exact T4.out.trans' (Below.setCell (Below.refl _ _) (p := ⟨g8, 1, none⟩) HG.out _)
     have R8 : Hid (RdB V4 R (P + k + 1)) := by show RdB _ _ _; rw [← hV]; exact R4.out.low ((Below.refl g8 w4).setCell (p := ⟨g8, 1, none⟩) (Nat.le_refl _) _) (by have := HRlt.out; have := HG.out; omega)
     have hs8 := T8.out.size
     have HXP : Hid ((xs.set 1 0).length = k) := by show _ = _; rw [List.length_set]; exact HXP.out
     clear hV HO4 O4 T4 R4 h1l
     generalize xs.set 1 0 = ys at O8 HXP ⊢
     generalize Value.slice (some ⟨g8, 0, none⟩) ys.length c = vv at O8 ⊢
     go_wp2_with fail
     refine (l20Rd_pick R _ n _ R8.out (by omega) (by omega)).mono ?_
     rintro e w5 ⟨v5, rfl, _, _, _, hr5, ht5⟩
     have O5 := Lib.hid (O8.out.later' ht5 HRlt.out)
     have T5 := Lib.hid (T8.out.trans ht5)
     have R5 := Lib.hid hr5
     have hs5 := T5.out.size
     clear hr5 ht5 O8 T8 R8
     by_cases h5 : v5 = 0
     rotate_left
     ·
      have b5 : (v5 == 0) = false := by simp [h5]
      clear h5
      go_wp2
      go_ret
      obtain ⟨A, c, rfl, hrow⟩ := O5.out.rows (by have := HXP.out; omega)
      exact ⟨A, c, _, rfl, by have := HXP.out; omega, hrow, R5.out.mono (by omega), T5.out⟩
     subst h5
     go_wp2_with fail
     refine (l20Rd_pick R _ 2 _ R5.out (by omega) (by omega)).mono ?_
     rintro e w6 ⟨v6, rfl, _, _, _, hr6, ht6⟩
     have O6 := Lib.hid (O5.out.later' ht6 HRlt.out)
     have T6 := Lib.hid (T5.out.trans ht6)
     have R6 := Lib.hid hr6
     have hs6 := T6.out.size
     clear hr6 ht6 O5 T5 R5
     by_cases h6 : v6 = 0 ∧ 0 < k
     ·
      obtain ⟨rfl, hk0⟩ := h6
      have hk0z : (0 : Int) < (k : Int) := by omega
      go_wp2_with fail
      refine (l20Rd_pick R _ k _ R6.out (by omega) (by omega)).mono ?_
      rintro e w7 ⟨v7, rfl, hv70, hv71, _, hr7, ht7⟩
      obtain ⟨j, rfl⟩ := Int.eq_ofNat_of_zero_le hv70
      have hjk : (j : Int) < (k : Int) := hv71 (by omega)
      have O7 := Lib.hid (O6.out.later' ht7 HRlt.out)
      have T7 := Lib.hid (T6.out.trans ht7)
      have R7 := Lib.hid hr7
      have hs7 := T7.out.size
      clear hr7 ht7 hv71 O6 T6 R6
      go_wp2_with fail
      refine callsAt fun W8 hW8 => ?_
      have bL : Bk W8 w7.heap.size 3 (iv [-1, 5]).toArray := by rw [hW8]; exact Bk.new rfl
      have hB8 : Below w7.heap.size w7 W8 := by rw [hW8]; exact (Below.refl _ _).alloc (Nat.le_refl _) _
      clear hW8
      refine (l20Rd_pick R _ 2 _ (R7.out.low hB8 R7.out.lt) (by omega) (by omega)).mono ?_
      rintro e w9 ⟨v9, rfl, hv90, hv91, _, hr9, ht9⟩
      obtain ⟨k9, rfl⟩ := Int.eq_ofNat_of_zero_le hv90
      have hk9 : (k9 : Int) < 2 := by omega
      obtain ⟨z9, hz9⟩ := lit_at (bL.turned ht9 (by have := R7.out.lt; omega)) (k := k9) (by simp; omega)
      have T9 := Lib.hid ((T7.out.then hB8).trans ht9)
      have R9 := Lib.hid hr9
      obtain ⟨A, c, rfl, hcap, hA⟩ := ((O7.out.later hB8).later' ht9 HRlt.out).form'
      have hxp := HXP.out
      obtain ⟨g, rfl, hgb, hWr⟩ := hA (by omega)
      have hjl : j < List.length ys := by omega
      have hjz : (j : Int) < ((List.length ys : Nat) : Int) := by omega
      obtain ⟨y0, hy0⟩ : ∃ y0 : Int, w9.cell? ⟨g, j, none⟩ = some (.int .i64 y0) := ⟨ys[j], hWr.cell (iv_get (List.getElem?_eq_getElem hjl))⟩
      have hfr := hWr.frozen j
      have HS := Lib.hid (hWr.set j (.int .i64 z9))
      have HG := Lib.hid hgb
      clear bL hB8 hr9 ht9 hv91 hWr hcap hgb hA hxp
      go_wp2
      go_ret
      refine ⟨some ⟨g, 0, none⟩, c, List.set ys j z9, by rw [List.length_set]; rfl, by rw [List.length_set]; have := HXP.out; omega, ?_, ?_, ?_⟩
      ·
       have h1 := HS.out
       rw [iv_put] at h1
       exact h1.rows (by rw [List.length_set]; have := HXP.out; omega) HG.out h1.lt
      ·
       exact (R9.out.low ((Below.refl g w9).setCell (p := ⟨g, j, none⟩) (Nat.le_refl _) _) (by have := HRlt.out; have := HG.out; omega)).mono (by omega)
      ·
       exact T9.out.trans' (Below.setCell (Below.refl _ _) (p := ⟨g, j, none⟩) HG.out _)
     ·
      have b6 : (v6 == 0) = false ∨ (v6 == 0) = true ∧ ¬ (0 : Int) < (k : Int) := by
       by_cases h7 : v6 = 0
       ·
        right
        exact ⟨by simp [h7], by intro h8; exact h6 ⟨h7, by omega⟩⟩
       ·
        left
        simp [h7]
      clear h6
      rcases b6 with b6 | ⟨b6, b7⟩
      all_goals (try (exfalso; omega))
      all_goals
       go_wp2_with (at_builtin; refine append_int rfl (.tmp 53) (.tmp 54) rfl w.heap.size _ _ rfl (O6.out.alloc _) w6.heap.size 0 rfl (by simp) (by have := HXP.out; omega) (by simp only [World.size_alloc]; omega) ?_; intro v' wz hown hbz; have OZ := Lib.hid hown; have BZ := Lib.hid hbz; clear hown hbz)
       go_ret
       obtain ⟨A, c, rfl, hrow⟩ := OZ.out.rows (by rw [List.length_append]; have := HXP.out; simp only [List.length_cons, List.length_nil]; omega)
       exact ⟨A, c, _, rfl, by rw [List.length_append]; have := HXP.out; simp only [List.length_cons, List.length_nil]; omega, hrow, ((R6.out.low ((Below.refl _ _).alloc (Nat.le_refl _) _) R6.out.lt).low BZ.out HRlt.out).mono (by omega), (T6.out.alloc _).trans' BZ.out⟩
    ·
     go_wp2_with fail
     refine (l20Rd_pick R _ n _ R4.out (by omega) (by omega)).mono ?_
     rintro e w5 ⟨v5, rfl, _, _, _, hr5, ht5⟩
     have O5 := Lib.hid (O4.out.later' ht5 HRlt.out)
     have T5 := Lib.hid (T4.out.trans ht5)
     have R5 := Lib.hid hr5
     have hs5 := T5.out.size
     clear hr5 ht5 O4 T4 R4
     by_cases h5 : v5 = 0
     rotate_left
     ·
      have b5 : (v5 == 0) = false := by simp [h5]
      clear h5
      go_wp2
      go_ret
      obtain ⟨A, c, rfl, hrow⟩ := O5.out.rows (by have := HXP.out; omega)
      exact ⟨A, c, _, rfl, by have := HXP.out; omega, hrow, R5.out.mono (by omega), T5.out⟩
     subst h5
     go_wp2_with fail
     refine (l20Rd_pick R _ 2 _ R5.out (by omega) (by omega)).mono ?_
     rintro e w6 ⟨v6, rfl, _, _, _, hr6, ht6⟩
     have O6 := Lib.hid (O5.out.later' ht6 HRlt.out)
     have T6 := Lib.hid (T5.out.trans ht6)
     have R6 := Lib.hid hr6
     have hs6 := T6.out.size
     clear hr6 ht6 O5 T5 R5
     by_cases h6 : v6 = 0 ∧ 0 < k
     ·
      obtain ⟨rfl, hk0⟩ := h6
      have hk0z : (0 : Int) < (k : Int) := by omega
      go_wp2_with fail
      refine (l20Rd_pick R _ k _ R6.out (by omega) (by omega)).mono ?_
      rintro e w7 ⟨v7, rfl, hv70, hv71, _, hr7, ht7⟩
      obtain ⟨j, rfl⟩ := Int.eq_ofNat_of_zero_le hv70
      have hjk : (j : Int) < (k : Int) := hv71 (by omega)
      have O7 := Lib.hid (O6.out.later' ht7 HRlt.out)
      have T7 := Lib.hid (T6.out.trans ht7)
      have R7 := Lib.hid hr7
      have hs7 := T7.out.size
      clear hr7 ht7 hv71 O6 T6 R6
      go_wp2_with fail
      refine callsAt fun W8 hW8 => ?_
      have bL : Bk W8 w7.heap.size 3 (iv [-1, 5]).toArray := by rw [hW8]; exact Bk.new rfl
      have hB8 : Below w7.heap.size w7 W8 := by rw [hW8]; exact (Below.refl _ _).alloc (Nat.le_refl _) _
      clear hW8
      refine (l20Rd_pick R _ 2 _ (R7.out.low hB8 R7.out.lt) (by omega) (by omega)).mono ?_
      rintro e w9 ⟨v9, rfl, hv90, hv91, _, hr9, ht9⟩
      obtain ⟨k9, rfl⟩ := Int.eq_ofNat_of_zero_le hv90
      have hk9 : (k9 : Int) < 2 := by omega
      obtain ⟨z9, hz9⟩ := lit_at (bL.turned ht9 (by have := R7.out.lt; omega)) (k := k9) (by simp; omega)
      have T9 := Lib.hid ((T7.out.then hB8).trans ht9)
      have R9 := Lib.hid hr9
      obtain ⟨A, c, rfl, hcap, hA⟩ := ((O7.out.later hB8).later' ht9 HRlt.out).form'
      have hxp := HXP.out
      obtain ⟨g, rfl, hgb, hWr⟩ := hA (by omega)
      have hjl : j < List.length xs := by omega
      have hjz : (j : Int) < ((List.length xs : Nat) : Int) := by omega
      obtain ⟨y0, hy0⟩ : ∃ y0 : Int, w9.cell? ⟨g, j, none⟩ = some (.int .i64 y0) := ⟨xs[j], hWr.cell (iv_get (List.getElem?_eq_getElem hjl))⟩
      have hfr := hWr.frozen j
      have HS := Lib.hid (hWr.set j (.int .i64 z9))
      have HG := Lib.hid hgb
      clear bL hB8 hr9 ht9 hv91 hWr hcap hgb hA hxp
      go_wp2
      go_ret
      refine ⟨some ⟨g, 0, none⟩, c, List.set xs j z9, by rw [List.length_set]; rfl, by rw [List.length_set]; have := HXP.out; omega, ?_, ?_, ?_⟩
      ·
       have h1 := HS.out
       rw [iv_put] at h1
       exact h1.rows (by rw [List.length_set]; have := HXP.out; omega) HG.out h1.lt
      ·
       exact (R9.out.low ((Below.refl g w9).setCell (p := ⟨g, j, none⟩) (Nat.le_refl _) _) (by have := HRlt.out; have := HG.out; omega)).mono (by omega)
      ·
       exact T9.out.trans' (Below.setCell (Below.refl _ _) (p := ⟨g, j, none⟩) HG.out _)
     ·
      have b6 : (v6 == 0) = false ∨ (v6 == 0) = true ∧ ¬ (0 : Int) < (k : Int) := by
       by_cases h7 : v6 = 0
       ·
        right
        exact ⟨by simp [h7], by intro h8; exact h6 ⟨h7, by omega⟩⟩
       ·
        left
        simp [h7]
      clear h6
      rcases b6 with b6 | ⟨b6, b7⟩
      all_goals (try (exfalso; omega))
      all_goals
       go_wp2_with (at_builtin; refine append_int rfl (.tmp 53) (.tmp 54) rfl w.heap.size _ _ rfl (O6.out.alloc _) w6.heap.size 0 rfl (by simp) (by have := HXP.out; omega) (by simp only [World.size_alloc]; omega) ?_; intro v' wz hown hbz; have OZ := Lib.hid hown; have BZ := Lib.hid hbz; clear hown hbz)
       go_ret
       obtain ⟨A, c, rfl, hrow⟩ := OZ.out.rows (by rw [List.length_append]; have := HXP.out; simp only [List.length_cons, List.length_nil]; omega)
       exact ⟨A, c, _, rfl, by rw [List.length_append]; have := HXP.out; simp only [List.length_cons, List.length_nil]; omega, hrow, ((R6.out.low ((Below.refl _ _).alloc (Nat.le_refl _) _) R6.out.lt).low BZ.out HRlt.out).mono (by omega), (T6.out.alloc _).trans' BZ.out⟩
     
   ·
    go_wp2_with fail
    refine (l20Rd_pick R _ n _ R3.out (by omega) (by omega)).mono ?_
    rintro e w5 ⟨v5, rfl, _, _, _, hr5, ht5⟩
    have O5 := Lib.hid (O3.out.later' ht5 HRlt.out)
    have T5 := Lib.hid (T3.out.trans ht5)
    have R5 := Lib.hid hr5
    have hs5 := T5.out.size
    clear hr5 ht5 O3 T3 R3
    by_cases h5 : v5 = 0
    rotate_left
    ·
     have b5 : (v5 == 0) = false := by simp [h5]
     clear h5
     go_wp2
     go_ret
     obtain ⟨A, c, rfl, hrow⟩ := O5.out.rows (by have := HXP.out; omega)
     exact ⟨A, c, _, rfl, by have := HXP.out; omega, hrow, R5.out.mono (by omega), T5.out⟩
    subst h5
    go_wp2_with fail
    refine (l20Rd_pick R _ 2 _ R5.out (by omega) (by omega)).mono ?_
    rintro e w6 ⟨v6, rfl, _, _, _, hr6, ht6⟩
    have O6 := Lib.hid (O5.out.later' ht6 HRlt.out)
    have T6 := Lib.hid (T5.out.trans ht6)
    have R6 := Lib.hid hr6
    have hs6 := T6.out.size
    clear hr6 ht6 O5 T5 R5
    by_cases h6 : v6 = 0 ∧ 0 < k
    ·
     obtain ⟨rfl, hk0⟩ := h6
     have hk0z : (0 : Int) < (k : Int) := by omega
     go_wp2_with fail
     refine (l20Rd_pick R _ k _ R6.out (by omega) (by omega)).mono ?_
     rintro e w7 ⟨v7, rfl, hv70, hv71, _, hr7, ht7⟩
     obtain ⟨j, rfl⟩ := Int.eq_ofNat_of_zero_le hv70
     have hjk : (j : Int) < (k : Int) := hv71 (by omega)
     have O7 := Lib.hid (O6.out.later' ht7 HRlt.out)
     have T7 := Lib.hid (T6.out.trans ht7)
     have R7 := Lib.hid hr7
     have hs7 := T7.out.size
     clear hr7 ht7 hv71 O6 T6 R6
     go_wp2_with fail
     refine callsAt fun W8 hW8 => ?_
     have bL : Bk W8 w7.heap.size 3 (iv [-1, 5]).toArray := by rw [hW8]; exact Bk.new rfl
     have hB8 : Below w7.heap.size w7 W8 := by rw [hW8]; exact (Below.refl _ _).alloc (Nat.le_refl _) _
     clear hW8
     refine (l20Rd_pick R _ 2 _ (R7.out.low hB8 R7.out.lt) (by omega) (by omega)).mono ?_
     rintro e w9 ⟨v9, rfl, hv90, hv91, _, hr9, ht9⟩
     obtain ⟨k9, rfl⟩ := Int.eq_ofNat_of_zero_le hv90
     have hk9 : (k9 : Int) < 2 := by omega
     obtain ⟨z9, hz9⟩ := lit_at (bL.turned ht9 (by have := R7.out.lt; omega)) (k := k9) (by simp; omega)
     have T9 := Lib.hid ((T7.out.then hB8).trans ht9)
     have R9 := Lib.hid hr9
     obtain ⟨A, c, rfl, hcap, hA⟩ := ((O7.out.later hB8).later' ht9 HRlt.out).form'
     have hxp := HXP.out
     obtain ⟨g, rfl, hgb, hWr⟩ := hA (by omega)
     have hjl : j < List.length xs := by omega
     have hjz : (j : Int) < ((List.length xs : Nat) : Int) := by omega
     obtain ⟨y0, hy0⟩ : ∃ y0 : Int, w9.cell? ⟨g, j, none⟩ = some (.int .i64 y0) := ⟨xs[j], hWr.cell (iv_get (List.getElem?_eq_getElem hjl))⟩
     have hfr := hWr.frozen j
     have HS := Lib.hid (hWr.set j (.int .i64 z9))
     have HG := Lib.hid hgb
     clear bL hB8 hr9 ht9 hv91 hWr hcap hgb hA hxp
     go_wp2
     go_ret
     refine ⟨some ⟨g, 0, none⟩, c, List.set xs j z9, by rw [List.length_set]; rfl, by rw [List.length_set]; have := HXP.out; omega, ?_, ?_, ?_⟩
     ·
      have h1 := HS.out
      rw [iv_put] at h1
      exact h1.rows (by rw [List.length_set]; have := HXP.out; omega) HG.out h1.lt
     ·
      exact (R9.out.low ((Below.refl g w9).setCell (p := ⟨g, j, none⟩) (Nat.le_refl _) _) (by have := HRlt.out; have := HG.out; omega)).mono (by omega)
     ·
      exact T9.out.trans' (Below.setCell (Below.refl _ _) (p := ⟨g, j, none⟩) HG.out _)
    ·
     have b6 : (v6 == 0) = false ∨ (v6 == 0) = true ∧ ¬ (0 : Int) < (k : Int) := by
      by_cases h7 : v6 = 0
      ·
       right
       exact ⟨by simp [h7], by intro h8; exact h6 ⟨h7, by omega⟩⟩
      ·
       left
       simp [h7]
     clear h6
     rcases b6 with b6 | ⟨b6, b7⟩
     all_goals (try (exfalso; omega))
     all_goals
      go_wp2_with (at_builtin; refine append_int rfl (.tmp 53) (.tmp 54) rfl w.heap.size _ _ rfl (O6.out.alloc _) w6.heap.size 0 rfl (by simp) (by have := HXP.out; omega) (by simp only [World.size_alloc]; omega) ?_; intro v' wz hown hbz; have OZ := Lib.hid hown; have BZ := Lib.hid hbz; clear hown hbz)
      go_ret
      obtain ⟨A, c, rfl, hrow⟩ := OZ.out.rows (by rw [List.length_append]; have := HXP.out; simp only [List.length_cons, List.length_nil]; omega)
      exact ⟨A, c, _, rfl, by rw [List.length_append]; have := HXP.out; simp only [List.length_cons, List.length_nil]; omega, hrow, ((R6.out.low ((Below.refl _ _).alloc (Nat.le_refl _) _) R6.out.lt).low BZ.out HRlt.out).mono (by omega), (T6.out.alloc _).trans' BZ.out⟩
    
end Go.Proofs.Ytjieilicjdoaaaa

