/- People drawn: l20People. -/
import Derived.Test.YtkkjljpokannkaaDraw1
namespace Go.Proofs.Ytkkjljpokannkaa
open Go.RowKit

set_option maxHeartbeats 2000000 in
theorem l20People (R P : Nat) (n : Int) (w : World) (h : RdB w R P) (hP : P ≤ 900000) (hn : n ≤ 4611686018427387904) :
    Calls Try.prog 96 #[.pointer (some ⟨R, 0, none⟩), .int .i64 n] w (DrawnI R (P + 20) 5 w) := by
  have HR := Lib.hid h
  have HRlt := Lib.hid h.lt
  clear h
  go_enter Try.func96, Try.ntmps96
  go_wp2_with fail
  refine callsAt fun W hW => ?_
  have bs : ∀ v : Nat, v < 5 → ∃ (ys : List Int), 1 ≤ ys.length ∧ ys.length ≤ 4 ∧ Bk W (w.heap.size + v) 3 (iv ys).toArray ∧ W.cell? ⟨w.heap.size + 5, v, none⟩ = some (.slice (some ⟨w.heap.size + v, 0, none⟩) ys.length ys.length) := by
    intro v hv
    rcases (by omega : v = 0 ∨ v = 1 ∨ v = 2 ∨ v = 3 ∨ v = 4) with rfl | rfl | rfl | rfl | rfl
    · exact ⟨[7], by decide, by decide, by rw [hW]; (repeat (first | exact Bk.new (by simp) | refine Bk.alloc ?_ _)), by rw [hW, Bk.cell (Bk.new (by simp))]; rfl⟩
    · exact ⟨[7, 7], by decide, by decide, by rw [hW]; (repeat (first | exact Bk.new (by simp) | refine Bk.alloc ?_ _)), by rw [hW, Bk.cell (Bk.new (by simp))]; rfl⟩
    · exact ⟨[1, 2, 4], by decide, by decide, by rw [hW]; (repeat (first | exact Bk.new (by simp) | refine Bk.alloc ?_ _)), by rw [hW, Bk.cell (Bk.new (by simp))]; rfl⟩
    · exact ⟨[3, 5, 6, 7], by decide, by decide, by rw [hW]; (repeat (first | exact Bk.new (by simp) | refine Bk.alloc ?_ _)), by rw [hW, Bk.cell (Bk.new (by simp))]; rfl⟩
    · exact ⟨[7, 3, 4], by decide, by decide, by rw [hW]; (repeat (first | exact Bk.new (by simp) | refine Bk.alloc ?_ _)), by rw [hW, Bk.cell (Bk.new (by simp))]; rfl⟩
  have hBW : Below w.heap.size w W := by rw [hW]; go_grown
  have hs6 : W.heap.size = w.heap.size + 6 := by rw [hW]; simp
  clear hW
  refine (l20Rd_pick R P 5 _ (HR.out.low hBW HRlt.out) (by omega) (by omega)).mono ?_
  rintro e w1 ⟨v, rfl, hv0, hv1, _, hr1, ht1⟩
  obtain ⟨k, rfl⟩ := Int.eq_ofNat_of_zero_le hv0
  obtain ⟨ys, hy1, hy4, hy, hcell⟩ := bs k (by omega)
  have hcell1 := (World.cell?_of_block (w' := w1) (ht1.block (w.heap.size + 5) (by omega) (by have := HRlt.out; omega))).trans hcell
  have Y1 := Lib.hid (hy.turned ht1 (by have := HRlt.out; omega))
  have T1 := Lib.hid ((Turned.of_below hBW).trans ht1)
  have R1 := Lib.hid hr1
  have hs1 := T1.out.size
  clear hy hcell hr1 ht1 bs hBW
  have hk5 : (k : Int) < 5 := by omega
  have hysl : (ys.length : Int) ≤ 4 := by omega
  go_wp2_with (at_builtin; refine append_ints rfl (.tmp 16) (.tmp 17) rfl w.heap.size _ [] rfl (OwnV.made hs1 0 #[] (by decide) rfl) (w.heap.size + k) _ ys rfl (fun j y hj => by rw [(Y1.out.alloc _).cell]; simpa using iv_get hj) (by simp; omega) (by simp; omega) ?_; intro v' w2 hown hg2 hb2; have O2 := Lib.hid hown; have G2 := Lib.hid hg2; have B2 := Lib.hid hb2; clear hown hg2 hb2)
  have T2 := Lib.hid ((T1.out.alloc (.cells #[] 3)).grown G2.out fun g hg => by change some w1.heap.size = some g at hg; cases hg; exact hs1)
  have R2 := Lib.hid ((R1.out.low ((Below.refl _ _).alloc (Nat.le_refl _) _) R1.out.lt).low B2.out HRlt.out)
  rw [List.nil_append] at O2
  have hs2 := T2.out.size
  clear G2 B2
  refine (l20Rd_pick R _ n _ R2.out (by omega) hn).mono ?_
  rintro e w3 ⟨v3, rfl, hv30, hv31, _, hr3, ht3⟩
  have O3 := Lib.hid (O2.out.kept (Kept.of_turned ht3 HRlt.out))
  have T3 := Lib.hid (T2.out.trans ht3)
  have R3 := Lib.hid hr3
  have hs3 := T3.out.size
  clear hr3 ht3
  by_cases h3 : v3 = 0
  · subst h3
    go_wp2_with fail
    refine (l20Rd_pick R _ 3 _ R3.out (by omega) (by omega)).mono ?_
    rintro e w4 ⟨v4, rfl, hv40, hv41, _, hr4, ht4⟩
    have O4 := Lib.hid (O3.out.kept (Kept.of_turned ht4 HRlt.out))
    have T4 := Lib.hid (T3.out.trans ht4)
    have R4 := Lib.hid hr4
    have hs4 := T4.out.size
    clear hr4 ht4
    by_cases h40 : v4 = 0
    · subst h40
      go_wp2
      go_ret
      exact ⟨_, _, [], rfl, by simp, by simp, fun h => absurd h (by simp), R4.out.low ((Below.refl _ _).alloc (Nat.le_refl _) _) R4.out.lt |>.mono (by omega), T4.out.alloc _⟩
    · have b40 : (v4 == 0) = false := by simp [h40]
      by_cases h41 : v4 = 1
      · subst h41
        go_wp2_with fail
        refine callsAt fun W5 hW5 => ?_
        have b5 : Bk W5 w4.heap.size 3 #[.int .i64 (-1), .int .i64 8, .int .i64 0] := by rw [hW5]; exact Bk.new rfl
        have hB5 : Below w4.heap.size w4 W5 := by rw [hW5]; exact (Below.refl _ _).alloc (Nat.le_refl _) _
        clear hW5
        refine (l20Rd_pick R _ 3 _ (R4.out.low hB5 R4.out.lt) (by omega) (by omega)).mono ?_
        rintro e w6 ⟨v6, rfl, hv60, hv61, _, hr6, ht6⟩
        obtain ⟨A, c, rfl, hcap, hA⟩ := ((O4.out.later hB5).kept (Kept.of_turned ht6 HRlt.out)).form'
        obtain ⟨g, rfl, hgb, hW⟩ := hA (by omega)
        have b6 := b5.turned ht6 (by have := HRlt.out; omega)
        obtain ⟨j, rfl⟩ := Int.eq_ofNat_of_zero_le hv60
        have hj : (j : Int) < 3 := by omega
        obtain ⟨z, hz⟩ : ∃ z : Int, w6.cell? ⟨w4.heap.size, j, none⟩ = some (.int .i64 z) := by
          rw [b6.cell]
          rcases (by omega : j = 0 ∨ j = 1 ∨ j = 2) with rfl | rfl | rfl
          · exact ⟨_, rfl⟩
          · exact ⟨_, rfl⟩
          · exact ⟨_, rfl⟩
        obtain ⟨y0, hy0⟩ : ∃ y0 : Int, w6.cell? ⟨g, 0, none⟩ = some (.int .i64 y0) := ⟨ys[0], hW.cell (iv_get (List.getElem?_eq_getElem (by omega)))⟩
        have hfr := hW.frozen 0
        have HS := Lib.hid (hW.set 0 (.int .i64 z))
        have T6 := Lib.hid ((T4.out.then hB5).trans ht6)
        have R6 := Lib.hid hr6
        have hlen : (0 : Int) < (ys.length : Int) := by omega
        have HG := Lib.hid hgb
        clear hW b5 b6 hr6 ht6 hB5
        go_wp2
        go_ret
        refine ⟨_, c, ys.set 0 z, by rw [List.length_set]; rfl, by rw [List.length_set]; omega, by rw [List.length_set]; exact hcap, fun _ => ⟨g, rfl, HG.out, ?_⟩, ?_, ?_⟩
        · rw [← iv_put]; exact HS.out
        · exact (R6.out.low ((Below.refl g w6).setCell (p := ⟨g, 0, none⟩) (Nat.le_refl _) _) (by have := HRlt.out; have := HG.out; omega)).mono (by omega)
        · exact T6.out.trans' (Below.setCell (Below.refl _ _) (p := ⟨g, 0, none⟩) HG.out _)
      · have b41 : (v4 == 1) = false := by simp [h41]
        go_wp2
        go_ret
        exact ⟨_, _, [1, 1, 1, 1, 1], rfl, by simp, by simp, fun _ => ⟨_, rfl, hs4, by exact Wr.new _ _ _⟩, R4.out.low ((Below.refl _ _).alloc (Nat.le_refl _) _) R4.out.lt |>.mono (by omega), T4.out.alloc _⟩
  · have b3 : (v3 == 0) = false := by simp [h3]
    go_wp2
    go_ret
    obtain ⟨A, c, rfl, hcap, hA⟩ := O3.out.form'
    exact ⟨A, c, ys, rfl, by omega, hcap, hA, R3.out.mono (by omega), T3.out⟩

end Go.Proofs.Ytkkjljpokannkaa
