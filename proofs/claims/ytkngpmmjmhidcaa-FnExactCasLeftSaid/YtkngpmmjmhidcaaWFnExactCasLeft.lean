/- The walk of FnExactCasLeft: it returns true. -/
import Derived.Test.YtkngpmmjmhidcaaLeft
import Derived.Deep.RegionHeld3
namespace Go.Proofs.Ytkngpmmjmhidcaa
open Go.RowKit
set_option maxHeartbeats 2000000 in
theorem walk_FnExactCasLeft (v : Value) (x : GCase) (w : World) (h : ∃ cs : List Value, v = .agg cs.toArray ∧ caseC.R none w w.heap.size x cs) :
    Calls Try.prog 12 #[v] w fun e w' => e = .returned (.bool true) ∧ Below w.heap.size w w' := by
  obtain ⟨cs, rfl, A1, c1, A2, c2, A3, c3, A4, c4, rfl, h1, h2, h3, h4⟩ := h
  by_cases hs : szCase x 1048576 < 0
  · go_enter Try.func12, Try.ntmps12
    go_wp2_with fail
    refine (laws_szCasCase x _ _ _ _ _ _ _ _ 1048576 (by omega) (by omega) _ h1.1 h2.1 h3.1 h4.1).mono ?_; rintro e w1 ⟨rfl, hb1⟩
    have HB := Lib.hid (Below.trans (by go_grown) (hb1.mono (by simp)) : Below w.heap.size w w1)
    clear hb1
    go_wp2
    go_ret
    exact ⟨rfl, HB.out⟩
  obtain ⟨l1, l2, l3, l4, l5, l6⟩ := szCase_ok (by omega) hs
  have l1 : x.marks.length ≤ 1048576 := by omega
  have l2 : x.busy.length ≤ 1048576 := by omega
  have l3 : x.data.length ≤ 1048576 := by omega
  have l4 : x.did.length ≤ 1048576 := by omega
  have H1 := Lib.hid h1
  have H2 := Lib.hid h2
  have H3 := Lib.hid h3
  have H4 := Lib.hid h4
  have n1 := h1.1
  have n2 := h2.1
  have n3 := h3.1
  have n4 := h4.1
  clear h1 h2 h3 h4
  go_enter Try.func12, Try.ntmps12
  go_wp2_with fail
  refine callsAt fun W hW => ?_
  have b0 : Bk W w.heap.size 68 #[.int .i64 x.state, .slice A1 x.marks.length c1, .slice A2 x.busy.length c2, .slice A3 x.data.length c3, .slice A4 x.did.length c4] := by rw [hW]; exact Bk.new rfl
  have hB : Below w.heap.size w W := by rw [hW]; go_grown
  clear hW
  refine (laws_szCasCase x _ _ _ _ _ _ _ _ 1048576 (by omega) (by omega) _ n1 n2 n3 n4).mono ?_; rintro e w1 ⟨rfl, hb⟩
  have b0 := b0.later hb
  have k0 := fun i => b0.cell i
  have B0 := Lib.hid b0
  have HB := Lib.hid (hB.trans (hb.mono hB.size))
  clear hb hB b0
  go_wp2_with fail
  refine (laws_toCasCase x _ _ _ _ _ _ _ _ none _ ((H1.out.below HB.out).more HB.out.size) ((H2.out.below HB.out).more HB.out.size) ((H3.out.below HB.out).more HB.out.size) ((H4.out.below HB.out).more HB.out.size) l1 l2 l3 l4).mono ?_
  rintro e w2 ⟨cs1, rfl, ⟨D1, d1, D2, d2, D3, d3, D4, d4, rfl, r1, r2, r3, r4⟩, hb⟩
  have B0 := Lib.hid (B0.out.later hb)
  have HB := Lib.hid (HB.out.trans (hb.mono HB.out.size))
  clear hb k0
  go_wp2_with fail
  refine (spec_CasLeft x _ _ _ _ _ _ _ _ _ _ r1).mono ?_
  rintro e w3 ⟨rfl, hb⟩
  have B0 := Lib.hid (B0.out.later hb)
  have HB := Lib.hid (HB.out.trans (hb.mono HB.out.size))
  have k0 := fun i => B0.out.cell i
  clear hb r1 r2 r3 r4
  go_wp2_with fail
  refine (laws_toCasCase x _ _ _ _ _ _ _ _ none _ ((H1.out.below HB.out).more HB.out.size) ((H2.out.below HB.out).more HB.out.size) ((H3.out.below HB.out).more HB.out.size) ((H4.out.below HB.out).more HB.out.size) l1 l2 l3 l4).mono ?_
  rintro e w4 ⟨cs2, rfl, ⟨E1, e1, E2, e2, E3, e3, E4, e4, rfl, r1, r2, r3, r4⟩, hb⟩
  have B0 := Lib.hid (B0.out.later hb)
  have HB := Lib.hid (HB.out.trans (hb.mono HB.out.size))
  have R1 := Lib.hid r1
  have R2 := Lib.hid r2
  have R3 := Lib.hid r3
  have R4 := Lib.hid r4
  clear hb r1 r2 r3 r4 k0
  go_wp2_with fail
  refine callsAt fun W hW => ?_
  have b5 : Bk W w4.heap.size 72 #[.int .i64 x.state, .slice E1 x.marks.length e1, .slice E2 x.busy.length e2, .slice E3 x.data.length e3, .slice E4 x.did.length e4] := by rw [hW]; exact Bk.new rfl
  have hb : Below w4.heap.size w4 W := by rw [hW]; go_grown
  clear hW
  refine (impl_CasLeft x _ _ _ _ _ _ _ _ _ _ (R1.out.later hb)).mono ?_
  rintro e w5 ⟨rfl, hb5⟩
  have hb45 : Below w4.heap.size w4 w5 := hb.trans (hb5.mono hb.size)
  have B0 := Lib.hid (B0.out.later hb45)
  have B5 := Lib.hid (b5.later hb5)
  have HB := Lib.hid (HB.out.trans (hb45.mono HB.out.size))
  have R1 := Lib.hid (R1.out.later hb45)
  have R2 := Lib.hid (R2.out.later hb45)
  have R3 := Lib.hid (R3.out.later hb45)
  have R4 := Lib.hid (R4.out.later hb45)
  clear hb hb5 b5 hb45
  go_wp2
  have HS := Lib.hid (⟨B0.out.cell 0, B0.out.cell 1, B0.out.cell 2, B0.out.cell 3, B0.out.cell 4, B5.out.cell 0, B5.out.cell 1, B5.out.cell 2, B5.out.cell 3, B5.out.cell 4⟩ :
    (fun W : World => W.cell? ⟨w.heap.size, 0, none⟩ = some (.int .i64 x.state) ∧ W.cell? ⟨w.heap.size, 1, none⟩ = some (.slice A1 x.marks.length c1) ∧ W.cell? ⟨w.heap.size, 2, none⟩ = some (.slice A2 x.busy.length c2) ∧ W.cell? ⟨w.heap.size, 3, none⟩ = some (.slice A3 x.data.length c3) ∧ W.cell? ⟨w.heap.size, 4, none⟩ = some (.slice A4 x.did.length c4) ∧ W.cell? ⟨w4.heap.size, 0, none⟩ = some (.int .i64 x.state) ∧ W.cell? ⟨w4.heap.size, 1, none⟩ = some (.slice E1 x.marks.length e1) ∧ W.cell? ⟨w4.heap.size, 2, none⟩ = some (.slice E2 x.busy.length e2) ∧ W.cell? ⟨w4.heap.size, 3, none⟩ = some (.slice E3 x.data.length e3) ∧ W.cell? ⟨w4.heap.size, 4, none⟩ = some (.slice E4 x.did.length e4)) w5)
  have HD := Lib.hid (HB.out.drew)
  have Q1 := Lib.hid (R1.out.later ((Below.refl _ _).drew))
  have Q2 := Lib.hid (R2.out.later ((Below.refl _ _).drew))
  have Q3 := Lib.hid (R3.out.later ((Below.refl _ _).drew))
  have Q4 := Lib.hid (R4.out.later ((Below.refl _ _).drew))
  go_region_held3 (fun W : World => W.cell? ⟨w.heap.size, 0, none⟩ = some (.int .i64 x.state) ∧ W.cell? ⟨w.heap.size, 1, none⟩ = some (.slice A1 x.marks.length c1) ∧ W.cell? ⟨w.heap.size, 2, none⟩ = some (.slice A2 x.busy.length c2) ∧ W.cell? ⟨w.heap.size, 3, none⟩ = some (.slice A3 x.data.length c3) ∧ W.cell? ⟨w.heap.size, 4, none⟩ = some (.slice A4 x.did.length c4) ∧ W.cell? ⟨w4.heap.size, 0, none⟩ = some (.int .i64 x.state) ∧ W.cell? ⟨w4.heap.size, 1, none⟩ = some (.slice E1 x.marks.length e1) ∧ W.cell? ⟨w4.heap.size, 2, none⟩ = some (.slice E2 x.busy.length e2) ∧ W.cell? ⟨w4.heap.size, 3, none⟩ = some (.slice E3 x.data.length e3) ∧ W.cell? ⟨w4.heap.size, 4, none⟩ = some (.slice E4 x.did.length e4)) (first | exact HS.out | exact HS6.out | exact HS7.out)
    (first
      | (go_at_call 49; refine (laws_toCasCase x _ _ _ _ _ _ _ _ none _ ((H1.out.below HD.out).more HD.out.size) ((H2.out.below HD.out).more HD.out.size) ((H3.out.below HD.out).more HD.out.size) ((H4.out.below HD.out).more HD.out.size) l1 l2 l3 l4).mono ?_; rintro e w6 ⟨cs6, rfl, ⟨G1, g1, G2, g2, G3, g3, G4, g4, rfl, r1, r2, r3, r4⟩, hb6⟩; have HB6 := Lib.hid hb6; have C0 := (B0.out.drew).later hb6; have C5 := (B5.out.drew).later hb6; have T1 := Lib.hid r1; have T2 := Lib.hid r2; have T3 := Lib.hid r3; have T4 := Lib.hid r4; have HS6 := Lib.hid (⟨C0.cell 0, C0.cell 1, C0.cell 2, C0.cell 3, C0.cell 4, C5.cell 0, C5.cell 1, C5.cell 2, C5.cell 3, C5.cell 4⟩ : (fun W : World => W.cell? ⟨w.heap.size, 0, none⟩ = some (.int .i64 x.state) ∧ W.cell? ⟨w.heap.size, 1, none⟩ = some (.slice A1 x.marks.length c1) ∧ W.cell? ⟨w.heap.size, 2, none⟩ = some (.slice A2 x.busy.length c2) ∧ W.cell? ⟨w.heap.size, 3, none⟩ = some (.slice A3 x.data.length c3) ∧ W.cell? ⟨w.heap.size, 4, none⟩ = some (.slice A4 x.did.length c4) ∧ W.cell? ⟨w4.heap.size, 0, none⟩ = some (.int .i64 x.state) ∧ W.cell? ⟨w4.heap.size, 1, none⟩ = some (.slice E1 x.marks.length e1) ∧ W.cell? ⟨w4.heap.size, 2, none⟩ = some (.slice E2 x.busy.length e2) ∧ W.cell? ⟨w4.heap.size, 3, none⟩ = some (.slice E3 x.data.length e3) ∧ W.cell? ⟨w4.heap.size, 4, none⟩ = some (.slice E4 x.did.length e4)) w6); clear hb6 C0 C5 r1 r2 r3 r4)
      | (go_at_call 51; refine (laws_eqCasCase x _ _ _ _ _ _ _ _ _ _ _ _ _ _ _ _ _ _ _ (Q1.out.later HB6.out) T1.out (Q2.out.later HB6.out) T2.out (Q3.out.later HB6.out) T3.out (Q4.out.later HB6.out) T4.out).mono ?_; rintro e w7 ⟨rfl, hb7⟩; have HB7 := Lib.hid hb7; have C0 := ((B0.out.drew).later HB6.out).later hb7; have C5 := ((B5.out.drew).later HB6.out).later hb7; have HS7 := Lib.hid (⟨C0.cell 0, C0.cell 1, C0.cell 2, C0.cell 3, C0.cell 4, C5.cell 0, C5.cell 1, C5.cell 2, C5.cell 3, C5.cell 4⟩ : (fun W : World => W.cell? ⟨w.heap.size, 0, none⟩ = some (.int .i64 x.state) ∧ W.cell? ⟨w.heap.size, 1, none⟩ = some (.slice A1 x.marks.length c1) ∧ W.cell? ⟨w.heap.size, 2, none⟩ = some (.slice A2 x.busy.length c2) ∧ W.cell? ⟨w.heap.size, 3, none⟩ = some (.slice A3 x.data.length c3) ∧ W.cell? ⟨w.heap.size, 4, none⟩ = some (.slice A4 x.did.length c4) ∧ W.cell? ⟨w4.heap.size, 0, none⟩ = some (.int .i64 x.state) ∧ W.cell? ⟨w4.heap.size, 1, none⟩ = some (.slice E1 x.marks.length e1) ∧ W.cell? ⟨w4.heap.size, 2, none⟩ = some (.slice E2 x.busy.length e2) ∧ W.cell? ⟨w4.heap.size, 3, none⟩ = some (.slice E3 x.data.length e3) ∧ W.cell? ⟨w4.heap.size, 4, none⟩ = some (.slice E4 x.did.length e4)) w7); clear hb7 C0 C5))
  go_wp2
  go_ret
  exact ⟨rfl, (HD.out.trans (HB6.out.mono HD.out.size)).trans (HB7.out.mono (Nat.le_trans HD.out.size HB6.out.size))⟩
end Go.Proofs.Ytkngpmmjmhidcaa
