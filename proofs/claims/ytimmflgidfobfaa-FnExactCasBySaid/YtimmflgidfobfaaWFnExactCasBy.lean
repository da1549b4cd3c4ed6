/- The walk of FnExactCasBy: it returns true. -/
import Derived.Test.YtimmflgidfobfaaBy
import Derived.Test.YtimmflgidfobfaaCase
import Derived.Test.YtimmflgidfobfaaMarkCase
import Derived.Test.YtimmflgidfobfaaMarks
import Derived.Deep.RegionHeld3
namespace Go.Proofs.Ytimmflgidfobfaa
open Go.RowKit
set_option maxHeartbeats 4000000 in
theorem walk_FnExactCasBy (v : Value) (x : GCase) (who : Int) (w : World) (h : ∃ cs : List Value, v = .agg cs.toArray ∧ caseC.R none w w.heap.size x cs) (_ : -9223372036854775808 ≤ who ∧ who ≤ 9223372036854775807) :
    Calls Try.prog 6 #[v, .int .i64 who] w fun e w' => e = .returned (.bool true) ∧ Below w.heap.size w w' := by
  obtain ⟨cs, rfl, A1, c1, A2, c2, A3, c3, A4, c4, rfl, h1, h2, h3, h4⟩ := h
  by_cases hs : szCase x 1048576 < 0
  · go_enter Try.func6, Try.ntmps6
    go_wp2_with fail
    refine (laws_szCasCase x _ _ _ _ _ _ _ _ 1048576 (by omega) (by omega) _ h1.1 h2.1 h3.1 h4.1).mono ?_; rintro e w1 ⟨rfl, hb1⟩
    have HB := Lib.hid (Below.trans (by go_grown) (hb1.mono (by simp)) : Below w.heap.size w w1)
    clear hb1
    go_wp2
    go_ret
    exact ⟨rfl, HB.out⟩
  obtain ⟨l1, l2, l3, l4, l5, l6⟩ := szCase_ok (by omega) hs
  have l1 : x.marks.length ≤ 1048576 := by omega
  have l2 : x.busy.length ≤ 1048576 := by omega
  have l3 : x.data.length ≤ 1048576 := by omega
  have l4 : x.did.length ≤ 1048576 := by omega
  have H1 := Lib.hid h1
  have H2 := Lib.hid h2
  have H3 := Lib.hid h3
  have H4 := Lib.hid h4
  have n1 := h1.1
  have n2 := h2.1
  have n3 := h3.1
  have n4 := h4.1
  clear h1 h2 h3 h4
  go_enter Try.func6, Try.ntmps6
  go_wp2_with fail
  refine callsAt fun W hW => ?_
  have b0 : Bk W w.heap.size 69 #[.int .i64 x.state, .slice A1 x.marks.length c1, .slice A2 x.busy.length c2, .slice A3 x.data.length c3, .slice A4 x.did.length c4] := by rw [hW]; exact Bk.new rfl
  have hB : Below w.heap.size w W := by rw [hW]; go_grown
  clear hW
  refine (laws_szCasCase x _ _ _ _ _ _ _ _ 1048576 (by omega) (by omega) _ n1 n2 n3 n4).mono ?_; rintro e w1 ⟨rfl, hb⟩
  have b0 := b0.later hb
  have k0 := fun i => b0.cell i
  have B0 := Lib.hid b0
  have HB := Lib.hid (hB.trans (hb.mono hB.size))
  clear hb hB b0
  go_wp2_with fail
  refine (laws_toCasCase x _ _ _ _ _ _ _ _ none _ ((H1.out.below HB.out).more HB.out.size) ((H2.out.below HB.out).more HB.out.size) ((H3.out.below HB.out).more HB.out.size) ((H4.out.below HB.out).more HB.out.size) l1 l2 l3 l4).mono ?_
  rintro e w2 ⟨cs1, rfl, ⟨D1, d1, D2, d2, D3, d3, D4, d4, rfl, r1, r2, r3, r4⟩, hb⟩
  have B0 := Lib.hid (B0.out.later hb)
  have HB := Lib.hid (HB.out.trans (hb.mono HB.out.size))
  clear hb k0
  have hol := casBy_len x.did who
  go_wp2_with fail
  refine (spec_CasBy x _ _ _ _ _ _ _ _ who _ _ r4 l4).mono ?_
  rintro e w3 ⟨v3, rfl, hv3, hb⟩
  generalize hout : casBy x.did who = out at *
  have HOUT := Lib.hid hout
  clear hout
  obtain ⟨A0, c0, rfl, o0⟩ := OwnI.of_v hv3
  have I0 := Lib.hid (o0.ints (by omega))
  have B0 := Lib.hid (B0.out.later hb)
  have HB := Lib.hid (HB.out.trans (hb.mono HB.out.size))
  have k0 := fun i => B0.out.cell i
  have sB3 := B0.out.lt
  have HB3 := Lib.hid HB.out
  clear hb r1 r2 r3 r4 hv3 o0
  go_wp2_with fail
  refine (laws_toCasCase x _ _ _ _ _ _ _ _ none _ ((H1.out.below HB.out).more HB.out.size) ((H2.out.below HB.out).more HB.out.size) ((H3.out.below HB.out).more HB.out.size) ((H4.out.below HB.out).more HB.out.size) l1 l2 l3 l4).mono ?_
  rintro e w4 ⟨cs2, rfl, ⟨E1, e1, E2, e2, E3, e3, E4, e4, rfl, r1, r2, r3, r4⟩, hb⟩
  have B0 := Lib.hid (B0.out.later hb)
  have HB := Lib.hid (HB.out.trans (hb.mono HB.out.size))
  have L4 := Lib.hid hb
  have s34 := hb.size
  have R1 := Lib.hid r1
  have R2 := Lib.hid r2
  have R3 := Lib.hid r3
  have R4 := Lib.hid r4
  clear hb r1 r2 r3 r4 k0
  go_wp2_with fail
  refine callsAt fun W hW => ?_
  have b5 : Bk W w4.heap.size 73 #[.int .i64 x.state, .slice E1 x.marks.length e1, .slice E2 x.busy.length e2, .slice E3 x.data.length e3, .slice E4 x.did.length e4] := by rw [hW]; exact Bk.new rfl
  have hb : Below w4.heap.size w4 W := by rw [hW]; go_grown
  have s4W : w4.heap.size + 1 ≤ W.heap.size := by rw [hW]; simp
  clear hW
  refine (impl_CasBy x _ _ _ _ _ _ _ _ who _ _ (R4.out.later hb) l4).mono ?_
  rintro e w5 ⟨v5, rfl, hv5, hb5⟩
  rw [HOUT.out] at hv5
  obtain ⟨G, cg, rfl, og⟩ := OwnI.of_v hv5
  have hb45 : Below w4.heap.size w4 w5 := hb.trans (hb5.mono hb.size)
  have B0 := Lib.hid (B0.out.later hb45)
  have B5 := Lib.hid (b5.later hb5)
  have K5 := Lib.hid (L4.out.trans (hb45.mono s34) : Below w3.heap.size w3 w5)
  have G5 := Lib.hid (og.mono (by omega : w4.heap.size ≤ W.heap.size))
  have D5 := Lib.hid hb45
  clear hb hb5 b5 hv5 og L4
  go_wp2_with fail
  refine (laws_eqIntS _ _ _ _ out out _ w5.heap.size (G5.out.ints (by omega)) ((I0.out.below K5.out).more K5.out.size)).mono ?_
  rintro e w6 ⟨rfl, n6, rfl⟩
  have h56 : Below w5.heap.size w5 (w5.drewN n6) := bdN (Below.refl _ _) _
  generalize w5.drewN n6 = w6 at h56 ⊢
  have B0 := Lib.hid (B0.out.later h56)
  have B5 := Lib.hid (B5.out.later h56)
  have K6 := Lib.hid (K5.out.trans (h56.mono K5.out.size))
  have D6 := Lib.hid (D5.out.trans (h56.mono D5.out.size))
  have G6 := Lib.hid (G5.out.later h56)
  have HB := Lib.hid (HB.out.trans (D6.out.mono HB.out.size))
  have R1' := Lib.hid (R1.out.later D6.out)
  have R2' := Lib.hid (R2.out.later D6.out)
  have R3' := Lib.hid (R3.out.later D6.out)
  have R4' := Lib.hid (R4.out.later D6.out)
  have hdec : decide (out = out) = true := by simp
  clear h56 hb45 K5 D5 G5
  go_wp2
  have HS := Lib.hid (⟨B0.out.cell 0, B0.out.cell 1, B0.out.cell 2, B0.out.cell 3, B0.out.cell 4, B5.out.cell 0, B5.out.cell 1, B5.out.cell 2, B5.out.cell 3, B5.out.cell 4⟩ :
    (fun W : World => W.cell? ⟨w.heap.size, 0, none⟩ = some (.int .i64 x.state) ∧ W.cell? ⟨w.heap.size, 1, none⟩ = some (.slice A1 x.marks.length c1) ∧ W.cell? ⟨w.heap.size, 2, none⟩ = some (.slice A2 x.busy.length c2) ∧ W.cell? ⟨w.heap.size, 3, none⟩ = some (.slice A3 x.data.length c3) ∧ W.cell? ⟨w.heap.size, 4, none⟩ = some (.slice A4 x.did.length c4) ∧ W.cell? ⟨w4.heap.size, 0, none⟩ = some (.int .i64 x.state) ∧ W.cell? ⟨w4.heap.size, 1, none⟩ = some (.slice E1 x.marks.length e1) ∧ W.cell? ⟨w4.heap.size, 2, none⟩ = some (.slice E2 x.busy.length e2) ∧ W.cell? ⟨w4.heap.size, 3, none⟩ = some (.slice E3 x.data.length e3) ∧ W.cell? ⟨w4.heap.size, 4, none⟩ = some (.slice E4 x.did.length e4)) w6)
  have HD := Lib.hid (HB.out.drew)
  have Q1 := Lib.hid (R1'.out.later ((Below.refl _ _).drew))
  have Q2 := Lib.hid (R2'.out.later ((Below.refl _ _).drew))
  have Q3 := Lib.hid (R3'.out.later ((Below.refl _ _).drew))
  have Q4 := Lib.hid (R4'.out.later ((Below.refl _ _).drew))
  go_region_held3 (fun W : World => W.cell? ⟨w.heap.size, 0, none⟩ = some (.int .i64 x.state) ∧ W.cell? ⟨w.heap.size, 1, none⟩ = some (.slice A1 x.marks.length c1) ∧ W.cell? ⟨w.heap.size, 2, none⟩ = some (.slice A2 x.busy.length c2) ∧ W.cell? ⟨w.heap.size, 3, none⟩ = some (.slice A3 x.data.length c3) ∧ W.cell? ⟨w.heap.size, 4, none⟩ = some (.slice A4 x.did.length c4) ∧ W.cell? ⟨w4.heap.size, 0, none⟩ = some (.int .i64 x.state) ∧ W.cell? ⟨w4.heap.size, 1, none⟩ = some (.slice E1 x.marks.length e1) ∧ W.cell? ⟨w4.heap.size, 2, none⟩ = some (.slice E2 x.busy.length e2) ∧ W.cell? ⟨w4.heap.size, 3, none⟩ = some (.slice E3 x.data.length e3) ∧ W.cell? ⟨w4.heap.size, 4, none⟩ = some (.slice E4 x.did.length e4)) (first | exact HS.out | exact HS6.out | exact HS7.out)
    (first
      | (go_at_call 45; refine (laws_toCasCase x _ _ _ _ _ _ _ _ none _ ((H1.out.below HD.out).more HD.out.size) ((H2.out.below HD.out).more HD.out.size) ((H3.out.below HD.out).more HD.out.size) ((H4.out.below HD.out).more HD.out.size) l1 l2 l3 l4).mono ?_; rintro e w7 ⟨cs6, rfl, ⟨G1, g1, G2, g2, G3, g3, G4, g4, rfl, r1, r2, r3, r4⟩, hb6⟩; have HB6 := Lib.hid hb6; have C0 := (B0.out.drew).later hb6; have C5 := (B5.out.drew).later hb6; have T1 := Lib.hid r1; have T2 := Lib.hid r2; have T3 := Lib.hid r3; have T4 := Lib.hid r4; have HS6 := Lib.hid (⟨C0.cell 0, C0.cell 1, C0.cell 2, C0.cell 3, C0.cell 4, C5.cell 0, C5.cell 1, C5.cell 2, C5.cell 3, C5.cell 4⟩ : (fun W : World => W.cell? ⟨w.heap.size, 0, none⟩ = some (.int .i64 x.state) ∧ W.cell? ⟨w.heap.size, 1, none⟩ = some (.slice A1 x.marks.length c1) ∧ W.cell? ⟨w.heap.size, 2, none⟩ = some (.slice A2 x.busy.length c2) ∧ W.cell? ⟨w.heap.size, 3, none⟩ = some (.slice A3 x.data.length c3) ∧ W.cell? ⟨w.heap.size, 4, none⟩ = some (.slice A4 x.did.length c4) ∧ W.cell? ⟨w4.heap.size, 0, none⟩ = some (.int .i64 x.state) ∧ W.cell? ⟨w4.heap.size, 1, none⟩ = some (.slice E1 x.marks.length e1) ∧ W.cell? ⟨w4.heap.size, 2, none⟩ = some (.slice E2 x.busy.length e2) ∧ W.cell? ⟨w4.heap.size, 3, none⟩ = some (.slice E3 x.data.length e3) ∧ W.cell? ⟨w4.heap.size, 4, none⟩ = some (.slice E4 x.did.length e4)) w7); clear hb6 C0 C5 r1 r2 r3 r4)
      | (go_at_call 47; refine (laws_eqCasCase x _ _ _ _ _ _ _ _ _ _ _ _ _ _ _ _ _ _ _ (Q1.out.later HB6.out) T1.out (Q2.out.later HB6.out) T2.out (Q3.out.later HB6.out) T3.out (Q4.out.later HB6.out) T4.out).mono ?_; rintro e w8 ⟨rfl, hb7⟩; have HB7 := Lib.hid hb7; have C0 := ((B0.out.drew).later HB6.out).later hb7; have C5 := ((B5.out.drew).later HB6.out).later hb7; have HS7 := Lib.hid (⟨C0.cell 0, C0.cell 1, C0.cell 2, C0.cell 3, C0.cell 4, C5.cell 0, C5.cell 1, C5.cell 2, C5.cell 3, C5.cell 4⟩ : (fun W : World => W.cell? ⟨w.heap.size, 0, none⟩ = some (.int .i64 x.state) ∧ W.cell? ⟨w.heap.size, 1, none⟩ = some (.slice A1 x.marks.length c1) ∧ W.cell? ⟨w.heap.size, 2, none⟩ = some (.slice A2 x.busy.length c2) ∧ W.cell? ⟨w.heap.size, 3, none⟩ = some (.slice A3 x.data.length c3) ∧ W.cell? ⟨w.heap.size, 4, none⟩ = some (.slice A4 x.did.length c4) ∧ W.cell? ⟨w4.heap.size, 0, none⟩ = some (.int .i64 x.state) ∧ W.cell? ⟨w4.heap.size, 1, none⟩ = some (.slice E1 x.marks.length e1) ∧ W.cell? ⟨w4.heap.size, 2, none⟩ = some (.slice E2 x.busy.length e2) ∧ W.cell? ⟨w4.heap.size, 3, none⟩ = some (.slice E3 x.data.length e3) ∧ W.cell? ⟨w4.heap.size, 4, none⟩ = some (.slice E4 x.did.length e4)) w8); clear hb7 C0 C5))
  have h68 : Below w6.heap.size w6 w8 := ((Below.refl w6.heap.size w6).drew.trans HB6.out).trans (HB7.out.mono HB6.out.size)
  have B8 := Lib.hid (B0.out.later h68)
  have X8 := Lib.hid (B5.out.later h68)
  have K8 := Lib.hid (K6.out.trans (h68.mono K6.out.size))
  have D8 := Lib.hid (D6.out.trans (h68.mono D6.out.size))
  have G8 := Lib.hid (G6.out.later h68)
  have HB8 := Lib.hid (HB.out.trans (h68.mono HB.out.size))
  clear h68 HS HS6 HS7 Q1 Q2 Q3 Q4 T1 T2 T3 T4 HB6 HB7 HD R1' R2' R3' R4'
  have kx := fun i => X8.out.cell i
  go_wp2_with fail
  refine (laws_markCasCase x _ _ _ _ _ _ _ _ 1 w8 w3.heap.size w4.heap.size D8.out.size (R1.out.below D8.out) (R2.out.below D8.out) (R3.out.below D8.out) (R4.out.below D8.out) l1 l2 l3 l4 (by omega) (by omega)).mono ?_
  rintro e w9 ⟨rfl, in9⟩
  have K9 := Lib.hid (K8.out.trans (in9.below (Nat.le_refl _) K8.out.size))
  have G9 : Hid (OwnI w9 w4.heap.size G out) := fun h0 => by
    obtain ⟨g, hA, hg, hw⟩ := G8.out h0
    exact ⟨g, hA, hg, hw.keep (in9.block g hw.lt (.inr hg))⟩
  have b9 := (in9.block w.heap.size B8.out.lt (.inl sB3)).trans B8.out
  have B9 : Hid (Bk w9 w.heap.size 69 _) := b9
  have HB9 := Lib.hid (HB8.out.trans (in9.below (by omega) HB8.out.size))
  have s9 := K9.out.size
  have q0 : ¬ ((1 : Int) + x.marks.length + x.busy.length * 3 + x.data.length + x.did.length * 2 < 0) := by omega
  clear in9 b9 kx
  go_wp2_with fail
  refine (laws_eqIntS _ _ _ _ out out _ w9.heap.size (G9.out.ints (by omega)) ((I0.out.below K9.out).more s9)).mono ?_
  rintro e w10 ⟨rfl, n10, rfl⟩
  have K10 := Lib.hid (bdN K9.out n10)
  go_wp2_with fail
  refine (laws_markIntS_own G _ out 1 _ w4.heap.size (w9.drewN n10).heap.size (G9.out.drewN n10) (fun hn => OwnI.hi (G9.out.drewN n10) hn) (by omega) (by omega) (by omega)).mono ?_
  rintro e w11 ⟨rfl, ow11, in11⟩
  have K11 := Lib.hid (K10.out.trans (in11.below s34))
  have G11 := Lib.hid ow11
  have HB11 := Lib.hid ((bdN HB9.out n10).trans (in11.below (by omega)))
  have b11 := (in11.block w.heap.size (.inl (by omega))).trans (B9.out.drewN n10)
  have B11 : Hid (Bk w11 w.heap.size 69 _) := b11
  have s11 := K11.out.size
  clear in11 ow11 b11
  go_wp2_with fail
  refine (laws_heldIntS G _ out.length 1 _ w11.heap.size (G11.out.ints (by rw [seqI_len]; omega)) (by omega) (by omega) (by omega)).mono ?_
  rintro e w' ⟨rfl, rfl⟩
  have q1 : ¬ ((1 : Int) + out.length < 0) := by omega
  have kb := fun i => B11.out.cell i
  go_wp2_with fail
  refine (laws_toCasCase x _ _ _ _ _ _ _ _ none _ ((H1.out.below HB11.out).more HB11.out.size) ((H2.out.below HB11.out).more HB11.out.size) ((H3.out.below HB11.out).more HB11.out.size) ((H4.out.below HB11.out).more HB11.out.size) l1 l2 l3 l4).mono ?_
  rintro e w12 ⟨cs3, rfl, ⟨F1, f1, F2, f2, F3, f3, F4, f4, rfl, r1, r2, r3, r4⟩, hb12⟩
  have K12 := Lib.hid (K11.out.trans (hb12.mono s11))
  have G12 := Lib.hid (G11.out.later hb12)
  have s12 := K12.out.size
  clear kb
  go_wp2_with fail
  refine (impl_CasBy x _ _ _ _ _ _ _ _ who _ _ r4 l4).mono ?_
  rintro e w13 ⟨v13, rfl, hv13, hb13⟩
  rw [HOUT.out] at hv13
  obtain ⟨H, ch, rfl, oh⟩ := OwnI.of_v hv13
  have K13 := Lib.hid (K12.out.trans (hb13.mono s12))
  have G13 := Lib.hid (G12.out.later hb13)
  have O13 := Lib.hid oh
  have s13 := K13.out.size
  clear hv13 hb13 oh hb12 r1 r2 r3 r4
  go_wp2_with fail
  refine (laws_eqIntS _ _ _ _ out out _ w13.heap.size (O13.out.ints (by omega)) ((I0.out.below K13.out).more s13)).mono ?_
  rintro e w14 ⟨rfl, n14, rfl⟩
  have K14 := Lib.hid (bdN K13.out n14)
  go_wp2_with fail
  refine (laws_heldIntS G _ out.length 1 _ w13.heap.size ((G13.out.ints (by rw [seqI_len]; omega)).below (bdN (Below.refl _ _) _)) (by omega) (by omega) (by omega)).mono ?_
  rintro e w' ⟨rfl, rfl⟩
  go_wp2
  go_ret
  exact ⟨rfl, HB3.out.trans (K14.out.mono (by omega))⟩
end Go.Proofs.Ytimmflgidfobfaa
