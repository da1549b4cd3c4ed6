/- The walk of FnExactCasCan: it returns true. -/
import Derived.Test.YtkoaaagmcjjimaaGreatCanHeld
import Derived.Test.YtkoaaagmcjjimaaGreatCopyNet
import Derived.Test.YtkoaaagmcjjimaaGreatCase
import Derived.Deep.RegionHeld3
namespace Go.Proofs.YtkoaaagmcjjimaaGreat
open Go.RowKit
set_option linter.unusedSimpArgs false
set_option linter.unusedVariables false

set_option maxRecDepth 100000 in
set_option maxHeartbeats 8000000 in
theorem walk_FnExactCasCan (v0 : Value) (x0 : GNet) (A1 : Option Addr) (c1 : Nat) (x1 : List Int) (v2 : Value) (x2 : GCase) (w : World) (h0 : ∃ cs : List Value, v0 = .agg cs.toArray ∧ netC.R none w w.heap.size x0 cs) (h1 : Ints w w.heap.size A1 x1) (h2 : ∃ cs : List Value, v2 = .agg cs.toArray ∧ caseC.R none w w.heap.size x2 cs) :
    Calls Tryz.prog 3 #[v0, .slice A1 x1.length c1, v2] w fun e w' => e = .returned (.bool true) ∧ Below w.heap.size w w' := by
  obtain ⟨cs0, rfl, A0, c0, rfl, hn0⟩ := h0
  have HN0 := Lib.hid hn0
  clear hn0
  have HN1 := Lib.hid h1
  clear h1
  obtain ⟨cs2, rfl, A21, c21, A22, c22, A23, c23, A24, c24, rfl, hn21, hn22, hn23, hn24⟩ := h2
  have HC21 := Lib.hid hn21
  have nn21 := hn21.1
  clear hn21
  have HC22 := Lib.hid hn22
  have nn22 := hn22.1
  clear hn22
  have HC23 := Lib.hid hn23
  have nn23 := hn23.1
  clear hn23
  have HC24 := Lib.hid hn24
  have nn24 := hn24.1
  clear hn24
  by_cases tl1 : x1.length ≤ 1048576
  rotate_left
  · have hz : (1048576 : Int) < (x1.length : Int) := by omega
    go_enter Tryz.func3, Tryz.ntmps3
    go_wp2
    go_ret
    exact ⟨rfl, by go_grown⟩
  go_enter Tryz.func3, Tryz.ntmps3
  go_wp2_with fail
  refine callsAt fun W hW => ?_
  have P0 : Hid (Bk W (w.heap.size) 24 #[.int .i64 x0.places, .slice A0 x0.tasks.length c0]) := by show Bk _ _ _ _; rw [hW]; exact (Bk.new rfl).alloc _
  have P1 : Hid (Bk W (w.heap.size + 1) 29 #[.int .i64 x2.state, .slice A21 x2.marks.length c21, .slice A22 x2.busy.length c22, .slice A23 x2.data.length c23, .slice A24 x2.did.length c24]) := by show Bk _ _ _ _; rw [hW]; exact Bk.new (by simp)
  have B : Hid (Below w.heap.size w W) := by show Below _ _ _; rw [hW]; go_grown
  have zW : w.heap.size + 2 ≤ W.heap.size := by rw [hW]; simp only [World.size_alloc]; omega
  clear hW
  refine (laws_szNetNet x0 A0 c0 none 1048576 (by omega) (by omega) _ (HN0.out.later B.out)).mono ?_
  rintro e w1 ⟨l0, rfl, hl0, hu0, hf0, hb⟩
  have TF0 := Lib.hid hf0
  clear hf0
  have P0 := Lib.hid (P0.out.later hb)
  have P1 := Lib.hid (P1.out.later hb)
  have B := Lib.hid (B.out.trans (hb.mono B.out.size))
  have zw1 := hb.size
  clear hb
  by_cases hneg : l0 < 0
  · have kP0 := fun i => P0.out.cell i
    have kP1 := fun i => P1.out.cell i
    go_wp2
    go_ret
    exact ⟨rfl, B.out⟩
  obtain ⟨tl0, ts0⟩ := TF0.out (by omega)
  have TS0 := Lib.hid ts0
  clear ts0 TF0
  have kP0 := fun i => P0.out.cell i
  have kP1 := fun i => P1.out.cell i
  go_wp2_with fail
  clear kP0 kP1
  refine (laws_szCasCase x2 _ _ _ _ _ _ _ _ l0 (by omega) (by omega) _ nn21 nn22 nn23 nn24).mono ?_
  rintro e w2 ⟨rfl, hb⟩
  have P0 := Lib.hid (P0.out.later hb)
  have P1 := Lib.hid (P1.out.later hb)
  have B := Lib.hid (B.out.trans (hb.mono B.out.size))
  have zw2 := hb.size
  clear hb
  by_cases hneg : szCase x2 l0 < 0
  · have kP0 := fun i => P0.out.cell i
    have kP1 := fun i => P1.out.cell i
    go_wp2
    go_ret
    exact ⟨rfl, B.out⟩
  obtain ⟨ll21, ll22, ll23, ll24, _, _⟩ := szCase_ok (by omega) hneg
  have L21 : x2.marks.length ≤ 1048576 := by omega
  have L22 : x2.busy.length ≤ 1048576 := by omega
  have L23 : x2.data.length ≤ 1048576 := by omega
  have L24 : x2.did.length ≤ 1048576 := by omega
  clear ll21 ll22 ll23 ll24 nn21 nn22 nn23 nn24
  obtain ⟨out, hout⟩ : ∃ out, out = canOf x0 x1 x2 := ⟨_, rfl⟩
  have HOUT := Lib.hid hout
  have hol := canOf_len x0 x1 x2
  rw [← hout] at hol
  clear hout
  have kP0 := fun i => P0.out.cell i
  have kP1 := fun i => P1.out.cell i
  go_wp2
  clear kP0 kP1
  have hdr := fun V : World => (Below.refl V.heap.size V).drew
  refine wp_region_held_drew (S := (fun V : World => V.cell? ⟨w.heap.size, 0, none⟩ = some (.int .i64 x0.places) ∧ V.cell? ⟨w.heap.size, 1, none⟩ = some (.slice A0 x0.tasks.length c0) ∧ V.cell? ⟨w.heap.size + 1, 0, none⟩ = some (.int .i64 x2.state) ∧ V.cell? ⟨w.heap.size + 1, 1, none⟩ = some (.slice A21 x2.marks.length c21) ∧ V.cell? ⟨w.heap.size + 1, 2, none⟩ = some (.slice A22 x2.busy.length c22) ∧ V.cell? ⟨w.heap.size + 1, 3, none⟩ = some (.slice A23 x2.data.length c23) ∧ V.cell? ⟨w.heap.size + 1, 4, none⟩ = some (.slice A24 x2.did.length c24))) (by kernel_rfl) ⟨P0.out.cell 0, P0.out.cell 1, P1.out.cell 0, P1.out.cell 1, P1.out.cell 2, P1.out.cell 3, P1.out.cell 4⟩ (fun hHeld => ?_)
  have hb := hdr w2
  generalize w2.drew = w3 at hb hHeld ⊢
  have P0 := Lib.hid (P0.out.later hb)
  have P1 := Lib.hid (P1.out.later hb)
  have B := Lib.hid (B.out.trans (hb.mono B.out.size))
  have zw3 := hb.size
  clear hdr hb
  refine wpAnyH_take (i := 0) (v := ?_) rfl (by kernel_rfl) (by kernel_rfl) (by kernel_rfl) (fun _ _ _ h => h) (Or.inl ⟨by rfl, ?_⟩) (by assumption) ?_
  rotate_left
  · intro V hSw
    (try dsimp only at hSw)
    go_simp
    (try with_reducible rfl)
  simp only [List.getElem_toArray, List.getElem_cons_succ, List.getElem_cons_zero, Act.put, List.setIfInBounds_toArray, List.set_cons_zero, List.set_cons_succ]
  refine wpAnyH_take (i := 2) (v := ?_) rfl (by kernel_rfl) (by kernel_rfl) (by kernel_rfl) (fun _ _ _ h => h) (Or.inl ⟨by rfl, ?_⟩) (by assumption) ?_
  rotate_left
  · intro V hSw
    (try dsimp only at hSw)
    go_simp
    (try with_reducible rfl)
  simp only [List.getElem_toArray, List.getElem_cons_succ, List.getElem_cons_zero, Act.put, List.setIfInBounds_toArray, List.set_cons_zero, List.set_cons_succ]
  refine wpAnyH_take (i := 4) (v := ?_) rfl (by kernel_rfl) (by kernel_rfl) (by kernel_rfl) (fun _ _ _ h => h) (Or.inl ⟨by rfl, ?_⟩) (by assumption) ?_
  rotate_left
  · intro V hSw
    (try dsimp only at hSw)
    go_simp
    (try with_reducible rfl)
  simp only [List.getElem_toArray, List.getElem_cons_succ, List.getElem_cons_zero, Act.put, List.setIfInBounds_toArray, List.set_cons_zero, List.set_cons_succ]
  refine wpAnyH_ready (rs := [1]) (by kernel_rfl) (by simp) ?_
  refine AllReadyH.cons rfl (fun K hK => ?_) ?_
  rotate_left
  · exact AllReadyH.nil
  go_simp
  go_wp2_with (go_at_call 7; refine (laws_toNetNet x0 A0 c0 none _ (HN0.out.later B.out) tl0 TS0.out).mono ?_; rintro e w4 ⟨ga0, hga0, rfl, hFa0, hb⟩)
  have Fa0 := Lib.hid hFa0
  clear hFa0 hga0
  have P0 := Lib.hid (P0.out.later hb)
  have P1 := Lib.hid (P1.out.later hb)
  have B := Lib.hid (B.out.trans (hb.mono B.out.size))
  have zw4 := hb.size
  have SF : Hid ((fun V : World => V.cell? ⟨w.heap.size, 0, none⟩ = some (.int .i64 x0.places) ∧ V.cell? ⟨w.heap.size, 1, none⟩ = some (.slice A0 x0.tasks.length c0) ∧ V.cell? ⟨w.heap.size + 1, 0, none⟩ = some (.int .i64 x2.state) ∧ V.cell? ⟨w.heap.size + 1, 1, none⟩ = some (.slice A21 x2.marks.length c21) ∧ V.cell? ⟨w.heap.size + 1, 2, none⟩ = some (.slice A22 x2.busy.length c22) ∧ V.cell? ⟨w.heap.size + 1, 3, none⟩ = some (.slice A23 x2.data.length c23) ∧ V.cell? ⟨w.heap.size + 1, 4, none⟩ = some (.slice A24 x2.did.length c24)) w4) := ⟨P0.out.cell 0, P0.out.cell 1, P1.out.cell 0, P1.out.cell 1, P1.out.cell 2, P1.out.cell 3, P1.out.cell 4⟩
  clear hb
  refine hK.out _ _ SF.out (fun hHeld => ?_)
  clear hK K
  refine wpAnyH_ready (rs := [3]) (by kernel_rfl) (by simp) ?_
  refine AllReadyH.cons rfl (fun K hK => ?_) ?_
  rotate_left
  · exact AllReadyH.nil
  go_simp
  go_wp2_with (go_at_call 8; refine (laws_toIntS A1 c1 x1 _ w.heap.size B.out.size (HN1.out.below B.out) tl1).mono ?_; rintro e w5 ⟨rfl, hw, hb⟩)
  have Fa1 := Lib.hid hw
  clear hw
  have P0 := Lib.hid (P0.out.later hb)
  have P1 := Lib.hid (P1.out.later hb)
  have Fa0 := Lib.hid (Fa0.out.later hb)
  have B := Lib.hid (B.out.trans (hb.mono B.out.size))
  have zw5 := hb.size
  have SF : Hid ((fun V : World => V.cell? ⟨w.heap.size, 0, none⟩ = some (.int .i64 x0.places) ∧ V.cell? ⟨w.heap.size, 1, none⟩ = some (.slice A0 x0.tasks.length c0) ∧ V.cell? ⟨w.heap.size + 1, 0, none⟩ = some (.int .i64 x2.state) ∧ V.cell? ⟨w.heap.size + 1, 1, none⟩ = some (.slice A21 x2.marks.length c21) ∧ V.cell? ⟨w.heap.size + 1, 2, none⟩ = some (.slice A22 x2.busy.length c22) ∧ V.cell? ⟨w.heap.size + 1, 3, none⟩ = some (.slice A23 x2.data.length c23) ∧ V.cell? ⟨w.heap.size + 1, 4, none⟩ = some (.slice A24 x2.did.length c24)) w5) := ⟨P0.out.cell 0, P0.out.cell 1, P1.out.cell 0, P1.out.cell 1, P1.out.cell 2, P1.out.cell 3, P1.out.cell 4⟩
  clear hb
  refine hK.out _ _ SF.out (fun hHeld => ?_)
  clear hK K
  refine wpAnyH_ready (rs := [5]) (by kernel_rfl) (by simp) ?_
  refine AllReadyH.cons rfl (fun K hK => ?_) ?_
  rotate_left
  · exact AllReadyH.nil
  go_simp
  go_wp2_with (go_at_call 9; refine (laws_toCasCase x2 _ _ _ _ _ _ _ _ none _ (HC21.out.later B.out) (HC22.out.later B.out) (HC23.out.later B.out) (HC24.out.later B.out) L21 L22 L23 L24).mono ?_; rintro e w6 ⟨cta2, rfl, ⟨Da21, da21, Da22, da22, Da23, da23, Da24, da24, rfl, hRa21, hRa22, hRa23, hRa24⟩, hb⟩)
  have Ra21 := Lib.hid hRa21
  have Ra22 := Lib.hid hRa22
  have Ra23 := Lib.hid hRa23
  have Ra24 := Lib.hid hRa24
  clear hRa21 hRa22 hRa23 hRa24
  have P0 := Lib.hid (P0.out.later hb)
  have P1 := Lib.hid (P1.out.later hb)
  have Fa0 := Lib.hid (Fa0.out.later hb)
  have Fa1 := Lib.hid (Fa1.out.later hb)
  have B := Lib.hid (B.out.trans (hb.mono B.out.size))
  have zw6 := hb.size
  have SF : Hid ((fun V : World => V.cell? ⟨w.heap.size, 0, none⟩ = some (.int .i64 x0.places) ∧ V.cell? ⟨w.heap.size, 1, none⟩ = some (.slice A0 x0.tasks.length c0) ∧ V.cell? ⟨w.heap.size + 1, 0, none⟩ = some (.int .i64 x2.state) ∧ V.cell? ⟨w.heap.size + 1, 1, none⟩ = some (.slice A21 x2.marks.length c21) ∧ V.cell? ⟨w.heap.size + 1, 2, none⟩ = some (.slice A22 x2.busy.length c22) ∧ V.cell? ⟨w.heap.size + 1, 3, none⟩ = some (.slice A23 x2.data.length c23) ∧ V.cell? ⟨w.heap.size + 1, 4, none⟩ = some (.slice A24 x2.did.length c24)) w6) := ⟨P0.out.cell 0, P0.out.cell 1, P1.out.cell 0, P1.out.cell 1, P1.out.cell 2, P1.out.cell 3, P1.out.cell 4⟩
  clear hb
  refine hK.out _ _ SF.out (fun hHeld => ?_)
  clear hK K
  refine wpAnyH_ready (rs := [6]) (by kernel_rfl) (by simp) ?_
  refine AllReadyH.cons rfl (fun K hK => ?_) ?_
  rotate_left
  · exact AllReadyH.nil
  go_simp
  go_wp2_with (go_at_call 6; refine (spec_CasCan x0 _ _ _ _ x1 x2 _ _ _ _ _ _ _ _ _ _ _ (MadeN.rows Fa0.out tl0) (Fa1.out.ints Fa1.out.lt (by omega)) Ra21.out Ra22.out Ra23.out Ra24.out).mono ?_; rintro e w7 ⟨vS, rfl, oS, hb⟩)
  obtain ⟨AS, eS, hvS, hdS⟩ := DidG.of oS (by have := canOf_len x0 x1 x2; omega)
  subst hvS
  rw [← HOUT.out] at hdS
  have SG := Lib.hid hdS
  clear oS hdS
  rw [← HOUT.out]
  have P0 := Lib.hid (P0.out.later hb)
  have P1 := Lib.hid (P1.out.later hb)
  have Fa0 := Lib.hid (Fa0.out.later hb)
  have Fa1 := Lib.hid (Fa1.out.later hb)
  have Ra21 := Lib.hid (Ra21.out.later hb)
  have Ra22 := Lib.hid (Ra22.out.later hb)
  have Ra23 := Lib.hid (Ra23.out.later hb)
  have Ra24 := Lib.hid (Ra24.out.later hb)
  have B := Lib.hid (B.out.trans (hb.mono B.out.size))
  have zw7 := hb.size
  have SF : Hid ((fun V : World => V.cell? ⟨w.heap.size, 0, none⟩ = some (.int .i64 x0.places) ∧ V.cell? ⟨w.heap.size, 1, none⟩ = some (.slice A0 x0.tasks.length c0) ∧ V.cell? ⟨w.heap.size + 1, 0, none⟩ = some (.int .i64 x2.state) ∧ V.cell? ⟨w.heap.size + 1, 1, none⟩ = some (.slice A21 x2.marks.length c21) ∧ V.cell? ⟨w.heap.size + 1, 2, none⟩ = some (.slice A22 x2.busy.length c22) ∧ V.cell? ⟨w.heap.size + 1, 3, none⟩ = some (.slice A23 x2.data.length c23) ∧ V.cell? ⟨w.heap.size + 1, 4, none⟩ = some (.slice A24 x2.did.length c24)) w7) := ⟨P0.out.cell 0, P0.out.cell 1, P1.out.cell 0, P1.out.cell 1, P1.out.cell 2, P1.out.cell 3, P1.out.cell 4⟩
  clear hb
  refine hK.out _ _ SF.out (fun hHeld => ?_)
  clear hK K
  refine wpAnyH_take (i := 7) (v := ?_) rfl (by kernel_rfl) (by kernel_rfl) (by kernel_rfl) (fun _ _ _ h => h) (Or.inl ⟨by rfl, ?_⟩) (by assumption) ?_
  rotate_left
  · intro V hSw
    (try dsimp only at hSw)
    go_simp
    (try with_reducible rfl)
  simp only [List.getElem_toArray, List.getElem_cons_succ, List.getElem_cons_zero, Act.put, List.setIfInBounds_toArray, List.set_cons_zero, List.set_cons_succ]
  refine wpAnyH_done (by kernel_rfl) ?_ _
  clear hHeld
  clear Fa0 Fa1 Ra21 Ra22 Ra23 Ra24
  have I0 := Lib.hid (WantD.of SG.out)
  clear SG
  have kP0 := fun i => P0.out.cell i
  have kP1 := fun i => P1.out.cell i
  go_wp2_with fail
  clear kP0 kP1
  refine (laws_toNetNet x0 A0 c0 none _ (HN0.out.later B.out) tl0 TS0.out).mono ?_
  rintro e w8 ⟨gp0, hgp0, rfl, hFp0, hb⟩
  have Fp0 := Lib.hid hFp0
  have Hp0 := Lib.hid (NetHeld.of_filled hFp0 hgp0)
  clear hFp0 hgp0
  have P0 := Lib.hid (P0.out.later hb)
  have P1 := Lib.hid (P1.out.later hb)
  have I0 := Lib.hid (I0.out.later hb)
  have B := Lib.hid (B.out.trans (hb.mono B.out.size))
  have zw8 := hb.size
  clear hb
  have jP0 := fun o i => (P0.out.alloc o).cell i
  have jP1 := fun o i => (P1.out.alloc o).cell i
  have kP0 := fun i => P0.out.cell i
  have kP1 := fun i => P1.out.cell i
  go_wp2_with fail
  clear kP0 kP1
  clear jP0 jP1
  refine callsAt fun w9 hW => ?_
  have hb : Below w8.heap.size w8 w9 := by rw [hW]; exact (Below.refl _ _).alloc (Nat.le_refl _) _
  have P0 := Lib.hid (P0.out.later hb)
  have P1 := Lib.hid (P1.out.later hb)
  have I0 := Lib.hid (I0.out.later hb)
  have Fp0 := Lib.hid (Fp0.out.later hb)
  have Hp0 := Lib.hid (Hp0.out.later hb)
  have B := Lib.hid (B.out.trans (hb.mono B.out.size))
  have zw9 := hb.size
  have X0 : Hid (Bk w9 w8.heap.size 36 #[.int .i64 x0.places, .slice (some ⟨gp0, 0, none⟩) x0.tasks.length x0.tasks.length]) := by show Bk _ _ _ _; rw [hW]; exact Bk.new rfl
  have yX0 := X0.out.lt
  clear hW hb
  refine (laws_toIntS A1 c1 x1 _ w.heap.size B.out.size (HN1.out.below B.out) tl1).mono ?_
  rintro e w10 ⟨rfl, hw, hb⟩
  have Fp1 := Lib.hid hw
  have Hp1 := Lib.hid (IntHeld.ints (lo := w9.heap.size) hw (by omega) (Nat.le_refl _))
  clear hw
  have P0 := Lib.hid (P0.out.later hb)
  have P1 := Lib.hid (P1.out.later hb)
  have X0 := Lib.hid (X0.out.later hb)
  have I0 := Lib.hid (I0.out.later hb)
  have Fp0 := Lib.hid (Fp0.out.later hb)
  have Hp0 := Lib.hid (Hp0.out.later hb)
  have B := Lib.hid (B.out.trans (hb.mono B.out.size))
  have zw10 := hb.size
  clear hb
  have kP0 := fun i => P0.out.cell i
  have kP1 := fun i => P1.out.cell i
  have kX0 := fun i => X0.out.cell i
  go_wp2_with fail
  clear kP0 kP1 kX0
  refine (laws_toCasCase x2 _ _ _ _ _ _ _ _ none _ (HC21.out.later B.out) (HC22.out.later B.out) (HC23.out.later B.out) (HC24.out.later B.out) L21 L22 L23 L24).mono ?_
  rintro e w11 ⟨ctp2, rfl, ⟨Dp21, dp21, Dp22, dp22, Dp23, dp23, Dp24, dp24, rfl, hRp21, hRp22, hRp23, hRp24⟩, hb⟩
  have Rp21 := Lib.hid hRp21
  have Rp22 := Lib.hid hRp22
  have Rp23 := Lib.hid hRp23
  have Rp24 := Lib.hid hRp24
  have Qp21 : Hid (HeldC intC _ _ Dp21 x2.marks _) := Lib.hid (show HeldC _ _ _ _ _ _ from ⟨Nat.le_refl _, hRp21⟩)
  have Qp22 : Hid (HeldC itemC _ _ Dp22 x2.busy _) := Lib.hid (show HeldC _ _ _ _ _ _ from ⟨Nat.le_refl _, hRp22⟩)
  have Qp23 : Hid (HeldC intC _ _ Dp23 x2.data _) := Lib.hid (show HeldC _ _ _ _ _ _ from ⟨Nat.le_refl _, hRp23⟩)
  have Qp24 : Hid (HeldC didC _ _ Dp24 x2.did _) := Lib.hid (show HeldC _ _ _ _ _ _ from ⟨Nat.le_refl _, hRp24⟩)
  clear hRp21 hRp22 hRp23 hRp24
  have P0 := Lib.hid (P0.out.later hb)
  have P1 := Lib.hid (P1.out.later hb)
  have X0 := Lib.hid (X0.out.later hb)
  have I0 := Lib.hid (I0.out.later hb)
  have Fp0 := Lib.hid (Fp0.out.later hb)
  have Hp0 := Lib.hid (Hp0.out.later hb)
  have Fp1 := Lib.hid (Fp1.out.later hb)
  have Hp1 := Lib.hid (Hp1.out.later hb)
  have B := Lib.hid (B.out.trans (hb.mono B.out.size))
  have zw11 := hb.size
  clear hb
  have jP0 := fun o i => (P0.out.alloc o).cell i
  have jP1 := fun o i => (P1.out.alloc o).cell i
  have jX0 := fun o i => (X0.out.alloc o).cell i
  have kP0 := fun i => P0.out.cell i
  have kP1 := fun i => P1.out.cell i
  have kX0 := fun i => X0.out.cell i
  go_wp2_with fail
  clear kP0 kP1 kX0
  clear jP0 jP1 jX0
  refine callsAt fun w12 hW => ?_
  have hb : Below w11.heap.size w11 w12 := by rw [hW]; exact (Below.refl _ _).alloc (Nat.le_refl _) _
  have P0 := Lib.hid (P0.out.later hb)
  have P1 := Lib.hid (P1.out.later hb)
  have X0 := Lib.hid (X0.out.later hb)
  have I0 := Lib.hid (I0.out.later hb)
  have Fp0 := Lib.hid (Fp0.out.later hb)
  have Hp0 := Lib.hid (Hp0.out.later hb)
  have Fp1 := Lib.hid (Fp1.out.later hb)
  have Hp1 := Lib.hid (Hp1.out.later hb)
  have Rp21 := Lib.hid (Rp21.out.later hb)
  have Rp22 := Lib.hid (Rp22.out.later hb)
  have Rp23 := Lib.hid (Rp23.out.later hb)
  have Rp24 := Lib.hid (Rp24.out.later hb)
  have Qp21 := Lib.hid (Qp21.out.later hb)
  have Qp22 := Lib.hid (Qp22.out.later hb)
  have Qp23 := Lib.hid (Qp23.out.later hb)
  have Qp24 := Lib.hid (Qp24.out.later hb)
  have B := Lib.hid (B.out.trans (hb.mono B.out.size))
  have zw12 := hb.size
  have X2 : Hid (Bk w12 w11.heap.size 41 #[.int .i64 x2.state, .slice Dp21 x2.marks.length dp21, .slice Dp22 x2.busy.length dp22, .slice Dp23 x2.data.length dp23, .slice Dp24 x2.did.length dp24]) := by show Bk _ _ _ _; rw [hW]; exact Bk.new rfl
  have yX2 := X2.out.lt
  clear hW hb
  refine (impl_CasCan x0 _ _ _ _ x1 x2 _ _ _ _ _ _ _ _ _ _ _ (MadeN.rows Fp0.out tl0) (Fp1.out.ints Fp1.out.lt (by omega)) Rp21.out Rp22.out Rp23.out Rp24.out).mono ?_
  rintro e w13 ⟨vG, rfl, oG, hb⟩
  obtain ⟨AG, eG, hvG, hdG⟩ := DidG.of oG (by have := canOf_len x0 x1 x2; omega)
  subst hvG
  rw [← HOUT.out] at hdG
  have GG := Lib.hid hdG
  clear oG hdG
  rw [← HOUT.out]
  have P0 := Lib.hid (P0.out.later hb)
  have P1 := Lib.hid (P1.out.later hb)
  have X0 := Lib.hid (X0.out.later hb)
  have X2 := Lib.hid (X2.out.later hb)
  have I0 := Lib.hid (I0.out.later hb)
  have Fp0 := Lib.hid (Fp0.out.later hb)
  have Hp0 := Lib.hid (Hp0.out.later hb)
  have Fp1 := Lib.hid (Fp1.out.later hb)
  have Hp1 := Lib.hid (Hp1.out.later hb)
  have Rp21 := Lib.hid (Rp21.out.later hb)
  have Rp22 := Lib.hid (Rp22.out.later hb)
  have Rp23 := Lib.hid (Rp23.out.later hb)
  have Rp24 := Lib.hid (Rp24.out.later hb)
  have Qp21 := Lib.hid (Qp21.out.later hb)
  have Qp22 := Lib.hid (Qp22.out.later hb)
  have Qp23 := Lib.hid (Qp23.out.later hb)
  have Qp24 := Lib.hid (Qp24.out.later hb)
  have B := Lib.hid (B.out.trans (hb.mono B.out.size))
  have zw13 := hb.size
  clear hb
  have kP0 := fun i => P0.out.cell i
  have kP1 := fun i => P1.out.cell i
  have kX0 := fun i => X0.out.cell i
  have kX2 := fun i => X2.out.cell i
  go_wp2_with fail
  clear kP0 kP1 kX0 kX2
  refine (laws_eqCasDidS _ _ _ _ out _ _ _ GG.out.rows I0.out.rows).mono ?_
  rintro e w14 ⟨rfl, hb⟩
  have P0 := Lib.hid (P0.out.later hb)
  have P1 := Lib.hid (P1.out.later hb)
  have X0 := Lib.hid (X0.out.later hb)
  have X2 := Lib.hid (X2.out.later hb)
  have I0 := Lib.hid (I0.out.later hb)
  have Fp0 := Lib.hid (Fp0.out.later hb)
  have Hp0 := Lib.hid (Hp0.out.later hb)
  have Fp1 := Lib.hid (Fp1.out.later hb)
  have Hp1 := Lib.hid (Hp1.out.later hb)
  have Rp21 := Lib.hid (Rp21.out.later hb)
  have Rp22 := Lib.hid (Rp22.out.later hb)
  have Rp23 := Lib.hid (Rp23.out.later hb)
  have Rp24 := Lib.hid (Rp24.out.later hb)
  have Qp21 := Lib.hid (Qp21.out.later hb)
  have Qp22 := Lib.hid (Qp22.out.later hb)
  have Qp23 := Lib.hid (Qp23.out.later hb)
  have Qp24 := Lib.hid (Qp24.out.later hb)
  have GG := Lib.hid (GG.out.later hb)
  have B := Lib.hid (B.out.trans (hb.mono B.out.size))
  have zw14 := hb.size
  clear hb
  have kP0 := fun i => P0.out.cell i
  have kP1 := fun i => P1.out.cell i
  have kX0 := fun i => X0.out.cell i
  have kX2 := fun i => X2.out.cell i
  go_wp2
  clear kP0 kP1 kX0 kX2
  have hdr := fun V : World => (Below.refl V.heap.size V).drew
  refine wp_region_held_drew (S := (fun V : World => V.cell? ⟨w.heap.size, 0, none⟩ = some (.int .i64 x0.places) ∧ V.cell? ⟨w.heap.size, 1, none⟩ = some (.slice A0 x0.tasks.length c0) ∧ V.cell? ⟨w.heap.size + 1, 0, none⟩ = some (.int .i64 x2.state) ∧ V.cell? ⟨w.heap.size + 1, 1, none⟩ = some (.slice A21 x2.marks.length c21) ∧ V.cell? ⟨w.heap.size + 1, 2, none⟩ = some (.slice A22 x2.busy.length c22) ∧ V.cell? ⟨w.heap.size + 1, 3, none⟩ = some (.slice A23 x2.data.length c23) ∧ V.cell? ⟨w.heap.size + 1, 4, none⟩ = some (.slice A24 x2.did.length c24) ∧ V.cell? ⟨w8.heap.size, 0, none⟩ = some (.int .i64 x0.places) ∧ V.cell? ⟨w8.heap.size, 1, none⟩ = some (.slice (some ⟨gp0, 0, none⟩) x0.tasks.length x0.tasks.length) ∧ V.cell? ⟨w11.heap.size, 0, none⟩ = some (.int .i64 x2.state) ∧ V.cell? ⟨w11.heap.size, 1, none⟩ = some (.slice Dp21 x2.marks.length dp21) ∧ V.cell? ⟨w11.heap.size, 2, none⟩ = some (.slice Dp22 x2.busy.length dp22) ∧ V.cell? ⟨w11.heap.size, 3, none⟩ = some (.slice Dp23 x2.data.length dp23) ∧ V.cell? ⟨w11.heap.size, 4, none⟩ = some (.slice Dp24 x2.did.length dp24))) (by kernel_rfl) ⟨P0.out.cell 0, P0.out.cell 1, P1.out.cell 0, P1.out.cell 1, P1.out.cell 2, P1.out.cell 3, P1.out.cell 4, X0.out.cell 0, X0.out.cell 1, X2.out.cell 0, X2.out.cell 1, X2.out.cell 2, X2.out.cell 3, X2.out.cell 4⟩ (fun hHeld => ?_)
  have hb := hdr w14
  generalize w14.drew = w15 at hb hHeld ⊢
  have P0 := Lib.hid (P0.out.later hb)
  have P1 := Lib.hid (P1.out.later hb)
  have X0 := Lib.hid (X0.out.later hb)
  have X2 := Lib.hid (X2.out.later hb)
  have I0 := Lib.hid (I0.out.later hb)
  have Fp0 := Lib.hid (Fp0.out.later hb)
  have Hp0 := Lib.hid (Hp0.out.later hb)
  have Fp1 := Lib.hid (Fp1.out.later hb)
  have Hp1 := Lib.hid (Hp1.out.later hb)
  have Rp21 := Lib.hid (Rp21.out.later hb)
  have Rp22 := Lib.hid (Rp22.out.later hb)
  have Rp23 := Lib.hid (Rp23.out.later hb)
  have Rp24 := Lib.hid (Rp24.out.later hb)
  have Qp21 := Lib.hid (Qp21.out.later hb)
  have Qp22 := Lib.hid (Qp22.out.later hb)
  have Qp23 := Lib.hid (Qp23.out.later hb)
  have Qp24 := Lib.hid (Qp24.out.later hb)
  have GG := Lib.hid (GG.out.later hb)
  have B := Lib.hid (B.out.trans (hb.mono B.out.size))
  have zw15 := hb.size
  clear hdr hb
  refine wpAnyH_take (i := 0) (v := ?_) rfl (by kernel_rfl) (by kernel_rfl) (by kernel_rfl) (fun _ _ _ h => h) (Or.inl ⟨by rfl, ?_⟩) (by assumption) ?_
  rotate_left
  · intro V hSw
    (try dsimp only at hSw)
    go_simp
    (try with_reducible rfl)
  simp only [List.getElem_toArray, List.getElem_cons_succ, List.getElem_cons_zero, Act.put, List.setIfInBounds_toArray, List.set_cons_zero, List.set_cons_succ]
  refine wpAnyH_take (i := 1) (v := ?_) rfl (by kernel_rfl) (by kernel_rfl) (by kernel_rfl) (fun _ _ _ h => h) (Or.inl ⟨by rfl, ?_⟩) (by assumption) ?_
  rotate_left
  · intro V hSw
    (try dsimp only at hSw)
    go_simp
    (try with_reducible rfl)
  simp only [List.getElem_toArray, List.getElem_cons_succ, List.getElem_cons_zero, Act.put, List.setIfInBounds_toArray, List.set_cons_zero, List.set_cons_succ]
  refine wpAnyH_ready (rs := [2]) (by kernel_rfl) (by simp) ?_
  refine AllReadyH.cons rfl (fun K hK => ?_) ?_
  rotate_left
  · exact AllReadyH.nil
  go_simp
  go_wp2_with (go_at_call 7; refine (laws_toNetNet x0 A0 c0 none _ (HN0.out.later B.out) tl0 TS0.out).mono ?_; rintro e w16 ⟨gz0, hgz0, rfl, hFz0, hb⟩)
  have Fz0 := Lib.hid hFz0
  clear hFz0 hgz0
  have P0 := Lib.hid (P0.out.later hb)
  have P1 := Lib.hid (P1.out.later hb)
  have X0 := Lib.hid (X0.out.later hb)
  have X2 := Lib.hid (X2.out.later hb)
  have I0 := Lib.hid (I0.out.later hb)
  have Fp0 := Lib.hid (Fp0.out.later hb)
  have Hp0 := Lib.hid (Hp0.out.later hb)
  have Fp1 := Lib.hid (Fp1.out.later hb)
  have Hp1 := Lib.hid (Hp1.out.later hb)
  have Rp21 := Lib.hid (Rp21.out.later hb)
  have Rp22 := Lib.hid (Rp22.out.later hb)
  have Rp23 := Lib.hid (Rp23.out.later hb)
  have Rp24 := Lib.hid (Rp24.out.later hb)
  have Qp21 := Lib.hid (Qp21.out.later hb)
  have Qp22 := Lib.hid (Qp22.out.later hb)
  have Qp23 := Lib.hid (Qp23.out.later hb)
  have Qp24 := Lib.hid (Qp24.out.later hb)
  have GG := Lib.hid (GG.out.later hb)
  have B := Lib.hid (B.out.trans (hb.mono B.out.size))
  have zw16 := hb.size
  have SF : Hid ((fun V : World => V.cell? ⟨w.heap.size, 0, none⟩ = some (.int .i64 x0.places) ∧ V.cell? ⟨w.heap.size, 1, none⟩ = some (.slice A0 x0.tasks.length c0) ∧ V.cell? ⟨w.heap.size + 1, 0, none⟩ = some (.int .i64 x2.state) ∧ V.cell? ⟨w.heap.size + 1, 1, none⟩ = some (.slice A21 x2.marks.length c21) ∧ V.cell? ⟨w.heap.size + 1, 2, none⟩ = some (.slice A22 x2.busy.length c22) ∧ V.cell? ⟨w.heap.size + 1, 3, none⟩ = some (.slice A23 x2.data.length c23) ∧ V.cell? ⟨w.heap.size + 1, 4, none⟩ = some (.slice A24 x2.did.length c24) ∧ V.cell? ⟨w8.heap.size, 0, none⟩ = some (.int .i64 x0.places) ∧ V.cell? ⟨w8.heap.size, 1, none⟩ = some (.slice (some ⟨gp0, 0, none⟩) x0.tasks.length x0.tasks.length) ∧ V.cell? ⟨w11.heap.size, 0, none⟩ = some (.int .i64 x2.state) ∧ V.cell? ⟨w11.heap.size, 1, none⟩ = some (.slice Dp21 x2.marks.length dp21) ∧ V.cell? ⟨w11.heap.size, 2, none⟩ = some (.slice Dp22 x2.busy.length dp22) ∧ V.cell? ⟨w11.heap.size, 3, none⟩ = some (.slice Dp23 x2.data.length dp23) ∧ V.cell? ⟨w11.heap.size, 4, none⟩ = some (.slice Dp24 x2.did.length dp24)) w16) := ⟨P0.out.cell 0, P0.out.cell 1, P1.out.cell 0, P1.out.cell 1, P1.out.cell 2, P1.out.cell 3, P1.out.cell 4, X0.out.cell 0, X0.out.cell 1, X2.out.cell 0, X2.out.cell 1, X2.out.cell 2, X2.out.cell 3, X2.out.cell 4⟩
  clear hb
  refine hK.out _ _ SF.out (fun hHeld => ?_)
  clear hK K
  refine wpAnyH_ready (rs := [3]) (by kernel_rfl) (by simp) ?_
  refine AllReadyH.cons rfl (fun K hK => ?_) ?_
  rotate_left
  · exact AllReadyH.nil
  go_simp
  go_wp2_with (go_at_call 12; refine (laws_eqNetNet x0 _ _ _ _ _ _ _ (MadeN.rows Fp0.out tl0) (MadeN.rows Fz0.out tl0)).mono ?_; rintro e w17 ⟨rfl, hb⟩)
  have P0 := Lib.hid (P0.out.later hb)
  have P1 := Lib.hid (P1.out.later hb)
  have X0 := Lib.hid (X0.out.later hb)
  have X2 := Lib.hid (X2.out.later hb)
  have I0 := Lib.hid (I0.out.later hb)
  have Fp0 := Lib.hid (Fp0.out.later hb)
  have Hp0 := Lib.hid (Hp0.out.later hb)
  have Fp1 := Lib.hid (Fp1.out.later hb)
  have Hp1 := Lib.hid (Hp1.out.later hb)
  have Rp21 := Lib.hid (Rp21.out.later hb)
  have Rp22 := Lib.hid (Rp22.out.later hb)
  have Rp23 := Lib.hid (Rp23.out.later hb)
  have Rp24 := Lib.hid (Rp24.out.later hb)
  have Qp21 := Lib.hid (Qp21.out.later hb)
  have Qp22 := Lib.hid (Qp22.out.later hb)
  have Qp23 := Lib.hid (Qp23.out.later hb)
  have Qp24 := Lib.hid (Qp24.out.later hb)
  have GG := Lib.hid (GG.out.later hb)
  have Fz0 := Lib.hid (Fz0.out.later hb)
  have B := Lib.hid (B.out.trans (hb.mono B.out.size))
  have zw17 := hb.size
  have SF : Hid ((fun V : World => V.cell? ⟨w.heap.size, 0, none⟩ = some (.int .i64 x0.places) ∧ V.cell? ⟨w.heap.size, 1, none⟩ = some (.slice A0 x0.tasks.length c0) ∧ V.cell? ⟨w.heap.size + 1, 0, none⟩ = some (.int .i64 x2.state) ∧ V.cell? ⟨w.heap.size + 1, 1, none⟩ = some (.slice A21 x2.marks.length c21) ∧ V.cell? ⟨w.heap.size + 1, 2, none⟩ = some (.slice A22 x2.busy.length c22) ∧ V.cell? ⟨w.heap.size + 1, 3, none⟩ = some (.slice A23 x2.data.length c23) ∧ V.cell? ⟨w.heap.size + 1, 4, none⟩ = some (.slice A24 x2.did.length c24) ∧ V.cell? ⟨w8.heap.size, 0, none⟩ = some (.int .i64 x0.places) ∧ V.cell? ⟨w8.heap.size, 1, none⟩ = some (.slice (some ⟨gp0, 0, none⟩) x0.tasks.length x0.tasks.length) ∧ V.cell? ⟨w11.heap.size, 0, none⟩ = some (.int .i64 x2.state) ∧ V.cell? ⟨w11.heap.size, 1, none⟩ = some (.slice Dp21 x2.marks.length dp21) ∧ V.cell? ⟨w11.heap.size, 2, none⟩ = some (.slice Dp22 x2.busy.length dp22) ∧ V.cell? ⟨w11.heap.size, 3, none⟩ = some (.slice Dp23 x2.data.length dp23) ∧ V.cell? ⟨w11.heap.size, 4, none⟩ = some (.slice Dp24 x2.did.length dp24)) w17) := ⟨P0.out.cell 0, P0.out.cell 1, P1.out.cell 0, P1.out.cell 1, P1.out.cell 2, P1.out.cell 3, P1.out.cell 4, X0.out.cell 0, X0.out.cell 1, X2.out.cell 0, X2.out.cell 1, X2.out.cell 2, X2.out.cell 3, X2.out.cell 4⟩
  clear hb
  refine hK.out _ _ SF.out (fun hHeld => ?_)
  clear hK K
  refine wpAnyH_take (i := 4) (v := ?_) rfl (by kernel_rfl) (by kernel_rfl) (by kernel_rfl) (fun _ _ _ h => h) (Or.inl ⟨by rfl, ?_⟩) (by assumption) ?_
  rotate_left
  · intro V hSw
    (try dsimp only at hSw)
    go_simp
    (try with_reducible rfl)
  simp only [List.getElem_toArray, List.getElem_cons_succ, List.getElem_cons_zero, Act.put, List.setIfInBounds_toArray, List.set_cons_zero, List.set_cons_succ]
  refine wpAnyH_done (by kernel_rfl) ?_ _
  clear hHeld
  clear Fz0 Fp0
  have kP0 := fun i => P0.out.cell i
  have kP1 := fun i => P1.out.cell i
  have kX0 := fun i => X0.out.cell i
  have kX2 := fun i => X2.out.cell i
  go_wp2_with fail
  clear kP0 kP1 kX0 kX2
  refine (laws_toIntS A1 c1 x1 _ w.heap.size B.out.size (HN1.out.below B.out) tl1).mono ?_
  rintro e w18 ⟨rfl, hw, hb⟩
  have Fz1 := Lib.hid hw
  clear hw
  have P0 := Lib.hid (P0.out.later hb)
  have P1 := Lib.hid (P1.out.later hb)
  have X0 := Lib.hid (X0.out.later hb)
  have X2 := Lib.hid (X2.out.later hb)
  have I0 := Lib.hid (I0.out.later hb)
  have Hp0 := Lib.hid (Hp0.out.later hb)
  have Fp1 := Lib.hid (Fp1.out.later hb)
  have Hp1 := Lib.hid (Hp1.out.later hb)
  have Rp21 := Lib.hid (Rp21.out.later hb)
  have Rp22 := Lib.hid (Rp22.out.later hb)
  have Rp23 := Lib.hid (Rp23.out.later hb)
  have Rp24 := Lib.hid (Rp24.out.later hb)
  have Qp21 := Lib.hid (Qp21.out.later hb)
  have Qp22 := Lib.hid (Qp22.out.later hb)
  have Qp23 := Lib.hid (Qp23.out.later hb)
  have Qp24 := Lib.hid (Qp24.out.later hb)
  have GG := Lib.hid (GG.out.later hb)
  have B := Lib.hid (B.out.trans (hb.mono B.out.size))
  have zw18 := hb.size
  clear hb
  have kP0 := fun i => P0.out.cell i
  have kP1 := fun i => P1.out.cell i
  have kX0 := fun i => X0.out.cell i
  have kX2 := fun i => X2.out.cell i
  go_wp2_with fail
  clear kP0 kP1 kX0 kX2
  refine (laws_eqIntS _ _ _ _ x1 x1 _ w18.heap.size (Fp1.out.ints Fp1.out.lt (by omega)) (Fz1.out.ints Fz1.out.lt (by omega))).mono ?_
  rintro e _ ⟨rfl, qz1, rfl⟩
  have hb : Below w18.heap.size w18 (w18.drewN qz1) := bdN (Below.refl _ _) _
  generalize w18.drewN qz1 = w19 at hb ⊢
  have P0 := Lib.hid (P0.out.later hb)
  have P1 := Lib.hid (P1.out.later hb)
  have X0 := Lib.hid (X0.out.later hb)
  have X2 := Lib.hid (X2.out.later hb)
  have I0 := Lib.hid (I0.out.later hb)
  have Hp0 := Lib.hid (Hp0.out.later hb)
  have Fp1 := Lib.hid (Fp1.out.later hb)
  have Hp1 := Lib.hid (Hp1.out.later hb)
  have Rp21 := Lib.hid (Rp21.out.later hb)
  have Rp22 := Lib.hid (Rp22.out.later hb)
  have Rp23 := Lib.hid (Rp23.out.later hb)
  have Rp24 := Lib.hid (Rp24.out.later hb)
  have Qp21 := Lib.hid (Qp21.out.later hb)
  have Qp22 := Lib.hid (Qp22.out.later hb)
  have Qp23 := Lib.hid (Qp23.out.later hb)
  have Qp24 := Lib.hid (Qp24.out.later hb)
  have GG := Lib.hid (GG.out.later hb)
  have Fz1 := Lib.hid (Fz1.out.later hb)
  have B := Lib.hid (B.out.trans (hb.mono B.out.size))
  have zw19 := hb.size
  clear hb
  clear Fz1 Fp1
  have kP0 := fun i => P0.out.cell i
  have kP1 := fun i => P1.out.cell i
  have kX0 := fun i => X0.out.cell i
  have kX2 := fun i => X2.out.cell i
  go_wp2
  clear kP0 kP1 kX0 kX2
  have hdr := fun V : World => (Below.refl V.heap.size V).drew
  refine wp_region_held_drew (S := (fun V : World => V.cell? ⟨w.heap.size, 0, none⟩ = some (.int .i64 x0.places) ∧ V.cell? ⟨w.heap.size, 1, none⟩ = some (.slice A0 x0.tasks.length c0) ∧ V.cell? ⟨w.heap.size + 1, 0, none⟩ = some (.int .i64 x2.state) ∧ V.cell? ⟨w.heap.size + 1, 1, none⟩ = some (.slice A21 x2.marks.length c21) ∧ V.cell? ⟨w.heap.size + 1, 2, none⟩ = some (.slice A22 x2.busy.length c22) ∧ V.cell? ⟨w.heap.size + 1, 3, none⟩ = some (.slice A23 x2.data.length c23) ∧ V.cell? ⟨w.heap.size + 1, 4, none⟩ = some (.slice A24 x2.did.length c24) ∧ V.cell? ⟨w8.heap.size, 0, none⟩ = some (.int .i64 x0.places) ∧ V.cell? ⟨w8.heap.size, 1, none⟩ = some (.slice (some ⟨gp0, 0, none⟩) x0.tasks.length x0.tasks.length) ∧ V.cell? ⟨w11.heap.size, 0, none⟩ = some (.int .i64 x2.state) ∧ V.cell? ⟨w11.heap.size, 1, none⟩ = some (.slice Dp21 x2.marks.length dp21) ∧ V.cell? ⟨w11.heap.size, 2, none⟩ = some (.slice Dp22 x2.busy.length dp22) ∧ V.cell? ⟨w11.heap.size, 3, none⟩ = some (.slice Dp23 x2.data.length dp23) ∧ V.cell? ⟨w11.heap.size, 4, none⟩ = some (.slice Dp24 x2.did.length dp24))) (by kernel_rfl) ⟨P0.out.cell 0, P0.out.cell 1, P1.out.cell 0, P1.out.cell 1, P1.out.cell 2, P1.out.cell 3, P1.out.cell 4, X0.out.cell 0, X0.out.cell 1, X2.out.cell 0, X2.out.cell 1, X2.out.cell 2, X2.out.cell 3, X2.out.cell 4⟩ (fun hHeld => ?_)
  have hb := hdr w19
  generalize w19.drew = w20 at hb hHeld ⊢
  have P0 := Lib.hid (P0.out.later hb)
  have P1 := Lib.hid (P1.out.later hb)
  have X0 := Lib.hid (X0.out.later hb)
  have X2 := Lib.hid (X2.out.later hb)
  have I0 := Lib.hid (I0.out.later hb)
  have Hp0 := Lib.hid (Hp0.out.later hb)
  have Hp1 := Lib.hid (Hp1.out.later hb)
  have Rp21 := Lib.hid (Rp21.out.later hb)
  have Rp22 := Lib.hid (Rp22.out.later hb)
  have Rp23 := Lib.hid (Rp23.out.later hb)
  have Rp24 := Lib.hid (Rp24.out.later hb)
  have Qp21 := Lib.hid (Qp21.out.later hb)
  have Qp22 := Lib.hid (Qp22.out.later hb)
  have Qp23 := Lib.hid (Qp23.out.later hb)
  have Qp24 := Lib.hid (Qp24.out.later hb)
  have GG := Lib.hid (GG.out.later hb)
  have B := Lib.hid (B.out.trans (hb.mono B.out.size))
  have zw20 := hb.size
  clear hdr hb
  refine wpAnyH_take (i := 0) (v := ?_) rfl (by kernel_rfl) (by kernel_rfl) (by kernel_rfl) (fun _ _ _ h => h) (Or.inl ⟨by rfl, ?_⟩) (by assumption) ?_
  rotate_left
  · intro V hSw
    (try dsimp only at hSw)
    go_simp
    (try with_reducible rfl)
  simp only [List.getElem_toArray, List.getElem_cons_succ, List.getElem_cons_zero, Act.put, List.setIfInBounds_toArray, List.set_cons_zero, List.set_cons_succ]
  refine wpAnyH_take (i := 1) (v := ?_) rfl (by kernel_rfl) (by kernel_rfl) (by kernel_rfl) (fun _ _ _ h => h) (Or.inl ⟨by rfl, ?_⟩) (by assumption) ?_
  rotate_left
  · intro V hSw
    (try dsimp only at hSw)
    go_simp
    (try with_reducible rfl)
  simp only [List.getElem_toArray, List.getElem_cons_succ, List.getElem_cons_zero, Act.put, List.setIfInBounds_toArray, List.set_cons_zero, List.set_cons_succ]
  refine wpAnyH_ready (rs := [2]) (by kernel_rfl) (by simp) ?_
  refine AllReadyH.cons rfl (fun K hK => ?_) ?_
  rotate_left
  · exact AllReadyH.nil
  go_simp
  go_wp2_with (go_at_call 9; refine (laws_toCasCase x2 _ _ _ _ _ _ _ _ none _ (HC21.out.later B.out) (HC22.out.later B.out) (HC23.out.later B.out) (HC24.out.later B.out) L21 L22 L23 L24).mono ?_; rintro e w21 ⟨ctz2, rfl, ⟨Dz21, dz21, Dz22, dz22, Dz23, dz23, Dz24, dz24, rfl, hRz21, hRz22, hRz23, hRz24⟩, hb⟩)
  have Rz21 := Lib.hid hRz21
  have Rz22 := Lib.hid hRz22
  have Rz23 := Lib.hid hRz23
  have Rz24 := Lib.hid hRz24
  clear hRz21 hRz22 hRz23 hRz24
  have P0 := Lib.hid (P0.out.later hb)
  have P1 := Lib.hid (P1.out.later hb)
  have X0 := Lib.hid (X0.out.later hb)
  have X2 := Lib.hid (X2.out.later hb)
  have I0 := Lib.hid (I0.out.later hb)
  have Hp0 := Lib.hid (Hp0.out.later hb)
  have Hp1 := Lib.hid (Hp1.out.later hb)
  have Rp21 := Lib.hid (Rp21.out.later hb)
  have Rp22 := Lib.hid (Rp22.out.later hb)
  have Rp23 := Lib.hid (Rp23.out.later hb)
  have Rp24 := Lib.hid (Rp24.out.later hb)
  have Qp21 := Lib.hid (Qp21.out.later hb)
  have Qp22 := Lib.hid (Qp22.out.later hb)
  have Qp23 := Lib.hid (Qp23.out.later hb)
  have Qp24 := Lib.hid (Qp24.out.later hb)
  have GG := Lib.hid (GG.out.later hb)
  have B := Lib.hid (B.out.trans (hb.mono B.out.size))
  have zw21 := hb.size
  have SF : Hid ((fun V : World => V.cell? ⟨w.heap.size, 0, none⟩ = some (.int .i64 x0.places) ∧ V.cell? ⟨w.heap.size, 1, none⟩ = some (.slice A0 x0.tasks.length c0) ∧ V.cell? ⟨w.heap.size + 1, 0, none⟩ = some (.int .i64 x2.state) ∧ V.cell? ⟨w.heap.size + 1, 1, none⟩ = some (.slice A21 x2.marks.length c21) ∧ V.cell? ⟨w.heap.size + 1, 2, none⟩ = some (.slice A22 x2.busy.length c22) ∧ V.cell? ⟨w.heap.size + 1, 3, none⟩ = some (.slice A23 x2.data.length c23) ∧ V.cell? ⟨w.heap.size + 1, 4, none⟩ = some (.slice A24 x2.did.length c24) ∧ V.cell? ⟨w8.heap.size, 0, none⟩ = some (.int .i64 x0.places) ∧ V.cell? ⟨w8.heap.size, 1, none⟩ = some (.slice (some ⟨gp0, 0, none⟩) x0.tasks.length x0.tasks.length) ∧ V.cell? ⟨w11.heap.size, 0, none⟩ = some (.int .i64 x2.state) ∧ V.cell? ⟨w11.heap.size, 1, none⟩ = some (.slice Dp21 x2.marks.length dp21) ∧ V.cell? ⟨w11.heap.size, 2, none⟩ = some (.slice Dp22 x2.busy.length dp22) ∧ V.cell? ⟨w11.heap.size, 3, none⟩ = some (.slice Dp23 x2.data.length dp23) ∧ V.cell? ⟨w11.heap.size, 4, none⟩ = some (.slice Dp24 x2.did.length dp24)) w21) := ⟨P0.out.cell 0, P0.out.cell 1, P1.out.cell 0, P1.out.cell 1, P1.out.cell 2, P1.out.cell 3, P1.out.cell 4, X0.out.cell 0, X0.out.cell 1, X2.out.cell 0, X2.out.cell 1, X2.out.cell 2, X2.out.cell 3, X2.out.cell 4⟩
  clear hb
  refine hK.out _ _ SF.out (fun hHeld => ?_)
  clear hK K
  refine wpAnyH_ready (rs := [3]) (by kernel_rfl) (by simp) ?_
  refine AllReadyH.cons rfl (fun K hK => ?_) ?_
  rotate_left
  · exact AllReadyH.nil
  go_simp
  go_wp2_with (go_at_call 14; refine (laws_eqCasCase x2 _ _ _ _ _ _ _ _ _ _ _ _ _ _ _ _ _ _ _ Rp21.out Rz21.out Rp22.out Rz22.out Rp23.out Rz23.out Rp24.out Rz24.out).mono ?_; rintro e w22 ⟨rfl, hb⟩)
  have P0 := Lib.hid (P0.out.later hb)
  have P1 := Lib.hid (P1.out.later hb)
  have X0 := Lib.hid (X0.out.later hb)
  have X2 := Lib.hid (X2.out.later hb)
  have I0 := Lib.hid (I0.out.later hb)
  have Hp0 := Lib.hid (Hp0.out.later hb)
  have Hp1 := Lib.hid (Hp1.out.later hb)
  have Rp21 := Lib.hid (Rp21.out.later hb)
  have Rp22 := Lib.hid (Rp22.out.later hb)
  have Rp23 := Lib.hid (Rp23.out.later hb)
  have Rp24 := Lib.hid (Rp24.out.later hb)
  have Qp21 := Lib.hid (Qp21.out.later hb)
  have Qp22 := Lib.hid (Qp22.out.later hb)
  have Qp23 := Lib.hid (Qp23.out.later hb)
  have Qp24 := Lib.hid (Qp24.out.later hb)
  have GG := Lib.hid (GG.out.later hb)
  have Rz21 := Lib.hid (Rz21.out.later hb)
  have Rz22 := Lib.hid (Rz22.out.later hb)
  have Rz23 := Lib.hid (Rz23.out.later hb)
  have Rz24 := Lib.hid (Rz24.out.later hb)
  have B := Lib.hid (B.out.trans (hb.mono B.out.size))
  have zw22 := hb.size
  have SF : Hid ((fun V : World => V.cell? ⟨w.heap.size, 0, none⟩ = some (.int .i64 x0.places) ∧ V.cell? ⟨w.heap.size, 1, none⟩ = some (.slice A0 x0.tasks.length c0) ∧ V.cell? ⟨w.heap.size + 1, 0, none⟩ = some (.int .i64 x2.state) ∧ V.cell? ⟨w.heap.size + 1, 1, none⟩ = some (.slice A21 x2.marks.length c21) ∧ V.cell? ⟨w.heap.size + 1, 2, none⟩ = some (.slice A22 x2.busy.length c22) ∧ V.cell? ⟨w.heap.size + 1, 3, none⟩ = some (.slice A23 x2.data.length c23) ∧ V.cell? ⟨w.heap.size + 1, 4, none⟩ = some (.slice A24 x2.did.length c24) ∧ V.cell? ⟨w8.heap.size, 0, none⟩ = some (.int .i64 x0.places) ∧ V.cell? ⟨w8.heap.size, 1, none⟩ = some (.slice (some ⟨gp0, 0, none⟩) x0.tasks.length x0.tasks.length) ∧ V.cell? ⟨w11.heap.size, 0, none⟩ = some (.int .i64 x2.state) ∧ V.cell? ⟨w11.heap.size, 1, none⟩ = some (.slice Dp21 x2.marks.length dp21) ∧ V.cell? ⟨w11.heap.size, 2, none⟩ = some (.slice Dp22 x2.busy.length dp22) ∧ V.cell? ⟨w11.heap.size, 3, none⟩ = some (.slice Dp23 x2.data.length dp23) ∧ V.cell? ⟨w11.heap.size, 4, none⟩ = some (.slice Dp24 x2.did.length dp24)) w22) := ⟨P0.out.cell 0, P0.out.cell 1, P1.out.cell 0, P1.out.cell 1, P1.out.cell 2, P1.out.cell 3, P1.out.cell 4, X0.out.cell 0, X0.out.cell 1, X2.out.cell 0, X2.out.cell 1, X2.out.cell 2, X2.out.cell 3, X2.out.cell 4⟩
  clear hb
  refine hK.out _ _ SF.out (fun hHeld => ?_)
  clear hK K
  refine wpAnyH_take (i := 4) (v := ?_) rfl (by kernel_rfl) (by kernel_rfl) (by kernel_rfl) (fun _ _ _ h => h) (Or.inl ⟨by rfl, ?_⟩) (by assumption) ?_
  rotate_left
  · intro V hSw
    (try dsimp only at hSw)
    go_simp
    (try with_reducible rfl)
  simp only [List.getElem_toArray, List.getElem_cons_succ, List.getElem_cons_zero, Act.put, List.setIfInBounds_toArray, List.set_cons_zero, List.set_cons_succ]
  refine wpAnyH_done (by kernel_rfl) ?_ _
  clear hHeld
  clear Rz21 Rz22 Rz23 Rz24 Rp21 Rp22 Rp23 Rp24
  have kP0 := fun i => P0.out.cell i
  have kP1 := fun i => P1.out.cell i
  have kX0 := fun i => X0.out.cell i
  have kX2 := fun i => X2.out.cell i
  go_wp2_with fail
  clear kP0 kP1 kX0 kX2
  refine (laws_markNetNet gp0 _ x0 1 _ w7.heap.size w8.heap.size Hp0.out.2.2.2 Hp0.out.1 Hp0.out.2.1 Hp0.out.2.2.1 tl0 TS0.out (by omega) (by omega)).mono ?_
  rintro e w23 ⟨⟨mk, rfl, hm0, hm1⟩, in0, kk⟩
  have inG : InsideG w7.heap.size w8.heap.size w22 w23 := in0
  clear in0
  clear Hp0
  have P0 := Lib.hid (P0.out.inG inG (by omega))
  have P1 := Lib.hid (P1.out.inG inG (by omega))
  have X0 := Lib.hid (X0.out.inG inG (by omega))
  have X2 := Lib.hid (X2.out.inG inG (by omega))
  have I0 := Lib.hid (I0.out.inG inG (by omega))
  have Hp1 := Lib.hid (Hp1.out.kept inG.size kk)
  have Qp21 := Lib.hid (Qp21.out.inG inG (by omega))
  have Qp22 := Lib.hid (Qp22.out.inG inG (by omega))
  have Qp23 := Lib.hid (Qp23.out.inG inG (by omega))
  have Qp24 := Lib.hid (Qp24.out.inG inG (by omega))
  have GG := Lib.hid (GG.out.inG inG (by omega))
  have B := Lib.hid (B.out.trans (inG.below (by omega) B.out.size))
  have zw23 := inG.size
  clear inG
  clear kk
  have kP0 := fun i => P0.out.cell i
  have kP1 := fun i => P1.out.cell i
  have kX0 := fun i => X0.out.cell i
  have kX2 := fun i => X2.out.cell i
  go_wp2_with fail
  clear kP0 kP1 kX0 kX2
  refine (mark_ints _ _ x1.length _ _ w9.heap.size w10.heap.size Hp1.out.2 (by omega) (by omega) (by omega)).mono ?_
  rintro e w24 ⟨rfl, in0, kk⟩
  have inG : InsideG w9.heap.size w10.heap.size w23 w24 := InsideG.of in0
  clear in0
  clear Hp1
  have P0 := Lib.hid (P0.out.inG inG (by omega))
  have P1 := Lib.hid (P1.out.inG inG (by omega))
  have X0 := Lib.hid (X0.out.inG inG (by omega))
  have X2 := Lib.hid (X2.out.inG inG (by omega))
  have I0 := Lib.hid (I0.out.inG inG (by omega))
  have Qp21 := Lib.hid (Qp21.out.inG inG (by omega))
  have Qp22 := Lib.hid (Qp22.out.inG inG (by omega))
  have Qp23 := Lib.hid (Qp23.out.inG inG (by omega))
  have Qp24 := Lib.hid (Qp24.out.inG inG (by omega))
  have GG := Lib.hid (GG.out.inG inG (by omega))
  have B := Lib.hid (B.out.trans (inG.below (by omega) B.out.size))
  have zw24 := inG.size
  clear inG
  clear kk
  have kP0 := fun i => P0.out.cell i
  have kP1 := fun i => P1.out.cell i
  have kX0 := fun i => X0.out.cell i
  have kX2 := fun i => X2.out.cell i
  go_wp2_with fail
  clear kP0 kP1 kX0 kX2
  refine (laws_markCasCase x2 _ _ _ _ _ _ _ _ _ _ w10.heap.size w11.heap.size Qp21.out.1 Qp21.out.2 Qp22.out.2 Qp23.out.2 Qp24.out.2 L21 L22 L23 L24 (by omega) (by omega)).mono ?_
  rintro e w25 ⟨rfl, inG⟩
  have kk := True.intro
  clear Qp21 Qp22 Qp23 Qp24
  have P0 := Lib.hid (P0.out.inG inG (by omega))
  have P1 := Lib.hid (P1.out.inG inG (by omega))
  have X0 := Lib.hid (X0.out.inG inG (by omega))
  have X2 := Lib.hid (X2.out.inG inG (by omega))
  have I0 := Lib.hid (I0.out.inG inG (by omega))
  have GG := Lib.hid (GG.out.inG inG (by omega))
  have B := Lib.hid (B.out.trans (inG.below (by omega) B.out.size))
  have zw25 := inG.size
  clear inG
  clear kk
  have kP0 := fun i => P0.out.cell i
  have kP1 := fun i => P1.out.cell i
  have kX0 := fun i => X0.out.cell i
  have kX2 := fun i => X2.out.cell i
  go_wp2_with fail
  clear kP0 kP1 kX0 kX2
  refine (laws_eqCasDidS _ _ _ _ out _ _ _ GG.out.rows I0.out.rows).mono ?_
  rintro e w26 ⟨rfl, hb⟩
  have P0 := Lib.hid (P0.out.later hb)
  have P1 := Lib.hid (P1.out.later hb)
  have X0 := Lib.hid (X0.out.later hb)
  have X2 := Lib.hid (X2.out.later hb)
  have I0 := Lib.hid (I0.out.later hb)
  have GG := Lib.hid (GG.out.later hb)
  have B := Lib.hid (B.out.trans (hb.mono B.out.size))
  have zw26 := hb.size
  clear hb
  have kP0 := fun i => P0.out.cell i
  have kP1 := fun i => P1.out.cell i
  have kX0 := fun i => X0.out.cell i
  have kX2 := fun i => X2.out.cell i
  go_wp2_with fail
  clear kP0 kP1 kX0 kX2
  refine (mark_dids_own _ _ out.length (didInts out) 1 _ w12.heap.size w26.heap.size (didInts_len _) GG.out.1 (GG.out.hi) (by omega) (by omega) (by omega)).mono ?_
  rintro e w27 ⟨rfl, og, in0⟩
  have inG := InsideG.of in0
  have GM := Lib.hid og
  clear og in0
  clear GG
  have P0 := Lib.hid (P0.out.inG inG (by omega))
  have P1 := Lib.hid (P1.out.inG inG (by omega))
  have X0 := Lib.hid (X0.out.inG inG (by omega))
  have X2 := Lib.hid (X2.out.inG inG (by omega))
  have I0 := Lib.hid (I0.out.inG inG (by omega))
  have B := Lib.hid (B.out.trans (inG.below (by omega) B.out.size))
  have zw27 := inG.size
  clear inG
  have kP0 := fun i => P0.out.cell i
  have kP1 := fun i => P1.out.cell i
  have kX0 := fun i => X0.out.cell i
  have kX2 := fun i => X2.out.cell i
  go_wp2_with fail
  clear kP0 kP1 kX0 kX2
  refine (held_dids _ _ out.length 1 _ _ GM.out (by omega) (by omega) (by omega)).mono ?_
  rintro e w' ⟨rfl, rfl⟩
  have q0 : ¬ ((1 : Int) + out.length * 2 < 0) := by omega
  have kP0 := fun i => P0.out.cell i
  have kP1 := fun i => P1.out.cell i
  have kX0 := fun i => X0.out.cell i
  have kX2 := fun i => X2.out.cell i
  go_wp2
  clear kP0 kP1 kX0 kX2
  have hdr := fun V : World => (Below.refl V.heap.size V).drew
  refine wp_region_held_drew (S := (fun V : World => V.cell? ⟨w.heap.size, 0, none⟩ = some (.int .i64 x0.places) ∧ V.cell? ⟨w.heap.size, 1, none⟩ = some (.slice A0 x0.tasks.length c0) ∧ V.cell? ⟨w.heap.size + 1, 0, none⟩ = some (.int .i64 x2.state) ∧ V.cell? ⟨w.heap.size + 1, 1, none⟩ = some (.slice A21 x2.marks.length c21) ∧ V.cell? ⟨w.heap.size + 1, 2, none⟩ = some (.slice A22 x2.busy.length c22) ∧ V.cell? ⟨w.heap.size + 1, 3, none⟩ = some (.slice A23 x2.data.length c23) ∧ V.cell? ⟨w.heap.size + 1, 4, none⟩ = some (.slice A24 x2.did.length c24) ∧ V.cell? ⟨w8.heap.size, 0, none⟩ = some (.int .i64 x0.places) ∧ V.cell? ⟨w8.heap.size, 1, none⟩ = some (.slice (some ⟨gp0, 0, none⟩) x0.tasks.length x0.tasks.length) ∧ V.cell? ⟨w11.heap.size, 0, none⟩ = some (.int .i64 x2.state) ∧ V.cell? ⟨w11.heap.size, 1, none⟩ = some (.slice Dp21 x2.marks.length dp21) ∧ V.cell? ⟨w11.heap.size, 2, none⟩ = some (.slice Dp22 x2.busy.length dp22) ∧ V.cell? ⟨w11.heap.size, 3, none⟩ = some (.slice Dp23 x2.data.length dp23) ∧ V.cell? ⟨w11.heap.size, 4, none⟩ = some (.slice Dp24 x2.did.length dp24))) (by kernel_rfl) ⟨P0.out.cell 0, P0.out.cell 1, P1.out.cell 0, P1.out.cell 1, P1.out.cell 2, P1.out.cell 3, P1.out.cell 4, X0.out.cell 0, X0.out.cell 1, X2.out.cell 0, X2.out.cell 1, X2.out.cell 2, X2.out.cell 3, X2.out.cell 4⟩ (fun hHeld => ?_)
  have hb := hdr w27
  generalize w27.drew = w28 at hb hHeld ⊢
  have P0 := Lib.hid (P0.out.later hb)
  have P1 := Lib.hid (P1.out.later hb)
  have X0 := Lib.hid (X0.out.later hb)
  have X2 := Lib.hid (X2.out.later hb)
  have I0 := Lib.hid (I0.out.later hb)
  have GM := Lib.hid (GM.out.later hb)
  have B := Lib.hid (B.out.trans (hb.mono B.out.size))
  have zw28 := hb.size
  clear hdr hb
  refine wpAnyH_take (i := 0) (v := ?_) rfl (by kernel_rfl) (by kernel_rfl) (by kernel_rfl) (fun _ _ _ h => h) (Or.inl ⟨by rfl, ?_⟩) (by assumption) ?_
  rotate_left
  · intro V hSw
    (try dsimp only at hSw)
    go_simp
    (try with_reducible rfl)
  simp only [List.getElem_toArray, List.getElem_cons_succ, List.getElem_cons_zero, Act.put, List.setIfInBounds_toArray, List.set_cons_zero, List.set_cons_succ]
  refine wpAnyH_take (i := 2) (v := ?_) rfl (by kernel_rfl) (by kernel_rfl) (by kernel_rfl) (fun _ _ _ h => h) (Or.inl ⟨by rfl, ?_⟩) (by assumption) ?_
  rotate_left
  · intro V hSw
    (try dsimp only at hSw)
    go_simp
    (try with_reducible rfl)
  simp only [List.getElem_toArray, List.getElem_cons_succ, List.getElem_cons_zero, Act.put, List.setIfInBounds_toArray, List.set_cons_zero, List.set_cons_succ]
  refine wpAnyH_take (i := 4) (v := ?_) rfl (by kernel_rfl) (by kernel_rfl) (by kernel_rfl) (fun _ _ _ h => h) (Or.inl ⟨by rfl, ?_⟩) (by assumption) ?_
  rotate_left
  · intro V hSw
    (try dsimp only at hSw)
    go_simp
    (try with_reducible rfl)
  simp only [List.getElem_toArray, List.getElem_cons_succ, List.getElem_cons_zero, Act.put, List.setIfInBounds_toArray, List.set_cons_zero, List.set_cons_succ]
  refine wpAnyH_ready (rs := [1]) (by kernel_rfl) (by simp) ?_
  refine AllReadyH.cons rfl (fun K hK => ?_) ?_
  rotate_left
  · exact AllReadyH.nil
  go_simp
  go_wp2_with (go_at_call 7; refine (laws_toNetNet x0 A0 c0 none _ (HN0.out.later B.out) tl0 TS0.out).mono ?_; rintro e w29 ⟨gb0, hgb0, rfl, hFb0, hb⟩)
  have Fb0 := Lib.hid hFb0
  clear hFb0 hgb0
  have P0 := Lib.hid (P0.out.later hb)
  have P1 := Lib.hid (P1.out.later hb)
  have X0 := Lib.hid (X0.out.later hb)
  have X2 := Lib.hid (X2.out.later hb)
  have I0 := Lib.hid (I0.out.later hb)
  have GM := Lib.hid (GM.out.later hb)
  have B := Lib.hid (B.out.trans (hb.mono B.out.size))
  have zw29 := hb.size
  have SF : Hid ((fun V : World => V.cell? ⟨w.heap.size, 0, none⟩ = some (.int .i64 x0.places) ∧ V.cell? ⟨w.heap.size, 1, none⟩ = some (.slice A0 x0.tasks.length c0) ∧ V.cell? ⟨w.heap.size + 1, 0, none⟩ = some (.int .i64 x2.state) ∧ V.cell? ⟨w.heap.size + 1, 1, none⟩ = some (.slice A21 x2.marks.length c21) ∧ V.cell? ⟨w.heap.size + 1, 2, none⟩ = some (.slice A22 x2.busy.length c22) ∧ V.cell? ⟨w.heap.size + 1, 3, none⟩ = some (.slice A23 x2.data.length c23) ∧ V.cell? ⟨w.heap.size + 1, 4, none⟩ = some (.slice A24 x2.did.length c24) ∧ V.cell? ⟨w8.heap.size, 0, none⟩ = some (.int .i64 x0.places) ∧ V.cell? ⟨w8.heap.size, 1, none⟩ = some (.slice (some ⟨gp0, 0, none⟩) x0.tasks.length x0.tasks.length) ∧ V.cell? ⟨w11.heap.size, 0, none⟩ = some (.int .i64 x2.state) ∧ V.cell? ⟨w11.heap.size, 1, none⟩ = some (.slice Dp21 x2.marks.length dp21) ∧ V.cell? ⟨w11.heap.size, 2, none⟩ = some (.slice Dp22 x2.busy.length dp22) ∧ V.cell? ⟨w11.heap.size, 3, none⟩ = some (.slice Dp23 x2.data.length dp23) ∧ V.cell? ⟨w11.heap.size, 4, none⟩ = some (.slice Dp24 x2.did.length dp24)) w29) := ⟨P0.out.cell 0, P0.out.cell 1, P1.out.cell 0, P1.out.cell 1, P1.out.cell 2, P1.out.cell 3, P1.out.cell 4, X0.out.cell 0, X0.out.cell 1, X2.out.cell 0, X2.out.cell 1, X2.out.cell 2, X2.out.cell 3, X2.out.cell 4⟩
  clear hb
  refine hK.out _ _ SF.out (fun hHeld => ?_)
  clear hK K
  refine wpAnyH_ready (rs := [3]) (by kernel_rfl) (by simp) ?_
  refine AllReadyH.cons rfl (fun K hK => ?_) ?_
  rotate_left
  · exact AllReadyH.nil
  go_simp
  go_wp2_with (go_at_call 8; refine (laws_toIntS A1 c1 x1 _ w.heap.size B.out.size (HN1.out.below B.out) tl1).mono ?_; rintro e w30 ⟨rfl, hw, hb⟩)
  have Fb1 := Lib.hid hw
  clear hw
  have P0 := Lib.hid (P0.out.later hb)
  have P1 := Lib.hid (P1.out.later hb)
  have X0 := Lib.hid (X0.out.later hb)
  have X2 := Lib.hid (X2.out.later hb)
  have I0 := Lib.hid (I0.out.later hb)
  have GM := Lib.hid (GM.out.later hb)
  have Fb0 := Lib.hid (Fb0.out.later hb)
  have B := Lib.hid (B.out.trans (hb.mono B.out.size))
  have zw30 := hb.size
  have SF : Hid ((fun V : World => V.cell? ⟨w.heap.size, 0, none⟩ = some (.int .i64 x0.places) ∧ V.cell? ⟨w.heap.size, 1, none⟩ = some (.slice A0 x0.tasks.length c0) ∧ V.cell? ⟨w.heap.size + 1, 0, none⟩ = some (.int .i64 x2.state) ∧ V.cell? ⟨w.heap.size + 1, 1, none⟩ = some (.slice A21 x2.marks.length c21) ∧ V.cell? ⟨w.heap.size + 1, 2, none⟩ = some (.slice A22 x2.busy.length c22) ∧ V.cell? ⟨w.heap.size + 1, 3, none⟩ = some (.slice A23 x2.data.length c23) ∧ V.cell? ⟨w.heap.size + 1, 4, none⟩ = some (.slice A24 x2.did.length c24) ∧ V.cell? ⟨w8.heap.size, 0, none⟩ = some (.int .i64 x0.places) ∧ V.cell? ⟨w8.heap.size, 1, none⟩ = some (.slice (some ⟨gp0, 0, none⟩) x0.tasks.length x0.tasks.length) ∧ V.cell? ⟨w11.heap.size, 0, none⟩ = some (.int .i64 x2.state) ∧ V.cell? ⟨w11.heap.size, 1, none⟩ = some (.slice Dp21 x2.marks.length dp21) ∧ V.cell? ⟨w11.heap.size, 2, none⟩ = some (.slice Dp22 x2.busy.length dp22) ∧ V.cell? ⟨w11.heap.size, 3, none⟩ = some (.slice Dp23 x2.data.length dp23) ∧ V.cell? ⟨w11.heap.size, 4, none⟩ = some (.slice Dp24 x2.did.length dp24)) w30) := ⟨P0.out.cell 0, P0.out.cell 1, P1.out.cell 0, P1.out.cell 1, P1.out.cell 2, P1.out.cell 3, P1.out.cell 4, X0.out.cell 0, X0.out.cell 1, X2.out.cell 0, X2.out.cell 1, X2.out.cell 2, X2.out.cell 3, X2.out.cell 4⟩
  clear hb
  refine hK.out _ _ SF.out (fun hHeld => ?_)
  clear hK K
  refine wpAnyH_ready (rs := [5]) (by kernel_rfl) (by simp) ?_
  refine AllReadyH.cons rfl (fun K hK => ?_) ?_
  rotate_left
  · exact AllReadyH.nil
  go_simp
  go_wp2_with (go_at_call 9; refine (laws_toCasCase x2 _ _ _ _ _ _ _ _ none _ (HC21.out.later B.out) (HC22.out.later B.out) (HC23.out.later B.out) (HC24.out.later B.out) L21 L22 L23 L24).mono ?_; rintro e w31 ⟨ctb2, rfl, ⟨Db21, db21, Db22, db22, Db23, db23, Db24, db24, rfl, hRb21, hRb22, hRb23, hRb24⟩, hb⟩)
  have Rb21 := Lib.hid hRb21
  have Rb22 := Lib.hid hRb22
  have Rb23 := Lib.hid hRb23
  have Rb24 := Lib.hid hRb24
  clear hRb21 hRb22 hRb23 hRb24
  have P0 := Lib.hid (P0.out.later hb)
  have P1 := Lib.hid (P1.out.later hb)
  have X0 := Lib.hid (X0.out.later hb)
  have X2 := Lib.hid (X2.out.later hb)
  have I0 := Lib.hid (I0.out.later hb)
  have GM := Lib.hid (GM.out.later hb)
  have Fb0 := Lib.hid (Fb0.out.later hb)
  have Fb1 := Lib.hid (Fb1.out.later hb)
  have B := Lib.hid (B.out.trans (hb.mono B.out.size))
  have zw31 := hb.size
  have SF : Hid ((fun V : World => V.cell? ⟨w.heap.size, 0, none⟩ = some (.int .i64 x0.places) ∧ V.cell? ⟨w.heap.size, 1, none⟩ = some (.slice A0 x0.tasks.length c0) ∧ V.cell? ⟨w.heap.size + 1, 0, none⟩ = some (.int .i64 x2.state) ∧ V.cell? ⟨w.heap.size + 1, 1, none⟩ = some (.slice A21 x2.marks.length c21) ∧ V.cell? ⟨w.heap.size + 1, 2, none⟩ = some (.slice A22 x2.busy.length c22) ∧ V.cell? ⟨w.heap.size + 1, 3, none⟩ = some (.slice A23 x2.data.length c23) ∧ V.cell? ⟨w.heap.size + 1, 4, none⟩ = some (.slice A24 x2.did.length c24) ∧ V.cell? ⟨w8.heap.size, 0, none⟩ = some (.int .i64 x0.places) ∧ V.cell? ⟨w8.heap.size, 1, none⟩ = some (.slice (some ⟨gp0, 0, none⟩) x0.tasks.length x0.tasks.length) ∧ V.cell? ⟨w11.heap.size, 0, none⟩ = some (.int .i64 x2.state) ∧ V.cell? ⟨w11.heap.size, 1, none⟩ = some (.slice Dp21 x2.marks.length dp21) ∧ V.cell? ⟨w11.heap.size, 2, none⟩ = some (.slice Dp22 x2.busy.length dp22) ∧ V.cell? ⟨w11.heap.size, 3, none⟩ = some (.slice Dp23 x2.data.length dp23) ∧ V.cell? ⟨w11.heap.size, 4, none⟩ = some (.slice Dp24 x2.did.length dp24)) w31) := ⟨P0.out.cell 0, P0.out.cell 1, P1.out.cell 0, P1.out.cell 1, P1.out.cell 2, P1.out.cell 3, P1.out.cell 4, X0.out.cell 0, X0.out.cell 1, X2.out.cell 0, X2.out.cell 1, X2.out.cell 2, X2.out.cell 3, X2.out.cell 4⟩
  clear hb
  refine hK.out _ _ SF.out (fun hHeld => ?_)
  clear hK K
  refine wpAnyH_ready (rs := [6]) (by kernel_rfl) (by simp) ?_
  refine AllReadyH.cons rfl (fun K hK => ?_) ?_
  rotate_left
  · exact AllReadyH.nil
  go_simp
  go_wp2_with (go_at_call 10; refine (impl_CasCan x0 _ _ _ _ x1 x2 _ _ _ _ _ _ _ _ _ _ _ (MadeN.rows Fb0.out tl0) (Fb1.out.ints Fb1.out.lt (by omega)) Rb21.out Rb22.out Rb23.out Rb24.out).mono ?_; rintro e w32 ⟨vH, rfl, oH, hb⟩)
  obtain ⟨AH, eH, hvH, hdH⟩ := DidG.of oH (by have := canOf_len x0 x1 x2; omega)
  subst hvH
  rw [← HOUT.out] at hdH
  have HG := Lib.hid hdH
  clear oH hdH
  rw [← HOUT.out]
  have P0 := Lib.hid (P0.out.later hb)
  have P1 := Lib.hid (P1.out.later hb)
  have X0 := Lib.hid (X0.out.later hb)
  have X2 := Lib.hid (X2.out.later hb)
  have I0 := Lib.hid (I0.out.later hb)
  have GM := Lib.hid (GM.out.later hb)
  have Fb0 := Lib.hid (Fb0.out.later hb)
  have Fb1 := Lib.hid (Fb1.out.later hb)
  have Rb21 := Lib.hid (Rb21.out.later hb)
  have Rb22 := Lib.hid (Rb22.out.later hb)
  have Rb23 := Lib.hid (Rb23.out.later hb)
  have Rb24 := Lib.hid (Rb24.out.later hb)
  have B := Lib.hid (B.out.trans (hb.mono B.out.size))
  have zw32 := hb.size
  have SF : Hid ((fun V : World => V.cell? ⟨w.heap.size, 0, none⟩ = some (.int .i64 x0.places) ∧ V.cell? ⟨w.heap.size, 1, none⟩ = some (.slice A0 x0.tasks.length c0) ∧ V.cell? ⟨w.heap.size + 1, 0, none⟩ = some (.int .i64 x2.state) ∧ V.cell? ⟨w.heap.size + 1, 1, none⟩ = some (.slice A21 x2.marks.length c21) ∧ V.cell? ⟨w.heap.size + 1, 2, none⟩ = some (.slice A22 x2.busy.length c22) ∧ V.cell? ⟨w.heap.size + 1, 3, none⟩ = some (.slice A23 x2.data.length c23) ∧ V.cell? ⟨w.heap.size + 1, 4, none⟩ = some (.slice A24 x2.did.length c24) ∧ V.cell? ⟨w8.heap.size, 0, none⟩ = some (.int .i64 x0.places) ∧ V.cell? ⟨w8.heap.size, 1, none⟩ = some (.slice (some ⟨gp0, 0, none⟩) x0.tasks.length x0.tasks.length) ∧ V.cell? ⟨w11.heap.size, 0, none⟩ = some (.int .i64 x2.state) ∧ V.cell? ⟨w11.heap.size, 1, none⟩ = some (.slice Dp21 x2.marks.length dp21) ∧ V.cell? ⟨w11.heap.size, 2, none⟩ = some (.slice Dp22 x2.busy.length dp22) ∧ V.cell? ⟨w11.heap.size, 3, none⟩ = some (.slice Dp23 x2.data.length dp23) ∧ V.cell? ⟨w11.heap.size, 4, none⟩ = some (.slice Dp24 x2.did.length dp24)) w32) := ⟨P0.out.cell 0, P0.out.cell 1, P1.out.cell 0, P1.out.cell 1, P1.out.cell 2, P1.out.cell 3, P1.out.cell 4, X0.out.cell 0, X0.out.cell 1, X2.out.cell 0, X2.out.cell 1, X2.out.cell 2, X2.out.cell 3, X2.out.cell 4⟩
  clear hb
  refine hK.out _ _ SF.out (fun hHeld => ?_)
  clear hK K
  refine wpAnyH_take (i := 7) (v := ?_) rfl (by kernel_rfl) (by kernel_rfl) (by kernel_rfl) (fun _ _ _ h => h) (Or.inl ⟨by rfl, ?_⟩) (by assumption) ?_
  rotate_left
  · intro V hSw
    (try dsimp only at hSw)
    go_simp
    (try with_reducible rfl)
  simp only [List.getElem_toArray, List.getElem_cons_succ, List.getElem_cons_zero, Act.put, List.setIfInBounds_toArray, List.set_cons_zero, List.set_cons_succ]
  refine wpAnyH_done (by kernel_rfl) ?_ _
  clear hHeld
  clear Fb0 Fb1 Rb21 Rb22 Rb23 Rb24
  have kP0 := fun i => P0.out.cell i
  have kP1 := fun i => P1.out.cell i
  have kX0 := fun i => X0.out.cell i
  have kX2 := fun i => X2.out.cell i
  go_wp2_with fail
  clear kP0 kP1 kX0 kX2
  refine (laws_eqCasDidS _ _ _ _ out _ _ _ HG.out.rows I0.out.rows).mono ?_
  rintro e w33 ⟨rfl, hb⟩
  have P0 := Lib.hid (P0.out.later hb)
  have P1 := Lib.hid (P1.out.later hb)
  have X0 := Lib.hid (X0.out.later hb)
  have X2 := Lib.hid (X2.out.later hb)
  have I0 := Lib.hid (I0.out.later hb)
  have GM := Lib.hid (GM.out.later hb)
  have HG := Lib.hid (HG.out.later hb)
  have B := Lib.hid (B.out.trans (hb.mono B.out.size))
  have zw33 := hb.size
  clear hb
  have kP0 := fun i => P0.out.cell i
  have kP1 := fun i => P1.out.cell i
  have kX0 := fun i => X0.out.cell i
  have kX2 := fun i => X2.out.cell i
  go_wp2_with fail
  clear kP0 kP1 kX0 kX2
  refine (held_dids _ _ out.length 1 _ _ GM.out (by omega) (by omega) (by omega)).mono ?_
  rintro e w' ⟨rfl, rfl⟩
  have kP0 := fun i => P0.out.cell i
  have kP1 := fun i => P1.out.cell i
  have kX0 := fun i => X0.out.cell i
  have kX2 := fun i => X2.out.cell i
  go_wp2
  go_ret
  exact ⟨rfl, B.out⟩
end Go.Proofs.YtkoaaagmcjjimaaGreat
