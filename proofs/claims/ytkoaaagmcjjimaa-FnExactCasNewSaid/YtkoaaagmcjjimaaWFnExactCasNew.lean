/- The walk of FnExactCasNew: it returns true. -/
import Derived.Test.YtkoaaagmcjjimaaCasNewT
import Derived.Test.YtkoaaagmcjjimaaMarked
import Derived.Test.YtkoaaagmcjjimaaCopyNet
import Derived.Deep.RegionHeld3
namespace Go.Proofs.Ytkoaaagmcjjimaa
open Go.RowKit
set_option linter.unusedSimpArgs false
set_option linter.unusedVariables false

set_option maxRecDepth 100000 in
set_option maxHeartbeats 8000000 in
theorem walk_FnExactCasNew (v0 : Value) (x0 : GNet) (A1 : Option Addr) (c1 : Nat) (x1 : List Int) (w : World) (h0 : ∃ cs : List Value, v0 = .agg cs.toArray ∧ netC.R none w w.heap.size x0 cs) (h1 : Ints w w.heap.size A1 x1) :
    Calls Try.prog 13 #[v0, .slice A1 x1.length c1] w fun e w' => e = .returned (.bool true) ∧ Below w.heap.size w w' := by
  obtain ⟨cs0, rfl, A0, c0, rfl, hn0⟩ := h0
  have HN0 := Lib.hid hn0
  clear hn0
  have HN1 := Lib.hid h1
  clear h1
  by_cases tl1 : x1.length ≤ 1048576
  rotate_left
  · have hz : (1048576 : Int) < (x1.length : Int) := by omega
    go_enter Try.func13, Try.ntmps13
    go_wp2
    go_ret
    exact ⟨rfl, by go_grown⟩
  go_enter Try.func13, Try.ntmps13
  go_wp2_with fail
  refine callsAt fun W hW => ?_
  have P0 : Hid (Bk W (w.heap.size) 87 #[.int .i64 x0.places, .slice A0 x0.tasks.length c0]) := by show Bk _ _ _ _; rw [hW]; exact Bk.new rfl
  have B : Hid (Below w.heap.size w W) := by show Below _ _ _; rw [hW]; go_grown
  have zW : w.heap.size + 1 ≤ W.heap.size := by rw [hW]; simp only [World.size_alloc]; omega
  clear hW
  refine (laws_szNetNet x0 A0 c0 none 1048576 (by omega) (by omega) _ (HN0.out.later B.out)).mono ?_
  rintro e w1 ⟨l0, rfl, hl0, hu0, hf0, hb⟩
  have TF0 := Lib.hid hf0
  clear hf0
  have P0 := Lib.hid (P0.out.later hb)
  have B := Lib.hid (B.out.trans (hb.mono B.out.size))
  have zw1 := hb.size
  clear hb
  by_cases hneg : l0 < 0
  · have kP0 := fun i => P0.out.cell i
    go_wp2
    go_ret
    exact ⟨rfl, B.out⟩
  obtain ⟨tl0, ts0⟩ := TF0.out (by omega)
  have TS0 := Lib.hid ts0
  clear ts0 TF0
  have kP0 := fun i => P0.out.cell i
  go_wp2_with fail
  clear kP0
  refine (laws_toNetNet x0 A0 c0 none _ (HN0.out.later B.out) tl0 TS0.out).mono ?_
  rintro e w2 ⟨ga0, hga0, rfl, hFa0, hb⟩
  have Fa0 := Lib.hid hFa0
  clear hFa0 hga0
  have P0 := Lib.hid (P0.out.later hb)
  have B := Lib.hid (B.out.trans (hb.mono B.out.size))
  have zw2 := hb.size
  clear hb
  have kP0 := fun i => P0.out.cell i
  go_wp2_with fail
  clear kP0
  refine (laws_toIntS A1 c1 x1 _ w.heap.size B.out.size (HN1.out.below B.out) tl1).mono ?_
  rintro e w3 ⟨rfl, hw, hb⟩
  have Fa1 := Lib.hid hw
  clear hw
  have P0 := Lib.hid (P0.out.later hb)
  have Fa0 := Lib.hid (Fa0.out.later hb)
  have B := Lib.hid (B.out.trans (hb.mono B.out.size))
  have zw3 := hb.size
  clear hb
  have kP0 := fun i => P0.out.cell i
  go_wp2_with fail
  clear kP0
  refine (spec_CasNew x0 _ _  _ _ x1  _ _ (MadeN.rows Fa0.out tl0) (Fa1.out.ints Fa1.out.lt (by omega))).mono ?_
  rintro e w4 ⟨AS1, cS1, AS3, cS3, rfl, oS, hb⟩
  obtain ⟨hm8, hd8⟩ := casNew_len x0 x1 tl1
  have hnil := casNew_nil x0 x1
  have P0 := Lib.hid (P0.out.later hb)
  have Fa0 := Lib.hid (Fa0.out.later hb)
  have Fa1 := Lib.hid (Fa1.out.later hb)
  have B := Lib.hid (B.out.trans (hb.mono B.out.size))
  have zw4 := hb.size
  clear hb
  have I0 : Hid (WantN w4.heap.size AS1 (casNew x0 x1).marks AS3 (casNew x0 x1).data w4) := ⟨Nat.le_refl _, oS.marks (by omega), oS.data (by omega)⟩
  clear oS
  obtain ⟨y, hy⟩ : ∃ y, y = casNew x0 x1 := ⟨_, rfl⟩
  rw [← hy] at hm8 hd8 hnil I0 ⊢
  have HOUT := Lib.hid hy
  have HNIL := Lib.hid hnil
  clear hy hnil
  clear Fa0 Fa1
  have jP0 := fun o i => (P0.out.alloc o).cell i
  have kP0 := fun i => P0.out.cell i
  go_wp2_with fail
  clear kP0
  clear jP0
  refine callsAt fun w5 hW => ?_
  have hb : Below w4.heap.size w4 w5 := by rw [hW]; exact (Below.refl _ _).alloc (Nat.le_refl _) _
  have P0 := Lib.hid (P0.out.later hb)
  have I0 := Lib.hid (I0.out.later hb)
  have B := Lib.hid (B.out.trans (hb.mono B.out.size))
  have zw5 := hb.size
  have Y0 : Hid (Bk w5 w4.heap.size 63 #[.int .i64 y.state, .slice AS1 y.marks.length cS1, .slice none 0 0, .slice AS3 y.data.length cS3, .slice none 0 0]) := by show Bk _ _ _ _; rw [hW]; exact Bk.new rfl
  have yY0 := Y0.out.lt
  clear hW hb
  refine (laws_toNetNet x0 A0 c0 none _ (HN0.out.later B.out) tl0 TS0.out).mono ?_
  rintro e w6 ⟨gp0, hgp0, rfl, hFp0, hb⟩
  have Fp0 := Lib.hid hFp0
  have Hp0 := Lib.hid (NetHeld.of_filled hFp0 hgp0)
  clear hFp0 hgp0
  have P0 := Lib.hid (P0.out.later hb)
  have Y0 := Lib.hid (Y0.out.later hb)
  have I0 := Lib.hid (I0.out.later hb)
  have B := Lib.hid (B.out.trans (hb.mono B.out.size))
  have zw6 := hb.size
  clear hb
  have jP0 := fun o i => (P0.out.alloc o).cell i
  have jY0 := fun o i => (Y0.out.alloc o).cell i
  have kP0 := fun i => P0.out.cell i
  have kY0 := fun i => Y0.out.cell i
  go_wp2_with fail
  clear kP0 kY0
  clear jP0 jY0
  refine callsAt fun w7 hW => ?_
  have hb : Below w6.heap.size w6 w7 := by rw [hW]; exact (Below.refl _ _).alloc (Nat.le_refl _) _
  have P0 := Lib.hid (P0.out.later hb)
  have Y0 := Lib.hid (Y0.out.later hb)
  have I0 := Lib.hid (I0.out.later hb)
  have Fp0 := Lib.hid (Fp0.out.later hb)
  have Hp0 := Lib.hid (Hp0.out.later hb)
  have B := Lib.hid (B.out.trans (hb.mono B.out.size))
  have zw7 := hb.size
  have X0 : Hid (Bk w7 w6.heap.size 37 #[.int .i64 x0.places, .slice (some ⟨gp0, 0, none⟩) x0.tasks.length x0.tasks.length]) := by show Bk _ _ _ _; rw [hW]; exact Bk.new rfl
  have yX0 := X0.out.lt
  clear hW hb
  refine (laws_toIntS A1 c1 x1 _ w.heap.size B.out.size (HN1.out.below B.out) tl1).mono ?_
  rintro e w8 ⟨rfl, hw, hb⟩
  have Fp1 := Lib.hid hw
  have Hp1 := Lib.hid (IntHeld.ints (lo := w7.heap.size) hw (by omega) (Nat.le_refl _))
  clear hw
  have P0 := Lib.hid (P0.out.later hb)
  have Y0 := Lib.hid (Y0.out.later hb)
  have X0 := Lib.hid (X0.out.later hb)
  have I0 := Lib.hid (I0.out.later hb)
  have Fp0 := Lib.hid (Fp0.out.later hb)
  have Hp0 := Lib.hid (Hp0.out.later hb)
  have B := Lib.hid (B.out.trans (hb.mono B.out.size))
  have zw8 := hb.size
  clear hb
  have kP0 := fun i => P0.out.cell i
  have kY0 := fun i => Y0.out.cell i
  have kX0 := fun i => X0.out.cell i
  go_wp2_with fail
  clear kP0 kY0 kX0
  refine (impl_CasNew x0 _ _  _ _ x1  _ _ (MadeN.rows Fp0.out tl0) (Fp1.out.ints Fp1.out.lt (by omega))).mono ?_
  rintro e w9 ⟨G1, G1c, G3, G3c, rfl, oG, hb⟩
  rw [← HOUT.out] at oG
  have GG := Lib.hid oG
  clear oG
  rw [← HOUT.out]
  have P0 := Lib.hid (P0.out.later hb)
  have Y0 := Lib.hid (Y0.out.later hb)
  have X0 := Lib.hid (X0.out.later hb)
  have I0 := Lib.hid (I0.out.later hb)
  have Fp0 := Lib.hid (Fp0.out.later hb)
  have Hp0 := Lib.hid (Hp0.out.later hb)
  have Fp1 := Lib.hid (Fp1.out.later hb)
  have Hp1 := Lib.hid (Hp1.out.later hb)
  have B := Lib.hid (B.out.trans (hb.mono B.out.size))
  have zw9 := hb.size
  clear hb
  have jP0 := fun o i => (P0.out.alloc o).cell i
  have jY0 := fun o i => (Y0.out.alloc o).cell i
  have jX0 := fun o i => (X0.out.alloc o).cell i
  have kP0 := fun i => P0.out.cell i
  have kY0 := fun i => Y0.out.cell i
  have kX0 := fun i => X0.out.cell i
  go_wp2_with fail
  clear kP0 kY0 kX0
  clear jP0 jY0 jX0
  refine callsAt fun w10 hW => ?_
  have hb : Below w9.heap.size w9 w10 := by rw [hW]; exact (Below.refl _ _).alloc (Nat.le_refl _) _
  have P0 := Lib.hid (P0.out.later hb)
  have Y0 := Lib.hid (Y0.out.later hb)
  have X0 := Lib.hid (X0.out.later hb)
  have I0 := Lib.hid (I0.out.later hb)
  have Fp0 := Lib.hid (Fp0.out.later hb)
  have Hp0 := Lib.hid (Hp0.out.later hb)
  have Fp1 := Lib.hid (Fp1.out.later hb)
  have Hp1 := Lib.hid (Hp1.out.later hb)
  have GG := Lib.hid (GG.out.later hb)
  have B := Lib.hid (B.out.trans (hb.mono B.out.size))
  have zw10 := hb.size
  have Y1 : Hid (Bk w10 w9.heap.size 63 #[.int .i64 y.state, .slice G1 y.marks.length G1c, .slice none 0 0, .slice G3 y.data.length G3c, .slice none 0 0]) := by show Bk _ _ _ _; rw [hW]; exact Bk.new rfl
  have yY1 := Y1.out.lt
  clear hW hb
  refine (eq_new y HNIL.out _ _ _ _ _ _ _ _ _ (GG.out.marks (by omega)) (I0.out.2.1.more I0.out.1) (GG.out.data (by omega)) (I0.out.2.2.more I0.out.1)).mono ?_
  rintro e w11 ⟨rfl, hb⟩
  have P0 := Lib.hid (P0.out.later hb)
  have Y0 := Lib.hid (Y0.out.later hb)
  have X0 := Lib.hid (X0.out.later hb)
  have Y1 := Lib.hid (Y1.out.later hb)
  have I0 := Lib.hid (I0.out.later hb)
  have Fp0 := Lib.hid (Fp0.out.later hb)
  have Hp0 := Lib.hid (Hp0.out.later hb)
  have Fp1 := Lib.hid (Fp1.out.later hb)
  have Hp1 := Lib.hid (Hp1.out.later hb)
  have GG := Lib.hid (GG.out.later hb)
  have B := Lib.hid (B.out.trans (hb.mono B.out.size))
  have zw11 := hb.size
  clear hb
  have kP0 := fun i => P0.out.cell i
  have kY0 := fun i => Y0.out.cell i
  have kX0 := fun i => X0.out.cell i
  have kY1 := fun i => Y1.out.cell i
  go_wp2
  clear kP0 kY0 kX0 kY1
  have hdr := fun V : World => (Below.refl V.heap.size V).drew
  refine wp_region_held_drew (S := (fun V : World => V.cell? ⟨w.heap.size, 0, none⟩ = some (.int .i64 x0.places) ∧ V.cell? ⟨w.heap.size, 1, none⟩ = some (.slice A0 x0.tasks.length c0) ∧ V.cell? ⟨w4.heap.size, 0, none⟩ = some (.int .i64 y.state) ∧ V.cell? ⟨w4.heap.size, 1, none⟩ = some (.slice AS1 y.marks.length cS1) ∧ V.cell? ⟨w4.heap.size, 2, none⟩ = some (.slice none 0 0) ∧ V.cell? ⟨w4.heap.size, 3, none⟩ = some (.slice AS3 y.data.length cS3) ∧ V.cell? ⟨w4.heap.size, 4, none⟩ = some (.slice none 0 0) ∧ V.cell? ⟨w6.heap.size, 0, none⟩ = some (.int .i64 x0.places) ∧ V.cell? ⟨w6.heap.size, 1, none⟩ = some (.slice (some ⟨gp0, 0, none⟩) x0.tasks.length x0.tasks.length) ∧ V.cell? ⟨w9.heap.size, 0, none⟩ = some (.int .i64 y.state) ∧ V.cell? ⟨w9.heap.size, 1, none⟩ = some (.slice G1 y.marks.length G1c) ∧ V.cell? ⟨w9.heap.size, 2, none⟩ = some (.slice none 0 0) ∧ V.cell? ⟨w9.heap.size, 3, none⟩ = some (.slice G3 y.data.length G3c) ∧ V.cell? ⟨w9.heap.size, 4, none⟩ = some (.slice none 0 0))) (by kernel_rfl) ⟨P0.out.cell 0, P0.out.cell 1, Y0.out.cell 0, Y0.out.cell 1, Y0.out.cell 2, Y0.out.cell 3, Y0.out.cell 4, X0.out.cell 0, X0.out.cell 1, Y1.out.cell 0, Y1.out.cell 1, Y1.out.cell 2, Y1.out.cell 3, Y1.out.cell 4⟩ (fun hHeld => ?_)
  have hb := hdr w11
  generalize w11.drew = w12 at hb hHeld ⊢
  have P0 := Lib.hid (P0.out.later hb)
  have Y0 := Lib.hid (Y0.out.later hb)
  have X0 := Lib.hid (X0.out.later hb)
  have Y1 := Lib.hid (Y1.out.later hb)
  have I0 := Lib.hid (I0.out.later hb)
  have Fp0 := Lib.hid (Fp0.out.later hb)
  have Hp0 := Lib.hid (Hp0.out.later hb)
  have Fp1 := Lib.hid (Fp1.out.later hb)
  have Hp1 := Lib.hid (Hp1.out.later hb)
  have GG := Lib.hid (GG.out.later hb)
  have B := Lib.hid (B.out.trans (hb.mono B.out.size))
  have zw12 := hb.size
  clear hdr hb
  refine wpAnyH_take (i := 0) (v := ?_) rfl (by kernel_rfl) (by kernel_rfl) (by kernel_rfl) (fun _ _ _ h => h) (Or.inl ⟨by rfl, ?_⟩) (by assumption) ?_
  rotate_left
  · intro V hSw
    (try dsimp only at hSw)
    go_simp
    (try with_reducible rfl)
  simp only [List.getElem_toArray, List.getElem_cons_succ, List.getElem_cons_zero, Act.put, List.setIfInBounds_toArray, List.set_cons_zero, List.set_cons_succ]
  refine wpAnyH_take (i := 1) (v := ?_) rfl (by kernel_rfl) (by kernel_rfl) (by kernel_rfl) (fun _ _ _ h => h) (Or.inl ⟨by rfl, ?_⟩) (by assumption) ?_
  rotate_left
  · intro V hSw
    (try dsimp only at hSw)
    go_simp
    (try with_reducible rfl)
  simp only [List.getElem_toArray, List.getElem_cons_succ, List.getElem_cons_zero, Act.put, List.setIfInBounds_toArray, List.set_cons_zero, List.set_cons_succ]
  refine wpAnyH_ready (rs := [2]) (by kernel_rfl) (by simp) ?_
  refine AllReadyH.cons rfl (fun K hK => ?_) ?_
  rotate_left
  · exact AllReadyH.nil
  go_simp
  go_wp2_with (go_at_call 68; refine (laws_toNetNet x0 A0 c0 none _ (HN0.out.later B.out) tl0 TS0.out).mono ?_; rintro e w13 ⟨gz0, hgz0, rfl, hFz0, hb⟩)
  have Fz0 := Lib.hid hFz0
  clear hFz0 hgz0
  have P0 := Lib.hid (P0.out.later hb)
  have Y0 := Lib.hid (Y0.out.later hb)
  have X0 := Lib.hid (X0.out.later hb)
  have Y1 := Lib.hid (Y1.out.later hb)
  have I0 := Lib.hid (I0.out.later hb)
  have Fp0 := Lib.hid (Fp0.out.later hb)
  have Hp0 := Lib.hid (Hp0.out.later hb)
  have Fp1 := Lib.hid (Fp1.out.later hb)
  have Hp1 := Lib.hid (Hp1.out.later hb)
  have GG := Lib.hid (GG.out.later hb)
  have B := Lib.hid (B.out.trans (hb.mono B.out.size))
  have zw13 := hb.size
  have SF : Hid ((fun V : World => V.cell? ⟨w.heap.size, 0, none⟩ = some (.int .i64 x0.places) ∧ V.cell? ⟨w.heap.size, 1, none⟩ = some (.slice A0 x0.tasks.length c0) ∧ V.cell? ⟨w4.heap.size, 0, none⟩ = some (.int .i64 y.state) ∧ V.cell? ⟨w4.heap.size, 1, none⟩ = some (.slice AS1 y.marks.length cS1) ∧ V.cell? ⟨w4.heap.size, 2, none⟩ = some (.slice none 0 0) ∧ V.cell? ⟨w4.heap.size, 3, none⟩ = some (.slice AS3 y.data.length cS3) ∧ V.cell? ⟨w4.heap.size, 4, none⟩ = some (.slice none 0 0) ∧ V.cell? ⟨w6.heap.size, 0, none⟩ = some (.int .i64 x0.places) ∧ V.cell? ⟨w6.heap.size, 1, none⟩ = some (.slice (some ⟨gp0, 0, none⟩) x0.tasks.length x0.tasks.length) ∧ V.cell? ⟨w9.heap.size, 0, none⟩ = some (.int .i64 y.state) ∧ V.cell? ⟨w9.heap.size, 1, none⟩ = some (.slice G1 y.marks.length G1c) ∧ V.cell? ⟨w9.heap.size, 2, none⟩ = some (.slice none 0 0) ∧ V.cell? ⟨w9.heap.size, 3, none⟩ = some (.slice G3 y.data.length G3c) ∧ V.cell? ⟨w9.heap.size, 4, none⟩ = some (.slice none 0 0)) w13) := ⟨P0.out.cell 0, P0.out.cell 1, Y0.out.cell 0, Y0.out.cell 1, Y0.out.cell 2, Y0.out.cell 3, Y0.out.cell 4, X0.out.cell 0, X0.out.cell 1, Y1.out.cell 0, Y1.out.cell 1, Y1.out.cell 2, Y1.out.cell 3, Y1.out.cell 4⟩
  clear hb
  refine hK.out _ _ SF.out (fun hHeld => ?_)
  clear hK K
  refine wpAnyH_ready (rs := [3]) (by kernel_rfl) (by simp) ?_
  refine AllReadyH.cons rfl (fun K hK => ?_) ?_
  rotate_left
  · exact AllReadyH.nil
  go_simp
  go_wp2_with (go_at_call 71; refine (laws_eqNetNet x0 _ _ _ _ _ _ _ (MadeN.rows Fp0.out tl0) (MadeN.rows Fz0.out tl0)).mono ?_; rintro e w14 ⟨rfl, hb⟩)
  have P0 := Lib.hid (P0.out.later hb)
  have Y0 := Lib.hid (Y0.out.later hb)
  have X0 := Lib.hid (X0.out.later hb)
  have Y1 := Lib.hid (Y1.out.later hb)
  have I0 := Lib.hid (I0.out.later hb)
  have Fp0 := Lib.hid (Fp0.out.later hb)
  have Hp0 := Lib.hid (Hp0.out.later hb)
  have Fp1 := Lib.hid (Fp1.out.later hb)
  have Hp1 := Lib.hid (Hp1.out.later hb)
  have GG := Lib.hid (GG.out.later hb)
  have Fz0 := Lib.hid (Fz0.out.later hb)
  have B := Lib.hid (B.out.trans (hb.mono B.out.size))
  have zw14 := hb.size
  have SF : Hid ((fun V : World => V.cell? ⟨w.heap.size, 0, none⟩ = some (.int .i64 x0.places) ∧ V.cell? ⟨w.heap.size, 1, none⟩ = some (.slice A0 x0.tasks.length c0) ∧ V.cell? ⟨w4.heap.size, 0, none⟩ = some (.int .i64 y.state) ∧ V.cell? ⟨w4.heap.size, 1, none⟩ = some (.slice AS1 y.marks.length cS1) ∧ V.cell? ⟨w4.heap.size, 2, none⟩ = some (.slice none 0 0) ∧ V.cell? ⟨w4.heap.size, 3, none⟩ = some (.slice AS3 y.data.length cS3) ∧ V.cell? ⟨w4.heap.size, 4, none⟩ = some (.slice none 0 0) ∧ V.cell? ⟨w6.heap.size, 0, none⟩ = some (.int .i64 x0.places) ∧ V.cell? ⟨w6.heap.size, 1, none⟩ = some (.slice (some ⟨gp0, 0, none⟩) x0.tasks.length x0.tasks.length) ∧ V.cell? ⟨w9.heap.size, 0, none⟩ = some (.int .i64 y.state) ∧ V.cell? ⟨w9.heap.size, 1, none⟩ = some (.slice G1 y.marks.length G1c) ∧ V.cell? ⟨w9.heap.size, 2, none⟩ = some (.slice none 0 0) ∧ V.cell? ⟨w9.heap.size, 3, none⟩ = some (.slice G3 y.data.length G3c) ∧ V.cell? ⟨w9.heap.size, 4, none⟩ = some (.slice none 0 0)) w14) := ⟨P0.out.cell 0, P0.out.cell 1, Y0.out.cell 0, Y0.out.cell 1, Y0.out.cell 2, Y0.out.cell 3, Y0.out.cell 4, X0.out.cell 0, X0.out.cell 1, Y1.out.cell 0, Y1.out.cell 1, Y1.out.cell 2, Y1.out.cell 3, Y1.out.cell 4⟩
  clear hb
  refine hK.out _ _ SF.out (fun hHeld => ?_)
  clear hK K
  refine wpAnyH_take (i := 4) (v := ?_) rfl (by kernel_rfl) (by kernel_rfl) (by kernel_rfl) (fun _ _ _ h => h) (Or.inl ⟨by rfl, ?_⟩) (by assumption) ?_
  rotate_left
  · intro V hSw
    (try dsimp only at hSw)
    go_simp
    (try with_reducible rfl)
  simp only [List.getElem_toArray, List.getElem_cons_succ, List.getElem_cons_zero, Act.put, List.setIfInBounds_toArray, List.set_cons_zero, List.set_cons_succ]
  refine wpAnyH_done (by kernel_rfl) ?_ _
  clear Fz0
  clear Fp0
  have kP0 := fun i => P0.out.cell i
  have kY0 := fun i => Y0.out.cell i
  have kX0 := fun i => X0.out.cell i
  have kY1 := fun i => Y1.out.cell i
  go_wp2_with fail
  clear kP0 kY0 kX0 kY1
  refine (laws_toIntS A1 c1 x1 _ w.heap.size B.out.size (HN1.out.below B.out) tl1).mono ?_
  rintro e w15 ⟨rfl, hw, hb⟩
  have Fz1 := Lib.hid hw
  clear hw
  have P0 := Lib.hid (P0.out.later hb)
  have Y0 := Lib.hid (Y0.out.later hb)
  have X0 := Lib.hid (X0.out.later hb)
  have Y1 := Lib.hid (Y1.out.later hb)
  have I0 := Lib.hid (I0.out.later hb)
  have Hp0 := Lib.hid (Hp0.out.later hb)
  have Fp1 := Lib.hid (Fp1.out.later hb)
  have Hp1 := Lib.hid (Hp1.out.later hb)
  have GG := Lib.hid (GG.out.later hb)
  have B := Lib.hid (B.out.trans (hb.mono B.out.size))
  have zw15 := hb.size
  clear hb
  have kP0 := fun i => P0.out.cell i
  have kY0 := fun i => Y0.out.cell i
  have kX0 := fun i => X0.out.cell i
  have kY1 := fun i => Y1.out.cell i
  go_wp2_with fail
  clear kP0 kY0 kX0 kY1
  refine (laws_eqIntS _ _ _ _ x1 x1 _ w15.heap.size (Fp1.out.ints Fp1.out.lt (by omega)) (Fz1.out.ints Fz1.out.lt (by omega))).mono ?_
  rintro e _ ⟨rfl, qz1, rfl⟩
  have hb : Below w15.heap.size w15 (w15.drewN qz1) := bdN (Below.refl _ _) _
  generalize w15.drewN qz1 = w16 at hb ⊢
  have P0 := Lib.hid (P0.out.later hb)
  have Y0 := Lib.hid (Y0.out.later hb)
  have X0 := Lib.hid (X0.out.later hb)
  have Y1 := Lib.hid (Y1.out.later hb)
  have I0 := Lib.hid (I0.out.later hb)
  have Hp0 := Lib.hid (Hp0.out.later hb)
  have Fp1 := Lib.hid (Fp1.out.later hb)
  have Hp1 := Lib.hid (Hp1.out.later hb)
  have GG := Lib.hid (GG.out.later hb)
  have Fz1 := Lib.hid (Fz1.out.later hb)
  have B := Lib.hid (B.out.trans (hb.mono B.out.size))
  have zw16 := hb.size
  clear hb
  clear Fz1 Fp1
  have kP0 := fun i => P0.out.cell i
  have kY0 := fun i => Y0.out.cell i
  have kX0 := fun i => X0.out.cell i
  have kY1 := fun i => Y1.out.cell i
  go_wp2_with fail
  clear kP0 kY0 kX0 kY1
  refine (laws_markNetNet gp0 _ x0 1 _ w5.heap.size w6.heap.size Hp0.out.2.2.2 Hp0.out.1 Hp0.out.2.1 Hp0.out.2.2.1 tl0 TS0.out (by omega) (by omega)).mono ?_
  rintro e w17 ⟨⟨mk, rfl, hm0, hm1⟩, in0, kk⟩
  have inG : InsideG w5.heap.size w6.heap.size w16 w17 := in0
  clear in0
  clear Hp0
  have P0 := Lib.hid (P0.out.inG inG (by omega))
  have Y0 := Lib.hid (Y0.out.inG inG (by omega))
  have X0 := Lib.hid (X0.out.inG inG (by omega))
  have Y1 := Lib.hid (Y1.out.inG inG (by omega))
  have I0 := Lib.hid (I0.out.inG inG (by omega))
  have Hp1 := Lib.hid (Hp1.out.kept inG.size kk)
  have GG := Lib.hid (GG.out.inG inG (by omega))
  have B := Lib.hid (B.out.trans (inG.below (by omega) B.out.size))
  have zw17 := inG.size
  clear inG
  clear kk
  have kP0 := fun i => P0.out.cell i
  have kY0 := fun i => Y0.out.cell i
  have kX0 := fun i => X0.out.cell i
  have kY1 := fun i => Y1.out.cell i
  go_wp2_with fail
  clear kP0 kY0 kX0 kY1
  refine (mark_ints _ _ x1.length _ _ w7.heap.size w8.heap.size Hp1.out.2 (by omega) (by omega) (by omega)).mono ?_
  rintro e w18 ⟨rfl, in0, kk⟩
  have inG : InsideG w7.heap.size w8.heap.size w17 w18 := InsideG.of in0
  clear in0
  clear Hp1
  have P0 := Lib.hid (P0.out.inG inG (by omega))
  have Y0 := Lib.hid (Y0.out.inG inG (by omega))
  have X0 := Lib.hid (X0.out.inG inG (by omega))
  have Y1 := Lib.hid (Y1.out.inG inG (by omega))
  have I0 := Lib.hid (I0.out.inG inG (by omega))
  have GG := Lib.hid (GG.out.inG inG (by omega))
  have B := Lib.hid (B.out.trans (inG.below (by omega) B.out.size))
  have zw18 := inG.size
  clear inG
  clear kk
  have kP0 := fun i => P0.out.cell i
  have kY0 := fun i => Y0.out.cell i
  have kX0 := fun i => X0.out.cell i
  have kY1 := fun i => Y1.out.cell i
  go_wp2_with fail
  clear kP0 kY0 kX0 kY1
  refine (eq_new y HNIL.out _ _ _ _ _ _ _ _ _ (GG.out.marks (by omega)) (I0.out.2.1.more I0.out.1) (GG.out.data (by omega)) (I0.out.2.2.more I0.out.1)).mono ?_
  rintro e w19 ⟨rfl, hb⟩
  have P0 := Lib.hid (P0.out.later hb)
  have Y0 := Lib.hid (Y0.out.later hb)
  have X0 := Lib.hid (X0.out.later hb)
  have Y1 := Lib.hid (Y1.out.later hb)
  have I0 := Lib.hid (I0.out.later hb)
  have GG := Lib.hid (GG.out.later hb)
  have B := Lib.hid (B.out.trans (hb.mono B.out.size))
  have zw19 := hb.size
  clear hb
  have kP0 := fun i => P0.out.cell i
  have kY0 := fun i => Y0.out.cell i
  have kX0 := fun i => X0.out.cell i
  have kY1 := fun i => Y1.out.cell i
  go_wp2_with fail
  clear kP0 kY0 kX0 kY1
  refine (mark_new y.state _ _ _ _ y.marks y.data 1 _ w8.heap.size w9.heap.size GG.out (by omega) (by omega) (by omega) (by omega)).mono ?_
  rintro e w20 ⟨rfl, og, inG⟩
  have GM := Lib.hid og
  clear og
  clear GG
  have P0 := Lib.hid (P0.out.inG inG (by omega))
  have Y0 := Lib.hid (Y0.out.inG inG (by omega))
  have X0 := Lib.hid (X0.out.inG inG (by omega))
  have Y1 := Lib.hid (Y1.out.inG inG (by omega))
  have I0 := Lib.hid (I0.out.inG inG (by omega))
  have B := Lib.hid (B.out.trans (inG.below (by omega) B.out.size))
  have zw20 := inG.size
  clear inG
  have kP0 := fun i => P0.out.cell i
  have kY0 := fun i => Y0.out.cell i
  have kX0 := fun i => X0.out.cell i
  have kY1 := fun i => Y1.out.cell i
  go_wp2_with fail
  clear kP0 kY0 kX0 kY1
  refine (held_new y.state _ _ _ _ y.marks.length y.data.length 1 _ _ _ GM.out (by omega) (by omega) (by omega) (by omega)).mono ?_
  rintro e w21 ⟨rfl, hb⟩
  have P0 := Lib.hid (P0.out.later hb)
  have Y0 := Lib.hid (Y0.out.later hb)
  have X0 := Lib.hid (X0.out.later hb)
  have Y1 := Lib.hid (Y1.out.later hb)
  have I0 := Lib.hid (I0.out.later hb)
  have GM := Lib.hid (GM.out.later hb)
  have B := Lib.hid (B.out.trans (hb.mono B.out.size))
  have zw21 := hb.size
  clear hb
  have q0 : ¬ ((1 : Int) + y.marks.length + y.data.length < 0) := by omega
  have kP0 := fun i => P0.out.cell i
  have kY0 := fun i => Y0.out.cell i
  have kX0 := fun i => X0.out.cell i
  have kY1 := fun i => Y1.out.cell i
  go_wp2_with fail
  clear kP0 kY0 kX0 kY1
  refine (laws_toNetNet x0 A0 c0 none _ (HN0.out.later B.out) tl0 TS0.out).mono ?_
  rintro e w22 ⟨gb0, hgb0, rfl, hFb0, hb⟩
  have Fb0 := Lib.hid hFb0
  clear hFb0 hgb0
  have P0 := Lib.hid (P0.out.later hb)
  have Y0 := Lib.hid (Y0.out.later hb)
  have X0 := Lib.hid (X0.out.later hb)
  have Y1 := Lib.hid (Y1.out.later hb)
  have I0 := Lib.hid (I0.out.later hb)
  have GM := Lib.hid (GM.out.later hb)
  have B := Lib.hid (B.out.trans (hb.mono B.out.size))
  have zw22 := hb.size
  clear hb
  have kP0 := fun i => P0.out.cell i
  have kY0 := fun i => Y0.out.cell i
  have kX0 := fun i => X0.out.cell i
  have kY1 := fun i => Y1.out.cell i
  go_wp2_with fail
  clear kP0 kY0 kX0 kY1
  refine (laws_toIntS A1 c1 x1 _ w.heap.size B.out.size (HN1.out.below B.out) tl1).mono ?_
  rintro e w23 ⟨rfl, hw, hb⟩
  have Fb1 := Lib.hid hw
  clear hw
  have P0 := Lib.hid (P0.out.later hb)
  have Y0 := Lib.hid (Y0.out.later hb)
  have X0 := Lib.hid (X0.out.later hb)
  have Y1 := Lib.hid (Y1.out.later hb)
  have I0 := Lib.hid (I0.out.later hb)
  have GM := Lib.hid (GM.out.later hb)
  have Fb0 := Lib.hid (Fb0.out.later hb)
  have B := Lib.hid (B.out.trans (hb.mono B.out.size))
  have zw23 := hb.size
  clear hb
  have kP0 := fun i => P0.out.cell i
  have kY0 := fun i => Y0.out.cell i
  have kX0 := fun i => X0.out.cell i
  have kY1 := fun i => Y1.out.cell i
  go_wp2_with fail
  clear kP0 kY0 kX0 kY1
  refine (impl_CasNew x0 _ _  _ _ x1  _ _ (MadeN.rows Fb0.out tl0) (Fb1.out.ints Fb1.out.lt (by omega))).mono ?_
  rintro e w24 ⟨H1, H1c, H3, H3c, rfl, oH, hb⟩
  rw [← HOUT.out] at oH
  have HG := Lib.hid oH
  clear oH
  rw [← HOUT.out]
  clear Fb0 Fb1
  have P0 := Lib.hid (P0.out.later hb)
  have Y0 := Lib.hid (Y0.out.later hb)
  have X0 := Lib.hid (X0.out.later hb)
  have Y1 := Lib.hid (Y1.out.later hb)
  have I0 := Lib.hid (I0.out.later hb)
  have GM := Lib.hid (GM.out.later hb)
  have B := Lib.hid (B.out.trans (hb.mono B.out.size))
  have zw24 := hb.size
  clear hb
  have jP0 := fun o i => (P0.out.alloc o).cell i
  have jY0 := fun o i => (Y0.out.alloc o).cell i
  have jX0 := fun o i => (X0.out.alloc o).cell i
  have jY1 := fun o i => (Y1.out.alloc o).cell i
  have kP0 := fun i => P0.out.cell i
  have kY0 := fun i => Y0.out.cell i
  have kX0 := fun i => X0.out.cell i
  have kY1 := fun i => Y1.out.cell i
  go_wp2_with fail
  clear kP0 kY0 kX0 kY1
  clear jP0 jY0 jX0 jY1
  refine callsAt fun w25 hW => ?_
  have hb : Below w24.heap.size w24 w25 := by rw [hW]; exact (Below.refl _ _).alloc (Nat.le_refl _) _
  have P0 := Lib.hid (P0.out.later hb)
  have Y0 := Lib.hid (Y0.out.later hb)
  have X0 := Lib.hid (X0.out.later hb)
  have Y1 := Lib.hid (Y1.out.later hb)
  have I0 := Lib.hid (I0.out.later hb)
  have GM := Lib.hid (GM.out.later hb)
  have HG := Lib.hid (HG.out.later hb)
  have B := Lib.hid (B.out.trans (hb.mono B.out.size))
  have zw25 := hb.size
  have Y2 : Hid (Bk w25 w24.heap.size 63 #[.int .i64 y.state, .slice H1 y.marks.length H1c, .slice none 0 0, .slice H3 y.data.length H3c, .slice none 0 0]) := by show Bk _ _ _ _; rw [hW]; exact Bk.new rfl
  have yY2 := Y2.out.lt
  clear hW hb
  refine (eq_new y HNIL.out _ _ _ _ _ _ _ _ _ (HG.out.marks (by omega)) (I0.out.2.1.more I0.out.1) (HG.out.data (by omega)) (I0.out.2.2.more I0.out.1)).mono ?_
  rintro e w26 ⟨rfl, hb⟩
  have P0 := Lib.hid (P0.out.later hb)
  have Y0 := Lib.hid (Y0.out.later hb)
  have X0 := Lib.hid (X0.out.later hb)
  have Y1 := Lib.hid (Y1.out.later hb)
  have Y2 := Lib.hid (Y2.out.later hb)
  have I0 := Lib.hid (I0.out.later hb)
  have GM := Lib.hid (GM.out.later hb)
  have HG := Lib.hid (HG.out.later hb)
  have B := Lib.hid (B.out.trans (hb.mono B.out.size))
  have zw26 := hb.size
  clear hb
  have kP0 := fun i => P0.out.cell i
  have kY0 := fun i => Y0.out.cell i
  have kX0 := fun i => X0.out.cell i
  have kY1 := fun i => Y1.out.cell i
  have kY2 := fun i => Y2.out.cell i
  go_wp2_with fail
  clear kP0 kY0 kX0 kY1 kY2
  refine (held_new y.state _ _ _ _ y.marks.length y.data.length 1 _ _ _ GM.out (by omega) (by omega) (by omega) (by omega)).mono ?_
  rintro e w27 ⟨rfl, hb⟩
  have P0 := Lib.hid (P0.out.later hb)
  have Y0 := Lib.hid (Y0.out.later hb)
  have X0 := Lib.hid (X0.out.later hb)
  have Y1 := Lib.hid (Y1.out.later hb)
  have Y2 := Lib.hid (Y2.out.later hb)
  have I0 := Lib.hid (I0.out.later hb)
  have GM := Lib.hid (GM.out.later hb)
  have HG := Lib.hid (HG.out.later hb)
  have B := Lib.hid (B.out.trans (hb.mono B.out.size))
  have zw27 := hb.size
  clear hb
  have kP0 := fun i => P0.out.cell i
  have kY0 := fun i => Y0.out.cell i
  have kX0 := fun i => X0.out.cell i
  have kY1 := fun i => Y1.out.cell i
  have kY2 := fun i => Y2.out.cell i
  go_wp2
  go_ret
  exact ⟨rfl, B.out⟩
end Go.Proofs.Ytkoaaagmcjjimaa
