/- The walk of FnExactCasStuck: it returns true. -/
import Derived.Test.YtkoaaagmcjjimaaStuck
import Derived.Test.YtkoaaagmcjjimaaCopyNet
import Derived.Test.YtkoaaagmcjjimaaCase
import Derived.Deep.RegionHeld3
namespace Go.Proofs.Ytkoaaagmcjjimaa
open Go.RowKit
set_option linter.unusedSimpArgs false
set_option linter.unusedVariables false

set_option maxRecDepth 100000 in
set_option maxHeartbeats 8000000 in
theorem walk_FnExactCasStuck (v0 : Value) (x0 : GNet) (v1 : Value) (x1 : GCase) (w : World) (h0 : ∃ cs : List Value, v0 = .agg cs.toArray ∧ netC.R none w w.heap.size x0 cs) (h1 : ∃ cs : List Value, v1 = .agg cs.toArray ∧ caseC.R none w w.heap.size x1 cs) :
    Calls Try.prog 15 #[v0, v1] w fun e w' => e = .returned (.bool true) ∧ Below w.heap.size w w' := by
  obtain ⟨cs0, rfl, A0, c0, rfl, hn0⟩ := h0
  have HN0 := Lib.hid hn0
  clear hn0
  obtain ⟨cs1, rfl, A11, c11, A12, c12, A13, c13, A14, c14, rfl, hn11, hn12, hn13, hn14⟩ := h1
  have HC11 := Lib.hid hn11
  have nn11 := hn11.1
  clear hn11
  have HC12 := Lib.hid hn12
  have nn12 := hn12.1
  clear hn12
  have HC13 := Lib.hid hn13
  have nn13 := hn13.1
  clear hn13
  have HC14 := Lib.hid hn14
  have nn14 := hn14.1
  clear hn14
  go_enter Try.func15, Try.ntmps15
  go_wp2_with fail
  refine callsAt fun W hW => ?_
  have P0 : Hid (Bk W (w.heap.size) 87 #[.int .i64 x0.places, .slice A0 x0.tasks.length c0]) := by show Bk _ _ _ _; rw [hW]; exact (Bk.new rfl).alloc _
  have P1 : Hid (Bk W (w.heap.size + 1) 109 #[.int .i64 x1.state, .slice A11 x1.marks.length c11, .slice A12 x1.busy.length c12, .slice A13 x1.data.length c13, .slice A14 x1.did.length c14]) := by show Bk _ _ _ _; rw [hW]; exact Bk.new (by simp)
  have B : Hid (Below w.heap.size w W) := by show Below _ _ _; rw [hW]; go_grown
  clear hW
  refine (laws_szNetNet x0 A0 c0 none 1048576 (by omega) (by omega) _ (HN0.out.later B.out)).mono ?_
  rintro e w1 ⟨l0, rfl, hl0, hu0, hf0, hb⟩
  have TF0 := Lib.hid hf0
  clear hf0
  have P0 := Lib.hid (P0.out.later hb)
  have P1 := Lib.hid (P1.out.later hb)
  have B := Lib.hid (B.out.trans (hb.mono B.out.size))
  clear hb
  by_cases hneg : l0 < 0
  · have kP0 := fun i => P0.out.cell i
    have kP1 := fun i => P1.out.cell i
    go_wp2
    go_ret
    exact ⟨rfl, B.out⟩
  obtain ⟨tl0, ts0⟩ := TF0.out (by omega)
  have TS0 := Lib.hid ts0
  clear ts0 TF0
  have kP0 := fun i => P0.out.cell i
  have kP1 := fun i => P1.out.cell i
  go_wp2_with fail
  clear kP0 kP1
  refine (laws_szCasCase x1 _ _ _ _ _ _ _ _ l0 (by omega) (by omega) _ nn11 nn12 nn13 nn14).mono ?_
  rintro e w2 ⟨rfl, hb⟩
  have P0 := Lib.hid (P0.out.later hb)
  have P1 := Lib.hid (P1.out.later hb)
  have B := Lib.hid (B.out.trans (hb.mono B.out.size))
  clear hb
  by_cases hneg : szCase x1 l0 < 0
  · have kP0 := fun i => P0.out.cell i
    have kP1 := fun i => P1.out.cell i
    go_wp2
    go_ret
    exact ⟨rfl, B.out⟩
  obtain ⟨ll11, ll12, ll13, ll14, _, _⟩ := szCase_ok (by omega) hneg
  have L11 : x1.marks.length ≤ 1048576 := by omega
  have L12 : x1.busy.length ≤ 1048576 := by omega
  have L13 : x1.data.length ≤ 1048576 := by omega
  have L14 : x1.did.length ≤ 1048576 := by omega
  clear ll11 ll12 ll13 ll14
  have kP0 := fun i => P0.out.cell i
  have kP1 := fun i => P1.out.cell i
  go_wp2
  clear kP0 kP1
  have hdr := fun V : World => (Below.refl V.heap.size V).drew
  refine wp_region_held_drew (S := (fun V : World => V.cell? ⟨w.heap.size, 0, none⟩ = some (.int .i64 x0.places) ∧ V.cell? ⟨w.heap.size, 1, none⟩ = some (.slice A0 x0.tasks.length c0) ∧ V.cell? ⟨w.heap.size + 1, 0, none⟩ = some (.int .i64 x1.state) ∧ V.cell? ⟨w.heap.size + 1, 1, none⟩ = some (.slice A11 x1.marks.length c11) ∧ V.cell? ⟨w.heap.size + 1, 2, none⟩ = some (.slice A12 x1.busy.length c12) ∧ V.cell? ⟨w.heap.size + 1, 3, none⟩ = some (.slice A13 x1.data.length c13) ∧ V.cell? ⟨w.heap.size + 1, 4, none⟩ = some (.slice A14 x1.did.length c14))) (by kernel_rfl) ⟨P0.out.cell 0, P0.out.cell 1, P1.out.cell 0, P1.out.cell 1, P1.out.cell 2, P1.out.cell 3, P1.out.cell 4⟩ (fun hHeld => ?_)
  have P0 := Lib.hid (P0.out.later (hdr _))
  have P1 := Lib.hid (P1.out.later (hdr _))
  have B := Lib.hid (B.out.trans ((hdr _).mono B.out.size))
  clear hdr
  refine wpAnyH_take (i := 0) (v := ?_) rfl (by kernel_rfl) (by kernel_rfl) (by kernel_rfl) (fun _ _ _ h => h) (Or.inl ⟨by rfl, ?_⟩) (by assumption) ?_
  rotate_left
  · intro V hSw
    (try dsimp only at hSw)
    go_simp
    (try with_reducible rfl)
  simp only [List.getElem_toArray, List.getElem_cons_succ, List.getElem_cons_zero, Act.put, List.setIfInBounds_toArray, List.set_cons_zero, List.set_cons_succ]
  refine wpAnyH_take (i := 2) (v := ?_) rfl (by kernel_rfl) (by kernel_rfl) (by kernel_rfl) (fun _ _ _ h => h) (Or.inl ⟨by rfl, ?_⟩) (by assumption) ?_
  rotate_left
  · intro V hSw
    (try dsimp only at hSw)
    go_simp
    (try with_reducible rfl)
  simp only [List.getElem_toArray, List.getElem_cons_succ, List.getElem_cons_zero, Act.put, List.setIfInBounds_toArray, List.set_cons_zero, List.set_cons_succ]
  refine wpAnyH_ready (rs := [1]) (by kernel_rfl) (by simp) ?_
  refine AllReadyH.cons rfl (fun K hK => ?_) ?_
  rotate_left
  · exact AllReadyH.nil
  go_simp
  go_wp2_with (go_at_call 68; refine (laws_toNetNet x0 A0 c0 none _ (HN0.out.later B.out) tl0 TS0.out).mono ?_; rintro e w3 ⟨ga, hga, rfl, hFa, hb⟩)
  have Fa := Lib.hid hFa
  clear hFa hga
  have P0 := Lib.hid (P0.out.later hb)
  have P1 := Lib.hid (P1.out.later hb)
  have B := Lib.hid (B.out.trans (hb.mono B.out.size))
  have SF : Hid ((fun V : World => V.cell? ⟨w.heap.size, 0, none⟩ = some (.int .i64 x0.places) ∧ V.cell? ⟨w.heap.size, 1, none⟩ = some (.slice A0 x0.tasks.length c0) ∧ V.cell? ⟨w.heap.size + 1, 0, none⟩ = some (.int .i64 x1.state) ∧ V.cell? ⟨w.heap.size + 1, 1, none⟩ = some (.slice A11 x1.marks.length c11) ∧ V.cell? ⟨w.heap.size + 1, 2, none⟩ = some (.slice A12 x1.busy.length c12) ∧ V.cell? ⟨w.heap.size + 1, 3, none⟩ = some (.slice A13 x1.data.length c13) ∧ V.cell? ⟨w.heap.size + 1, 4, none⟩ = some (.slice A14 x1.did.length c14)) w3) := ⟨P0.out.cell 0, P0.out.cell 1, P1.out.cell 0, P1.out.cell 1, P1.out.cell 2, P1.out.cell 3, P1.out.cell 4⟩
  clear hb
  refine hK.out _ _ SF.out (fun hHeld => ?_)
  clear hK K
  refine wpAnyH_ready (rs := [3]) (by kernel_rfl) (by simp) ?_
  refine AllReadyH.cons rfl (fun K hK => ?_) ?_
  rotate_left
  · exact AllReadyH.nil
  go_simp
  go_wp2_with (go_at_call 85; refine (laws_toCasCase x1 _ _ _ _ _ _ _ _ none _ (HC11.out.later B.out) (HC12.out.later B.out) (HC13.out.later B.out) (HC14.out.later B.out) L11 L12 L13 L14).mono ?_; rintro e w4 ⟨ctb, rfl, ⟨Db1, db1, Db2, db2, Db3, db3, Db4, db4, rfl, hRb1, hRb2, hRb3, hRb4⟩, hb⟩)
  have Rb1 := Lib.hid hRb1
  have Rb2 := Lib.hid hRb2
  have Rb3 := Lib.hid hRb3
  have Rb4 := Lib.hid hRb4
  clear hRb1 hRb2 hRb3 hRb4
  have P0 := Lib.hid (P0.out.later hb)
  have P1 := Lib.hid (P1.out.later hb)
  have Fa := Lib.hid (Fa.out.later hb)
  have B := Lib.hid (B.out.trans (hb.mono B.out.size))
  have SF : Hid ((fun V : World => V.cell? ⟨w.heap.size, 0, none⟩ = some (.int .i64 x0.places) ∧ V.cell? ⟨w.heap.size, 1, none⟩ = some (.slice A0 x0.tasks.length c0) ∧ V.cell? ⟨w.heap.size + 1, 0, none⟩ = some (.int .i64 x1.state) ∧ V.cell? ⟨w.heap.size + 1, 1, none⟩ = some (.slice A11 x1.marks.length c11) ∧ V.cell? ⟨w.heap.size + 1, 2, none⟩ = some (.slice A12 x1.busy.length c12) ∧ V.cell? ⟨w.heap.size + 1, 3, none⟩ = some (.slice A13 x1.data.length c13) ∧ V.cell? ⟨w.heap.size + 1, 4, none⟩ = some (.slice A14 x1.did.length c14)) w4) := ⟨P0.out.cell 0, P0.out.cell 1, P1.out.cell 0, P1.out.cell 1, P1.out.cell 2, P1.out.cell 3, P1.out.cell 4⟩
  clear hb
  refine hK.out _ _ SF.out (fun hHeld => ?_)
  clear hK K
  refine wpAnyH_ready (rs := [4]) (by kernel_rfl) (by simp) ?_
  refine AllReadyH.cons rfl (fun K hK => ?_) ?_
  rotate_left
  · exact AllReadyH.nil
  go_simp
  go_wp2_with (go_at_call 84; refine (spec_CasStuck x0 _ _ x1 _ _ _ _ _ _ _ _ _ _ _ (MadeN.rows Fa.out tl0) Rb1.out Rb2.out Rb3.out Rb4.out).mono ?_; rintro e w5 ⟨rfl, hb⟩)
  have P0 := Lib.hid (P0.out.later hb)
  have P1 := Lib.hid (P1.out.later hb)
  have Fa := Lib.hid (Fa.out.later hb)
  have Rb1 := Lib.hid (Rb1.out.later hb)
  have Rb2 := Lib.hid (Rb2.out.later hb)
  have Rb3 := Lib.hid (Rb3.out.later hb)
  have Rb4 := Lib.hid (Rb4.out.later hb)
  have B := Lib.hid (B.out.trans (hb.mono B.out.size))
  have SF : Hid ((fun V : World => V.cell? ⟨w.heap.size, 0, none⟩ = some (.int .i64 x0.places) ∧ V.cell? ⟨w.heap.size, 1, none⟩ = some (.slice A0 x0.tasks.length c0) ∧ V.cell? ⟨w.heap.size + 1, 0, none⟩ = some (.int .i64 x1.state) ∧ V.cell? ⟨w.heap.size + 1, 1, none⟩ = some (.slice A11 x1.marks.length c11) ∧ V.cell? ⟨w.heap.size + 1, 2, none⟩ = some (.slice A12 x1.busy.length c12) ∧ V.cell? ⟨w.heap.size + 1, 3, none⟩ = some (.slice A13 x1.data.length c13) ∧ V.cell? ⟨w.heap.size + 1, 4, none⟩ = some (.slice A14 x1.did.length c14)) w5) := ⟨P0.out.cell 0, P0.out.cell 1, P1.out.cell 0, P1.out.cell 1, P1.out.cell 2, P1.out.cell 3, P1.out.cell 4⟩
  clear hb
  refine hK.out _ _ SF.out (fun hHeld => ?_)
  clear hK K
  refine wpAnyH_take (i := 5) (v := ?_) rfl (by kernel_rfl) (by kernel_rfl) (by kernel_rfl) (fun _ _ _ h => h) (Or.inl ⟨by rfl, ?_⟩) (by assumption) ?_
  rotate_left
  · intro V hSw
    (try dsimp only at hSw)
    go_simp
    (try with_reducible rfl)
  simp only [List.getElem_toArray, List.getElem_cons_succ, List.getElem_cons_zero, Act.put, List.setIfInBounds_toArray, List.set_cons_zero, List.set_cons_succ]
  refine wpAnyH_done (by kernel_rfl) ?_ _
  clear Fa Rb1 Rb2 Rb3 Rb4
  have kP0 := fun i => P0.out.cell i
  have kP1 := fun i => P1.out.cell i
  go_wp2_with fail
  clear kP0 kP1
  refine (laws_toNetNet x0 A0 c0 none _ (HN0.out.later B.out) tl0 TS0.out).mono ?_
  rintro e w6 ⟨gp, hgp, rfl, hFp, hb⟩
  have Fp := Lib.hid hFp
  clear hFp hgp
  have P0 := Lib.hid (P0.out.later hb)
  have P1 := Lib.hid (P1.out.later hb)
  have B := Lib.hid (B.out.trans (hb.mono B.out.size))
  clear hb
  have jP0 := fun o i => (P0.out.alloc o).cell i
  have jP1 := fun o i => (P1.out.alloc o).cell i
  have kP0 := fun i => P0.out.cell i
  have kP1 := fun i => P1.out.cell i
  go_wp2_with fail
  clear kP0 kP1
  clear jP0 jP1
  refine callsAt fun W hW => ?_
  have hb : Below w6.heap.size w6 W := by rw [hW]; exact (Below.refl _ _).alloc (Nat.le_refl _) _
  have P0 := Lib.hid (P0.out.later hb)
  have P1 := Lib.hid (P1.out.later hb)
  have Fp := Lib.hid (Fp.out.later hb)
  have B := Lib.hid (B.out.trans (hb.mono B.out.size))
  have X0 : Hid (Bk W w6.heap.size 37 #[.int .i64 x0.places, .slice (some ⟨gp, 0, none⟩) x0.tasks.length x0.tasks.length]) := by show Bk _ _ _ _; rw [hW]; exact Bk.new rfl
  clear hW hb
  refine (laws_toCasCase x1 _ _ _ _ _ _ _ _ none _ (HC11.out.later B.out) (HC12.out.later B.out) (HC13.out.later B.out) (HC14.out.later B.out) L11 L12 L13 L14).mono ?_
  rintro e w7 ⟨ctq, rfl, ⟨Dq1, dq1, Dq2, dq2, Dq3, dq3, Dq4, dq4, rfl, hRq1, hRq2, hRq3, hRq4⟩, hb⟩
  have Rq1 := Lib.hid hRq1
  have Rq2 := Lib.hid hRq2
  have Rq3 := Lib.hid hRq3
  have Rq4 := Lib.hid hRq4
  clear hRq1 hRq2 hRq3 hRq4
  have P0 := Lib.hid (P0.out.later hb)
  have P1 := Lib.hid (P1.out.later hb)
  have X0 := Lib.hid (X0.out.later hb)
  have Fp := Lib.hid (Fp.out.later hb)
  have B := Lib.hid (B.out.trans (hb.mono B.out.size))
  clear hb
  have jP0 := fun o i => (P0.out.alloc o).cell i
  have jP1 := fun o i => (P1.out.alloc o).cell i
  have jX0 := fun o i => (X0.out.alloc o).cell i
  have kP0 := fun i => P0.out.cell i
  have kP1 := fun i => P1.out.cell i
  have kX0 := fun i => X0.out.cell i
  go_wp2_with fail
  clear kP0 kP1 kX0
  clear jP0 jP1 jX0
  refine callsAt fun W hW => ?_
  have hb : Below w7.heap.size w7 W := by rw [hW]; exact (Below.refl _ _).alloc (Nat.le_refl _) _
  have P0 := Lib.hid (P0.out.later hb)
  have P1 := Lib.hid (P1.out.later hb)
  have X0 := Lib.hid (X0.out.later hb)
  have Fp := Lib.hid (Fp.out.later hb)
  have Rq1 := Lib.hid (Rq1.out.later hb)
  have Rq2 := Lib.hid (Rq2.out.later hb)
  have Rq3 := Lib.hid (Rq3.out.later hb)
  have Rq4 := Lib.hid (Rq4.out.later hb)
  have B := Lib.hid (B.out.trans (hb.mono B.out.size))
  have X1 : Hid (Bk W w7.heap.size 63 #[.int .i64 x1.state, .slice Dq1 x1.marks.length dq1, .slice Dq2 x1.busy.length dq2, .slice Dq3 x1.data.length dq3, .slice Dq4 x1.did.length dq4]) := by show Bk _ _ _ _; rw [hW]; exact Bk.new rfl
  clear hW hb
  refine (impl_CasStuck x0 _ _ x1 _ _ _ _ _ _ _ _ _ _ _ (MadeN.rows Fp.out tl0) Rq1.out Rq2.out Rq3.out Rq4.out).mono ?_
  rintro e w8 ⟨rfl, hb⟩
  have P0 := Lib.hid (P0.out.later hb)
  have P1 := Lib.hid (P1.out.later hb)
  have X0 := Lib.hid (X0.out.later hb)
  have X1 := Lib.hid (X1.out.later hb)
  have Fp := Lib.hid (Fp.out.later hb)
  have Rq1 := Lib.hid (Rq1.out.later hb)
  have Rq2 := Lib.hid (Rq2.out.later hb)
  have Rq3 := Lib.hid (Rq3.out.later hb)
  have Rq4 := Lib.hid (Rq4.out.later hb)
  have B := Lib.hid (B.out.trans (hb.mono B.out.size))
  clear hb
  have kP0 := fun i => P0.out.cell i
  have kP1 := fun i => P1.out.cell i
  have kX0 := fun i => X0.out.cell i
  have kX1 := fun i => X1.out.cell i
  go_wp2
  clear kP0 kP1 kX0 kX1
  have hdr := fun V : World => (Below.refl V.heap.size V).drew
  refine wp_region_held_drew (S := (fun V : World => V.cell? ⟨w.heap.size, 0, none⟩ = some (.int .i64 x0.places) ∧ V.cell? ⟨w.heap.size, 1, none⟩ = some (.slice A0 x0.tasks.length c0) ∧ V.cell? ⟨w.heap.size + 1, 0, none⟩ = some (.int .i64 x1.state) ∧ V.cell? ⟨w.heap.size + 1, 1, none⟩ = some (.slice A11 x1.marks.length c11) ∧ V.cell? ⟨w.heap.size + 1, 2, none⟩ = some (.slice A12 x1.busy.length c12) ∧ V.cell? ⟨w.heap.size + 1, 3, none⟩ = some (.slice A13 x1.data.length c13) ∧ V.cell? ⟨w.heap.size + 1, 4, none⟩ = some (.slice A14 x1.did.length c14) ∧ V.cell? ⟨w6.heap.size, 0, none⟩ = some (.int .i64 x0.places) ∧ V.cell? ⟨w6.heap.size, 1, none⟩ = some (.slice (some ⟨gp, 0, none⟩) x0.tasks.length x0.tasks.length) ∧ V.cell? ⟨w7.heap.size, 0, none⟩ = some (.int .i64 x1.state) ∧ V.cell? ⟨w7.heap.size, 1, none⟩ = some (.slice Dq1 x1.marks.length dq1) ∧ V.cell? ⟨w7.heap.size, 2, none⟩ = some (.slice Dq2 x1.busy.length dq2) ∧ V.cell? ⟨w7.heap.size, 3, none⟩ = some (.slice Dq3 x1.data.length dq3) ∧ V.cell? ⟨w7.heap.size, 4, none⟩ = some (.slice Dq4 x1.did.length dq4))) (by kernel_rfl) ⟨P0.out.cell 0, P0.out.cell 1, P1.out.cell 0, P1.out.cell 1, P1.out.cell 2, P1.out.cell 3, P1.out.cell 4, X0.out.cell 0, X0.out.cell 1, X1.out.cell 0, X1.out.cell 1, X1.out.cell 2, X1.out.cell 3, X1.out.cell 4⟩ (fun hHeld => ?_)
  have P0 := Lib.hid (P0.out.later (hdr _))
  have P1 := Lib.hid (P1.out.later (hdr _))
  have X0 := Lib.hid (X0.out.later (hdr _))
  have X1 := Lib.hid (X1.out.later (hdr _))
  have Fp := Lib.hid (Fp.out.later (hdr _))
  have Rq1 := Lib.hid (Rq1.out.later (hdr _))
  have Rq2 := Lib.hid (Rq2.out.later (hdr _))
  have Rq3 := Lib.hid (Rq3.out.later (hdr _))
  have Rq4 := Lib.hid (Rq4.out.later (hdr _))
  have B := Lib.hid (B.out.trans ((hdr _).mono B.out.size))
  clear hdr
  refine wpAnyH_take (i := 0) (v := ?_) rfl (by kernel_rfl) (by kernel_rfl) (by kernel_rfl) (fun _ _ _ h => h) (Or.inl ⟨by rfl, ?_⟩) (by assumption) ?_
  rotate_left
  · intro V hSw
    (try dsimp only at hSw)
    go_simp
    (try with_reducible rfl)
  simp only [List.getElem_toArray, List.getElem_cons_succ, List.getElem_cons_zero, Act.put, List.setIfInBounds_toArray, List.set_cons_zero, List.set_cons_succ]
  refine wpAnyH_take (i := 1) (v := ?_) rfl (by kernel_rfl) (by kernel_rfl) (by kernel_rfl) (fun _ _ _ h => h) (Or.inl ⟨by rfl, ?_⟩) (by assumption) ?_
  rotate_left
  · intro V hSw
    (try dsimp only at hSw)
    go_simp
    (try with_reducible rfl)
  simp only [List.getElem_toArray, List.getElem_cons_succ, List.getElem_cons_zero, Act.put, List.setIfInBounds_toArray, List.set_cons_zero, List.set_cons_succ]
  refine wpAnyH_ready (rs := [2]) (by kernel_rfl) (by simp) ?_
  refine AllReadyH.cons rfl (fun K hK => ?_) ?_
  rotate_left
  · exact AllReadyH.nil
  go_simp
  go_wp2_with (go_at_call 68; refine (laws_toNetNet x0 A0 c0 none _ (HN0.out.later B.out) tl0 TS0.out).mono ?_; rintro e w9 ⟨gz0, hgz0, rfl, hFz0, hb⟩)
  have Fz0 := Lib.hid hFz0
  clear hFz0 hgz0
  have P0 := Lib.hid (P0.out.later hb)
  have P1 := Lib.hid (P1.out.later hb)
  have X0 := Lib.hid (X0.out.later hb)
  have X1 := Lib.hid (X1.out.later hb)
  have Fp := Lib.hid (Fp.out.later hb)
  have Rq1 := Lib.hid (Rq1.out.later hb)
  have Rq2 := Lib.hid (Rq2.out.later hb)
  have Rq3 := Lib.hid (Rq3.out.later hb)
  have Rq4 := Lib.hid (Rq4.out.later hb)
  have B := Lib.hid (B.out.trans (hb.mono B.out.size))
  have SF : Hid ((fun V : World => V.cell? ⟨w.heap.size, 0, none⟩ = some (.int .i64 x0.places) ∧ V.cell? ⟨w.heap.size, 1, none⟩ = some (.slice A0 x0.tasks.length c0) ∧ V.cell? ⟨w.heap.size + 1, 0, none⟩ = some (.int .i64 x1.state) ∧ V.cell? ⟨w.heap.size + 1, 1, none⟩ = some (.slice A11 x1.marks.length c11) ∧ V.cell? ⟨w.heap.size + 1, 2, none⟩ = some (.slice A12 x1.busy.length c12) ∧ V.cell? ⟨w.heap.size + 1, 3, none⟩ = some (.slice A13 x1.data.length c13) ∧ V.cell? ⟨w.heap.size + 1, 4, none⟩ = some (.slice A14 x1.did.length c14) ∧ V.cell? ⟨w6.heap.size, 0, none⟩ = some (.int .i64 x0.places) ∧ V.cell? ⟨w6.heap.size, 1, none⟩ = some (.slice (some ⟨gp, 0, none⟩) x0.tasks.length x0.tasks.length) ∧ V.cell? ⟨w7.heap.size, 0, none⟩ = some (.int .i64 x1.state) ∧ V.cell? ⟨w7.heap.size, 1, none⟩ = some (.slice Dq1 x1.marks.length dq1) ∧ V.cell? ⟨w7.heap.size, 2, none⟩ = some (.slice Dq2 x1.busy.length dq2) ∧ V.cell? ⟨w7.heap.size, 3, none⟩ = some (.slice Dq3 x1.data.length dq3) ∧ V.cell? ⟨w7.heap.size, 4, none⟩ = some (.slice Dq4 x1.did.length dq4)) w9) := ⟨P0.out.cell 0, P0.out.cell 1, P1.out.cell 0, P1.out.cell 1, P1.out.cell 2, P1.out.cell 3, P1.out.cell 4, X0.out.cell 0, X0.out.cell 1, X1.out.cell 0, X1.out.cell 1, X1.out.cell 2, X1.out.cell 3, X1.out.cell 4⟩
  clear hb
  refine hK.out _ _ SF.out (fun hHeld => ?_)
  clear hK K
  refine wpAnyH_ready (rs := [3]) (by kernel_rfl) (by simp) ?_
  refine AllReadyH.cons rfl (fun K hK => ?_) ?_
  rotate_left
  · exact AllReadyH.nil
  go_simp
  go_wp2_with (go_at_call 71; refine (laws_eqNetNet x0 _ _ _ _ _ _ _ (MadeN.rows Fp.out tl0) (MadeN.rows Fz0.out tl0)).mono ?_; rintro e w10 ⟨rfl, hb⟩)
  have P0 := Lib.hid (P0.out.later hb)
  have P1 := Lib.hid (P1.out.later hb)
  have X0 := Lib.hid (X0.out.later hb)
  have X1 := Lib.hid (X1.out.later hb)
  have Fp := Lib.hid (Fp.out.later hb)
  have Rq1 := Lib.hid (Rq1.out.later hb)
  have Rq2 := Lib.hid (Rq2.out.later hb)
  have Rq3 := Lib.hid (Rq3.out.later hb)
  have Rq4 := Lib.hid (Rq4.out.later hb)
  have Fz0 := Lib.hid (Fz0.out.later hb)
  have B := Lib.hid (B.out.trans (hb.mono B.out.size))
  have SF : Hid ((fun V : World => V.cell? ⟨w.heap.size, 0, none⟩ = some (.int .i64 x0.places) ∧ V.cell? ⟨w.heap.size, 1, none⟩ = some (.slice A0 x0.tasks.length c0) ∧ V.cell? ⟨w.heap.size + 1, 0, none⟩ = some (.int .i64 x1.state) ∧ V.cell? ⟨w.heap.size + 1, 1, none⟩ = some (.slice A11 x1.marks.length c11) ∧ V.cell? ⟨w.heap.size + 1, 2, none⟩ = some (.slice A12 x1.busy.length c12) ∧ V.cell? ⟨w.heap.size + 1, 3, none⟩ = some (.slice A13 x1.data.length c13) ∧ V.cell? ⟨w.heap.size + 1, 4, none⟩ = some (.slice A14 x1.did.length c14) ∧ V.cell? ⟨w6.heap.size, 0, none⟩ = some (.int .i64 x0.places) ∧ V.cell? ⟨w6.heap.size, 1, none⟩ = some (.slice (some ⟨gp, 0, none⟩) x0.tasks.length x0.tasks.length) ∧ V.cell? ⟨w7.heap.size, 0, none⟩ = some (.int .i64 x1.state) ∧ V.cell? ⟨w7.heap.size, 1, none⟩ = some (.slice Dq1 x1.marks.length dq1) ∧ V.cell? ⟨w7.heap.size, 2, none⟩ = some (.slice Dq2 x1.busy.length dq2) ∧ V.cell? ⟨w7.heap.size, 3, none⟩ = some (.slice Dq3 x1.data.length dq3) ∧ V.cell? ⟨w7.heap.size, 4, none⟩ = some (.slice Dq4 x1.did.length dq4)) w10) := ⟨P0.out.cell 0, P0.out.cell 1, P1.out.cell 0, P1.out.cell 1, P1.out.cell 2, P1.out.cell 3, P1.out.cell 4, X0.out.cell 0, X0.out.cell 1, X1.out.cell 0, X1.out.cell 1, X1.out.cell 2, X1.out.cell 3, X1.out.cell 4⟩
  clear hb
  refine hK.out _ _ SF.out (fun hHeld => ?_)
  clear hK K
  refine wpAnyH_take (i := 4) (v := ?_) rfl (by kernel_rfl) (by kernel_rfl) (by kernel_rfl) (fun _ _ _ h => h) (Or.inl ⟨by rfl, ?_⟩) (by assumption) ?_
  rotate_left
  · intro V hSw
    (try dsimp only at hSw)
    go_simp
    (try with_reducible rfl)
  simp only [List.getElem_toArray, List.getElem_cons_succ, List.getElem_cons_zero, Act.put, List.setIfInBounds_toArray, List.set_cons_zero, List.set_cons_succ]
  refine wpAnyH_done (by kernel_rfl) ?_ _
  have kP0 := fun i => P0.out.cell i
  have kP1 := fun i => P1.out.cell i
  have kX0 := fun i => X0.out.cell i
  have kX1 := fun i => X1.out.cell i
  go_wp2
  clear kP0 kP1 kX0 kX1
  have hdr := fun V : World => (Below.refl V.heap.size V).drew
  refine wp_region_held_drew (S := (fun V : World => V.cell? ⟨w.heap.size, 0, none⟩ = some (.int .i64 x0.places) ∧ V.cell? ⟨w.heap.size, 1, none⟩ = some (.slice A0 x0.tasks.length c0) ∧ V.cell? ⟨w.heap.size + 1, 0, none⟩ = some (.int .i64 x1.state) ∧ V.cell? ⟨w.heap.size + 1, 1, none⟩ = some (.slice A11 x1.marks.length c11) ∧ V.cell? ⟨w.heap.size + 1, 2, none⟩ = some (.slice A12 x1.busy.length c12) ∧ V.cell? ⟨w.heap.size + 1, 3, none⟩ = some (.slice A13 x1.data.length c13) ∧ V.cell? ⟨w.heap.size + 1, 4, none⟩ = some (.slice A14 x1.did.length c14) ∧ V.cell? ⟨w6.heap.size, 0, none⟩ = some (.int .i64 x0.places) ∧ V.cell? ⟨w6.heap.size, 1, none⟩ = some (.slice (some ⟨gp, 0, none⟩) x0.tasks.length x0.tasks.length) ∧ V.cell? ⟨w7.heap.size, 0, none⟩ = some (.int .i64 x1.state) ∧ V.cell? ⟨w7.heap.size, 1, none⟩ = some (.slice Dq1 x1.marks.length dq1) ∧ V.cell? ⟨w7.heap.size, 2, none⟩ = some (.slice Dq2 x1.busy.length dq2) ∧ V.cell? ⟨w7.heap.size, 3, none⟩ = some (.slice Dq3 x1.data.length dq3) ∧ V.cell? ⟨w7.heap.size, 4, none⟩ = some (.slice Dq4 x1.did.length dq4))) (by kernel_rfl) ⟨P0.out.cell 0, P0.out.cell 1, P1.out.cell 0, P1.out.cell 1, P1.out.cell 2, P1.out.cell 3, P1.out.cell 4, X0.out.cell 0, X0.out.cell 1, X1.out.cell 0, X1.out.cell 1, X1.out.cell 2, X1.out.cell 3, X1.out.cell 4⟩ (fun hHeld => ?_)
  have P0 := Lib.hid (P0.out.later (hdr _))
  have P1 := Lib.hid (P1.out.later (hdr _))
  have X0 := Lib.hid (X0.out.later (hdr _))
  have X1 := Lib.hid (X1.out.later (hdr _))
  have Fp := Lib.hid (Fp.out.later (hdr _))
  have Rq1 := Lib.hid (Rq1.out.later (hdr _))
  have Rq2 := Lib.hid (Rq2.out.later (hdr _))
  have Rq3 := Lib.hid (Rq3.out.later (hdr _))
  have Rq4 := Lib.hid (Rq4.out.later (hdr _))
  have Fz0 := Lib.hid (Fz0.out.later (hdr _))
  have B := Lib.hid (B.out.trans ((hdr _).mono B.out.size))
  clear hdr
  refine wpAnyH_take (i := 0) (v := ?_) rfl (by kernel_rfl) (by kernel_rfl) (by kernel_rfl) (fun _ _ _ h => h) (Or.inl ⟨by rfl, ?_⟩) (by assumption) ?_
  rotate_left
  · intro V hSw
    (try dsimp only at hSw)
    go_simp
    (try with_reducible rfl)
  simp only [List.getElem_toArray, List.getElem_cons_succ, List.getElem_cons_zero, Act.put, List.setIfInBounds_toArray, List.set_cons_zero, List.set_cons_succ]
  refine wpAnyH_take (i := 1) (v := ?_) rfl (by kernel_rfl) (by kernel_rfl) (by kernel_rfl) (fun _ _ _ h => h) (Or.inl ⟨by rfl, ?_⟩) (by assumption) ?_
  rotate_left
  · intro V hSw
    (try dsimp only at hSw)
    go_simp
    (try with_reducible rfl)
  simp only [List.getElem_toArray, List.getElem_cons_succ, List.getElem_cons_zero, Act.put, List.setIfInBounds_toArray, List.set_cons_zero, List.set_cons_succ]
  refine wpAnyH_ready (rs := [2]) (by kernel_rfl) (by simp) ?_
  refine AllReadyH.cons rfl (fun K hK => ?_) ?_
  rotate_left
  · exact AllReadyH.nil
  go_simp
  go_wp2_with (go_at_call 85; refine (laws_toCasCase x1 _ _ _ _ _ _ _ _ none _ (HC11.out.later B.out) (HC12.out.later B.out) (HC13.out.later B.out) (HC14.out.later B.out) L11 L12 L13 L14).mono ?_; rintro e w11 ⟨ctz1, rfl, ⟨Dz11, dz11, Dz12, dz12, Dz13, dz13, Dz14, dz14, rfl, hRz11, hRz12, hRz13, hRz14⟩, hb⟩)
  have Rz11 := Lib.hid hRz11
  have Rz12 := Lib.hid hRz12
  have Rz13 := Lib.hid hRz13
  have Rz14 := Lib.hid hRz14
  clear hRz11 hRz12 hRz13 hRz14
  have P0 := Lib.hid (P0.out.later hb)
  have P1 := Lib.hid (P1.out.later hb)
  have X0 := Lib.hid (X0.out.later hb)
  have X1 := Lib.hid (X1.out.later hb)
  have Fp := Lib.hid (Fp.out.later hb)
  have Rq1 := Lib.hid (Rq1.out.later hb)
  have Rq2 := Lib.hid (Rq2.out.later hb)
  have Rq3 := Lib.hid (Rq3.out.later hb)
  have Rq4 := Lib.hid (Rq4.out.later hb)
  have Fz0 := Lib.hid (Fz0.out.later hb)
  have B := Lib.hid (B.out.trans (hb.mono B.out.size))
  have SF : Hid ((fun V : World => V.cell? ⟨w.heap.size, 0, none⟩ = some (.int .i64 x0.places) ∧ V.cell? ⟨w.heap.size, 1, none⟩ = some (.slice A0 x0.tasks.length c0) ∧ V.cell? ⟨w.heap.size + 1, 0, none⟩ = some (.int .i64 x1.state) ∧ V.cell? ⟨w.heap.size + 1, 1, none⟩ = some (.slice A11 x1.marks.length c11) ∧ V.cell? ⟨w.heap.size + 1, 2, none⟩ = some (.slice A12 x1.busy.length c12) ∧ V.cell? ⟨w.heap.size + 1, 3, none⟩ = some (.slice A13 x1.data.length c13) ∧ V.cell? ⟨w.heap.size + 1, 4, none⟩ = some (.slice A14 x1.did.length c14) ∧ V.cell? ⟨w6.heap.size, 0, none⟩ = some (.int .i64 x0.places) ∧ V.cell? ⟨w6.heap.size, 1, none⟩ = some (.slice (some ⟨gp, 0, none⟩) x0.tasks.length x0.tasks.length) ∧ V.cell? ⟨w7.heap.size, 0, none⟩ = some (.int .i64 x1.state) ∧ V.cell? ⟨w7.heap.size, 1, none⟩ = some (.slice Dq1 x1.marks.length dq1) ∧ V.cell? ⟨w7.heap.size, 2, none⟩ = some (.slice Dq2 x1.busy.length dq2) ∧ V.cell? ⟨w7.heap.size, 3, none⟩ = some (.slice Dq3 x1.data.length dq3) ∧ V.cell? ⟨w7.heap.size, 4, none⟩ = some (.slice Dq4 x1.did.length dq4)) w11) := ⟨P0.out.cell 0, P0.out.cell 1, P1.out.cell 0, P1.out.cell 1, P1.out.cell 2, P1.out.cell 3, P1.out.cell 4, X0.out.cell 0, X0.out.cell 1, X1.out.cell 0, X1.out.cell 1, X1.out.cell 2, X1.out.cell 3, X1.out.cell 4⟩
  clear hb
  refine hK.out _ _ SF.out (fun hHeld => ?_)
  clear hK K
  refine wpAnyH_ready (rs := [3]) (by kernel_rfl) (by simp) ?_
  refine AllReadyH.cons rfl (fun K hK => ?_) ?_
  rotate_left
  · exact AllReadyH.nil
  go_simp
  go_wp2_with (go_at_call 70; refine (laws_eqCasCase x1 _ _ _ _ _ _ _ _ _ _ _ _ _ _ _ _ _ _ _ Rq1.out Rz11.out Rq2.out Rz12.out Rq3.out Rz13.out Rq4.out Rz14.out).mono ?_; rintro e w12 ⟨rfl, hb⟩)
  have P0 := Lib.hid (P0.out.later hb)
  have P1 := Lib.hid (P1.out.later hb)
  have X0 := Lib.hid (X0.out.later hb)
  have X1 := Lib.hid (X1.out.later hb)
  have Fp := Lib.hid (Fp.out.later hb)
  have Rq1 := Lib.hid (Rq1.out.later hb)
  have Rq2 := Lib.hid (Rq2.out.later hb)
  have Rq3 := Lib.hid (Rq3.out.later hb)
  have Rq4 := Lib.hid (Rq4.out.later hb)
  have Fz0 := Lib.hid (Fz0.out.later hb)
  have Rz11 := Lib.hid (Rz11.out.later hb)
  have Rz12 := Lib.hid (Rz12.out.later hb)
  have Rz13 := Lib.hid (Rz13.out.later hb)
  have Rz14 := Lib.hid (Rz14.out.later hb)
  have B := Lib.hid (B.out.trans (hb.mono B.out.size))
  have SF : Hid ((fun V : World => V.cell? ⟨w.heap.size, 0, none⟩ = some (.int .i64 x0.places) ∧ V.cell? ⟨w.heap.size, 1, none⟩ = some (.slice A0 x0.tasks.length c0) ∧ V.cell? ⟨w.heap.size + 1, 0, none⟩ = some (.int .i64 x1.state) ∧ V.cell? ⟨w.heap.size + 1, 1, none⟩ = some (.slice A11 x1.marks.length c11) ∧ V.cell? ⟨w.heap.size + 1, 2, none⟩ = some (.slice A12 x1.busy.length c12) ∧ V.cell? ⟨w.heap.size + 1, 3, none⟩ = some (.slice A13 x1.data.length c13) ∧ V.cell? ⟨w.heap.size + 1, 4, none⟩ = some (.slice A14 x1.did.length c14) ∧ V.cell? ⟨w6.heap.size, 0, none⟩ = some (.int .i64 x0.places) ∧ V.cell? ⟨w6.heap.size, 1, none⟩ = some (.slice (some ⟨gp, 0, none⟩) x0.tasks.length x0.tasks.length) ∧ V.cell? ⟨w7.heap.size, 0, none⟩ = some (.int .i64 x1.state) ∧ V.cell? ⟨w7.heap.size, 1, none⟩ = some (.slice Dq1 x1.marks.length dq1) ∧ V.cell? ⟨w7.heap.size, 2, none⟩ = some (.slice Dq2 x1.busy.length dq2) ∧ V.cell? ⟨w7.heap.size, 3, none⟩ = some (.slice Dq3 x1.data.length dq3) ∧ V.cell? ⟨w7.heap.size, 4, none⟩ = some (.slice Dq4 x1.did.length dq4)) w12) := ⟨P0.out.cell 0, P0.out.cell 1, P1.out.cell 0, P1.out.cell 1, P1.out.cell 2, P1.out.cell 3, P1.out.cell 4, X0.out.cell 0, X0.out.cell 1, X1.out.cell 0, X1.out.cell 1, X1.out.cell 2, X1.out.cell 3, X1.out.cell 4⟩
  clear hb
  refine hK.out _ _ SF.out (fun hHeld => ?_)
  clear hK K
  refine wpAnyH_take (i := 4) (v := ?_) rfl (by kernel_rfl) (by kernel_rfl) (by kernel_rfl) (fun _ _ _ h => h) (Or.inl ⟨by rfl, ?_⟩) (by assumption) ?_
  rotate_left
  · intro V hSw
    (try dsimp only at hSw)
    go_simp
    (try with_reducible rfl)
  simp only [List.getElem_toArray, List.getElem_cons_succ, List.getElem_cons_zero, Act.put, List.setIfInBounds_toArray, List.set_cons_zero, List.set_cons_succ]
  refine wpAnyH_done (by kernel_rfl) ?_ _
  go_wp2
  go_ret
  exact ⟨rfl, B.out⟩
end Go.Proofs.Ytkoaaagmcjjimaa
