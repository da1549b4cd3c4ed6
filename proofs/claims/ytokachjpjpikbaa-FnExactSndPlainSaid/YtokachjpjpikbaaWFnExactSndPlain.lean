/- The walk of FnExactSndPlain: it returns true. -/
import Derived.Test.YtokachjpjpikbaaPlain
import Derived.Test.YtokachjpjpikbaaCopyNet
import Derived.Deep.RegionHeld3
namespace Go.Proofs.Ytokachjpjpikbaa
open Go.RowKit
set_option linter.unusedSimpArgs false
set_option linter.unusedVariables false

set_option maxRecDepth 100000 in
set_option maxHeartbeats 8000000 in
theorem walk_FnExactSndPlain (v0 : Value) (x0 : GNet) (w : World) (h0 : ∃ cs : List Value, v0 = .agg cs.toArray ∧ netC.R none w w.heap.size x0 cs) :
    Calls Try.prog 6 #[v0] w fun e w' => e = .returned (.bool true) ∧ Below w.heap.size w w' := by
  obtain ⟨cs0, rfl, A0, c0, rfl, hn0⟩ := h0
  have HN0 := Lib.hid hn0
  clear hn0
  go_enter Try.func6, Try.ntmps6
  go_wp2_with fail
  refine callsAt fun W hW => ?_
  have P0 : Hid (Bk W (w.heap.size) 57 #[.int .i64 x0.places, .slice A0 x0.tasks.length c0]) := by show Bk _ _ _ _; rw [hW]; exact Bk.new rfl
  have B : Hid (Below w.heap.size w W) := by show Below _ _ _; rw [hW]; go_grown
  clear hW
  refine (laws_szNetNet x0 A0 c0 none 1048576 (by omega) (by omega) _ (HN0.out.later B.out)).mono ?_
  rintro e w1 ⟨l0, rfl, hl0, hu0, hf0, hb⟩
  have TF0 := Lib.hid hf0
  clear hf0
  have P0 := Lib.hid (P0.out.later hb)
  have B := Lib.hid (B.out.trans (hb.mono B.out.size))
  clear hb
  by_cases hneg : l0 < 0
  · have kP0 := fun i => P0.out.cell i
    go_wp2
    go_ret
    exact ⟨rfl, B.out⟩
  obtain ⟨tl0, ts0⟩ := TF0.out (by omega)
  have TS0 := Lib.hid ts0
  clear ts0 TF0
  have kP0 := fun i => P0.out.cell i
  go_wp2_with fail
  clear kP0
  refine (laws_toNetNet x0 A0 c0 none _ (HN0.out.later B.out) tl0 TS0.out).mono ?_
  rintro e w2 ⟨ga, hga, rfl, hFa, hb⟩
  have Fa := Lib.hid hFa
  clear hFa hga
  have P0 := Lib.hid (P0.out.later hb)
  have B := Lib.hid (B.out.trans (hb.mono B.out.size))
  clear hb
  have kP0 := fun i => P0.out.cell i
  go_wp2_with fail
  clear kP0
  refine (spec_SndPlain x0 _ _ _ _ (MadeN.rows Fa.out tl0)).mono ?_
  rintro e w3 ⟨rfl, hb⟩
  have P0 := Lib.hid (P0.out.later hb)
  have Fa := Lib.hid (Fa.out.later hb)
  have B := Lib.hid (B.out.trans (hb.mono B.out.size))
  clear hb
  clear Fa
  have kP0 := fun i => P0.out.cell i
  go_wp2_with fail
  clear kP0
  refine (laws_toNetNet x0 A0 c0 none _ (HN0.out.later B.out) tl0 TS0.out).mono ?_
  rintro e w4 ⟨gp, hgp, rfl, hFp, hb⟩
  have Fp := Lib.hid hFp
  clear hFp hgp
  have P0 := Lib.hid (P0.out.later hb)
  have B := Lib.hid (B.out.trans (hb.mono B.out.size))
  clear hb
  have kP0 := fun i => P0.out.cell i
  go_wp2_with fail
  clear kP0
  refine callsAt fun W hW => ?_
  have hb : Below w4.heap.size w4 W := by rw [hW]; exact (Below.refl _ _).alloc (Nat.le_refl _) _
  have P0 := Lib.hid (P0.out.later hb)
  have Fp := Lib.hid (Fp.out.later hb)
  have B := Lib.hid (B.out.trans (hb.mono B.out.size))
  have X0 : Hid (Bk W w4.heap.size 52 #[.int .i64 x0.places, .slice (some ⟨gp, 0, none⟩) x0.tasks.length x0.tasks.length]) := by show Bk _ _ _ _; rw [hW]; exact Bk.new rfl
  clear hW hb
  refine (impl_SndPlain x0 _ _ _ _ (MadeN.rows Fp.out tl0)).mono ?_
  rintro e w5 ⟨rfl, hb⟩
  have P0 := Lib.hid (P0.out.later hb)
  have X0 := Lib.hid (X0.out.later hb)
  have Fp := Lib.hid (Fp.out.later hb)
  have B := Lib.hid (B.out.trans (hb.mono B.out.size))
  clear hb
  have kP0 := fun i => P0.out.cell i
  have kX0 := fun i => X0.out.cell i
  go_wp2
  clear kP0 kX0
  have hdr := fun V : World => (Below.refl V.heap.size V).drew
  refine wp_region_held_drew (S := (fun V : World => V.cell? ⟨w.heap.size, 0, none⟩ = some (.int .i64 x0.places) ∧ V.cell? ⟨w.heap.size, 1, none⟩ = some (.slice A0 x0.tasks.length c0) ∧ V.cell? ⟨w4.heap.size, 0, none⟩ = some (.int .i64 x0.places) ∧ V.cell? ⟨w4.heap.size, 1, none⟩ = some (.slice (some ⟨gp, 0, none⟩) x0.tasks.length x0.tasks.length))) (by kernel_rfl) ⟨P0.out.cell 0, P0.out.cell 1, X0.out.cell 0, X0.out.cell 1⟩ (fun hHeld => ?_)
  have P0 := Lib.hid (P0.out.later (hdr _))
  have X0 := Lib.hid (X0.out.later (hdr _))
  have Fp := Lib.hid (Fp.out.later (hdr _))
  have B := Lib.hid (B.out.trans ((hdr _).mono B.out.size))
  clear hdr
  refine wpAnyH_take (i := 0) (v := ?_) rfl (by kernel_rfl) (by kernel_rfl) (by kernel_rfl) (fun _ _ _ h => h) (Or.inl ⟨by rfl, ?_⟩) (by assumption) ?_
  rotate_left
  · intro V hSw
    (try dsimp only at hSw)
    go_simp
    (try with_reducible rfl)
  simp only [List.getElem_toArray, List.getElem_cons_succ, List.getElem_cons_zero, Act.put, List.setIfInBounds_toArray, List.set_cons_zero, List.set_cons_succ]
  refine wpAnyH_take (i := 1) (v := ?_) rfl (by kernel_rfl) (by kernel_rfl) (by kernel_rfl) (fun _ _ _ h => h) (Or.inl ⟨by rfl, ?_⟩) (by assumption) ?_
  rotate_left
  · intro V hSw
    (try dsimp only at hSw)
    go_simp
    (try with_reducible rfl)
  simp only [List.getElem_toArray, List.getElem_cons_succ, List.getElem_cons_zero, Act.put, List.setIfInBounds_toArray, List.set_cons_zero, List.set_cons_succ]
  refine wpAnyH_ready (rs := [2]) (by kernel_rfl) (by simp) ?_
  refine AllReadyH.cons rfl (fun K hK => ?_) ?_
  rotate_left
  · exact AllReadyH.nil
  go_simp
  go_wp2_with (go_at_call 42; refine (laws_toNetNet x0 A0 c0 none _ (HN0.out.later B.out) tl0 TS0.out).mono ?_; rintro e w6 ⟨gz0, hgz0, rfl, hFz0, hb⟩)
  have Fz0 := Lib.hid hFz0
  clear hFz0 hgz0
  have P0 := Lib.hid (P0.out.later hb)
  have X0 := Lib.hid (X0.out.later hb)
  have Fp := Lib.hid (Fp.out.later hb)
  have B := Lib.hid (B.out.trans (hb.mono B.out.size))
  have SF : Hid ((fun V : World => V.cell? ⟨w.heap.size, 0, none⟩ = some (.int .i64 x0.places) ∧ V.cell? ⟨w.heap.size, 1, none⟩ = some (.slice A0 x0.tasks.length c0) ∧ V.cell? ⟨w4.heap.size, 0, none⟩ = some (.int .i64 x0.places) ∧ V.cell? ⟨w4.heap.size, 1, none⟩ = some (.slice (some ⟨gp, 0, none⟩) x0.tasks.length x0.tasks.length)) w6) := ⟨P0.out.cell 0, P0.out.cell 1, X0.out.cell 0, X0.out.cell 1⟩
  clear hb
  refine hK.out _ _ SF.out (fun hHeld => ?_)
  clear hK K
  refine wpAnyH_ready (rs := [3]) (by kernel_rfl) (by simp) ?_
  refine AllReadyH.cons rfl (fun K hK => ?_) ?_
  rotate_left
  · exact AllReadyH.nil
  go_simp
  go_wp2_with (go_at_call 43; refine (laws_eqNetNet x0 _ _ _ _ _ _ _ (MadeN.rows Fp.out tl0) (MadeN.rows Fz0.out tl0)).mono ?_; rintro e w7 ⟨rfl, hb⟩)
  have P0 := Lib.hid (P0.out.later hb)
  have X0 := Lib.hid (X0.out.later hb)
  have Fp := Lib.hid (Fp.out.later hb)
  have Fz0 := Lib.hid (Fz0.out.later hb)
  have B := Lib.hid (B.out.trans (hb.mono B.out.size))
  have SF : Hid ((fun V : World => V.cell? ⟨w.heap.size, 0, none⟩ = some (.int .i64 x0.places) ∧ V.cell? ⟨w.heap.size, 1, none⟩ = some (.slice A0 x0.tasks.length c0) ∧ V.cell? ⟨w4.heap.size, 0, none⟩ = some (.int .i64 x0.places) ∧ V.cell? ⟨w4.heap.size, 1, none⟩ = some (.slice (some ⟨gp, 0, none⟩) x0.tasks.length x0.tasks.length)) w7) := ⟨P0.out.cell 0, P0.out.cell 1, X0.out.cell 0, X0.out.cell 1⟩
  clear hb
  refine hK.out _ _ SF.out (fun hHeld => ?_)
  clear hK K
  refine wpAnyH_take (i := 4) (v := ?_) rfl (by kernel_rfl) (by kernel_rfl) (by kernel_rfl) (fun _ _ _ h => h) (Or.inl ⟨by rfl, ?_⟩) (by assumption) ?_
  rotate_left
  · intro V hSw
    (try dsimp only at hSw)
    go_simp
    (try with_reducible rfl)
  simp only [List.getElem_toArray, List.getElem_cons_succ, List.getElem_cons_zero, Act.put, List.setIfInBounds_toArray, List.set_cons_zero, List.set_cons_succ]
  refine wpAnyH_done (by kernel_rfl) ?_ _
  go_wp2
  go_ret
  exact ⟨rfl, B.out⟩
end Go.Proofs.Ytokachjpjpikbaa
