/- The walk of FnExactFirGive: it returns true. -/
import Derived.Test.YtokachjpjpikbaaFir
import Derived.Test.YtokachjpjpikbaaMarked
import Derived.Test.YtokachjpjpikbaaCopyNet
import Derived.Deep.RegionHeld3
namespace Go.Proofs.Ytokachjpjpikbaa
open Go.RowKit
set_option linter.unusedSimpArgs false
set_option linter.unusedVariables false

set_option maxRecDepth 100000 in
set_option maxHeartbeats 8000000 in
theorem walk_FnExactFirGive (v0 : Value) (x0 : GNet) (A1 : Option Addr) (c1 : Nat) (x1 : List Int) (t2 : Int) (A3 : Option Addr) (c3 : Nat) (x3 : List Int) (w : World) (h0 : ∃ cs : List Value, v0 = .agg cs.toArray ∧ netC.R none w w.heap.size x0 cs) (h1 : Ints w w.heap.size A1 x1) (_ : -9223372036854775808 ≤ t2 ∧ t2 ≤ 9223372036854775807) (h3 : Ints w w.heap.size A3 x3) :
    Calls Try.prog 11 #[v0, .slice A1 x1.length c1, .int .i64 t2, .slice A3 x3.length c3] w fun e w' => e = .returned (.bool true) ∧ Below w.heap.size w w' := by
  obtain ⟨cs0, rfl, A0, c0, rfl, hn0⟩ := h0
  have HN0 := Lib.hid hn0
  clear hn0
  have HN1 := Lib.hid h1
  clear h1

  have HN3 := Lib.hid h3
  clear h3
  by_cases tl1 : x1.length ≤ 1048576
  rotate_left
  · have hz : (1048576 : Int) < (x1.length : Int) := by omega
    go_enter Try.func11, Try.ntmps11
    go_wp2
    go_ret
    exact ⟨rfl, by go_grown⟩
  by_cases tl3 : x3.length ≤ 1048576
  rotate_left
  · have hz : (1048576 : Int) < (x3.length : Int) := by omega
    have tz1 : ¬ (1048576 : Int) < (x1.length : Int) := by omega
    go_enter Try.func11, Try.ntmps11
    go_wp2
    go_ret
    exact ⟨rfl, by go_grown⟩
  go_enter Try.func11, Try.ntmps11
  go_wp2_with fail
  refine callsAt fun W hW => ?_
  have P0 : Hid (Bk W (w.heap.size) 57 #[.int .i64 x0.places, .slice A0 x0.tasks.length c0]) := by show Bk _ _ _ _; rw [hW]; exact Bk.new rfl
  have B : Hid (Below w.heap.size w W) := by show Below _ _ _; rw [hW]; go_grown
  have zW : w.heap.size + 1 ≤ W.heap.size := by rw [hW]; simp only [World.size_alloc]; omega
  clear hW
  refine (laws_szNetNet x0 A0 c0 none 1048576 (by omega) (by omega) _ (HN0.out.later B.out)).mono ?_
  rintro e w1 ⟨l0, rfl, hl0, hu0, hf0, hb⟩
  have TF0 := Lib.hid hf0
  clear hf0
  have P0 := Lib.hid (P0.out.later hb)
  have B := Lib.hid (B.out.trans (hb.mono B.out.size))
  have zw1 := hb.size
  clear hb
  by_cases hneg : l0 < 0
  · have kP0 := fun i => P0.out.cell i
    go_wp2
    go_ret
    exact ⟨rfl, B.out⟩
  obtain ⟨tl0, ts0⟩ := TF0.out (by omega)
  have TS0 := Lib.hid ts0
  clear ts0 TF0
  have kP0 := fun i => P0.out.cell i
  go_wp2_with fail
  clear kP0
  refine (laws_toNetNet x0 A0 c0 none _ (HN0.out.later B.out) tl0 TS0.out).mono ?_
  rintro e w2 ⟨ga0, hga0, rfl, hFa0, hb⟩
  have Fa0 := Lib.hid hFa0
  clear hFa0 hga0
  have P0 := Lib.hid (P0.out.later hb)
  have B := Lib.hid (B.out.trans (hb.mono B.out.size))
  have zw2 := hb.size
  clear hb
  have kP0 := fun i => P0.out.cell i
  go_wp2_with fail
  clear kP0
  refine (laws_toIntS A1 c1 x1 _ w.heap.size B.out.size (HN1.out.below B.out) tl1).mono ?_
  rintro e w3 ⟨rfl, hw, hb⟩
  have Fa1 := Lib.hid hw
  clear hw
  have P0 := Lib.hid (P0.out.later hb)
  have Fa0 := Lib.hid (Fa0.out.later hb)
  have B := Lib.hid (B.out.trans (hb.mono B.out.size))
  have zw3 := hb.size
  clear hb
  have kP0 := fun i => P0.out.cell i
  go_wp2_with fail
  clear kP0
  refine (laws_toIntS A3 c3 x3 _ w.heap.size B.out.size (HN3.out.below B.out) tl3).mono ?_
  rintro e w4 ⟨rfl, hw, hb⟩
  have Fa3 := Lib.hid hw
  clear hw
  have P0 := Lib.hid (P0.out.later hb)
  have Fa0 := Lib.hid (Fa0.out.later hb)
  have Fa1 := Lib.hid (Fa1.out.later hb)
  have B := Lib.hid (B.out.trans (hb.mono B.out.size))
  have zw4 := hb.size
  clear hb
  have kP0 := fun i => P0.out.cell i
  go_wp2_with fail
  clear kP0
  refine (spec_FirGive x0 _ _  _ _ x1  t2 _ _ x3  _ _ (MadeN.rows Fa0.out tl0) (Fa1.out.ints Fa1.out.lt (by omega)) (Fa3.out.ints Fa3.out.lt (by omega))).mono ?_
  rintro e w5 ⟨vS, rfl, hvS, hb⟩
  obtain ⟨AS, cS, hv, oS⟩ := OwnI.of_v hvS
  subst hv
  have hlen := firOf_len x0 x1 t2 x3 tl1
  have P0 := Lib.hid (P0.out.later hb)
  have Fa0 := Lib.hid (Fa0.out.later hb)
  have Fa1 := Lib.hid (Fa1.out.later hb)
  have Fa3 := Lib.hid (Fa3.out.later hb)
  have B := Lib.hid (B.out.trans (hb.mono B.out.size))
  have zw5 := hb.size
  clear hb
  have I0 : Hid (Want w5.heap.size AS ((firOf x0 x1 t2 x3).1) w5) := ⟨Nat.le_refl _, oS.ints (by omega)⟩
  clear hvS oS
  generalize hout : firOf x0 x1 t2 x3 = rr at *
  have HOUT := Lib.hid hout
  clear hout
  obtain ⟨out, rb⟩ := rr
  dsimp only at hlen I0 ⊢
  clear Fa0 Fa1 Fa3
  have kP0 := fun i => P0.out.cell i
  go_wp2_with fail
  clear kP0
  refine (laws_toNetNet x0 A0 c0 none _ (HN0.out.later B.out) tl0 TS0.out).mono ?_
  rintro e w6 ⟨gp0, hgp0, rfl, hFp0, hb⟩
  have Fp0 := Lib.hid hFp0
  have Hp0 := Lib.hid (NetHeld.of_filled hFp0 hgp0)
  clear hFp0 hgp0
  have P0 := Lib.hid (P0.out.later hb)
  have I0 := Lib.hid (I0.out.later hb)
  have B := Lib.hid (B.out.trans (hb.mono B.out.size))
  have zw6 := hb.size
  clear hb
  have jP0 := fun o i => (P0.out.alloc o).cell i
  have kP0 := fun i => P0.out.cell i
  go_wp2_with fail
  clear kP0
  clear jP0
  refine callsAt fun w7 hW => ?_
  have hb : Below w6.heap.size w6 w7 := by rw [hW]; exact (Below.refl _ _).alloc (Nat.le_refl _) _
  have P0 := Lib.hid (P0.out.later hb)
  have I0 := Lib.hid (I0.out.later hb)
  have Fp0 := Lib.hid (Fp0.out.later hb)
  have Hp0 := Lib.hid (Hp0.out.later hb)
  have B := Lib.hid (B.out.trans (hb.mono B.out.size))
  have zw7 := hb.size
  have X0 : Hid (Bk w7 w6.heap.size 52 #[.int .i64 x0.places, .slice (some ⟨gp0, 0, none⟩) x0.tasks.length x0.tasks.length]) := by show Bk _ _ _ _; rw [hW]; exact Bk.new rfl
  have yX0 := X0.out.lt
  clear hW hb
  refine (laws_toIntS A1 c1 x1 _ w.heap.size B.out.size (HN1.out.below B.out) tl1).mono ?_
  rintro e w8 ⟨rfl, hw, hb⟩
  have Fp1 := Lib.hid hw
  have Hp1 := Lib.hid (IntHeld.ints (lo := w7.heap.size) hw (by omega) (Nat.le_refl _))
  clear hw
  have P0 := Lib.hid (P0.out.later hb)
  have X0 := Lib.hid (X0.out.later hb)
  have I0 := Lib.hid (I0.out.later hb)
  have Fp0 := Lib.hid (Fp0.out.later hb)
  have Hp0 := Lib.hid (Hp0.out.later hb)
  have B := Lib.hid (B.out.trans (hb.mono B.out.size))
  have zw8 := hb.size
  clear hb
  have kP0 := fun i => P0.out.cell i
  have kX0 := fun i => X0.out.cell i
  go_wp2_with fail
  clear kP0 kX0
  refine (laws_toIntS A3 c3 x3 _ w.heap.size B.out.size (HN3.out.below B.out) tl3).mono ?_
  rintro e w9 ⟨rfl, hw, hb⟩
  have Fp3 := Lib.hid hw
  have Hp3 := Lib.hid (IntHeld.ints (lo := w8.heap.size) hw (by omega) (Nat.le_refl _))
  clear hw
  have P0 := Lib.hid (P0.out.later hb)
  have X0 := Lib.hid (X0.out.later hb)
  have I0 := Lib.hid (I0.out.later hb)
  have Fp0 := Lib.hid (Fp0.out.later hb)
  have Hp0 := Lib.hid (Hp0.out.later hb)
  have Fp1 := Lib.hid (Fp1.out.later hb)
  have Hp1 := Lib.hid (Hp1.out.later hb)
  have B := Lib.hid (B.out.trans (hb.mono B.out.size))
  have zw9 := hb.size
  clear hb
  have kP0 := fun i => P0.out.cell i
  have kX0 := fun i => X0.out.cell i
  go_wp2_with fail
  clear kP0 kX0
  refine (impl_FirGive x0 _ _  _ _ x1  t2 _ _ x3  _ _ (MadeN.rows Fp0.out tl0) (Fp1.out.ints Fp1.out.lt (by omega)) (Fp3.out.ints Fp3.out.lt (by omega))).mono ?_
  rintro e w10 ⟨vG, rfl, hvG, hb⟩
  rw [HOUT.out] at hvG
  obtain ⟨G, cG, hv, oG⟩ := OwnI.of_v hvG
  subst hv
  have GG := Lib.hid oG
  clear hvG oG
  rw [HOUT.out]
  dsimp only at GG ⊢
  have P0 := Lib.hid (P0.out.later hb)
  have X0 := Lib.hid (X0.out.later hb)
  have I0 := Lib.hid (I0.out.later hb)
  have Fp0 := Lib.hid (Fp0.out.later hb)
  have Hp0 := Lib.hid (Hp0.out.later hb)
  have Fp1 := Lib.hid (Fp1.out.later hb)
  have Hp1 := Lib.hid (Hp1.out.later hb)
  have Fp3 := Lib.hid (Fp3.out.later hb)
  have Hp3 := Lib.hid (Hp3.out.later hb)
  have B := Lib.hid (B.out.trans (hb.mono B.out.size))
  have zw10 := hb.size
  clear hb
  have kP0 := fun i => P0.out.cell i
  have kX0 := fun i => X0.out.cell i
  go_wp2_with fail
  clear kP0 kX0
  refine (laws_eqIntS _ _ _ _ out out _ w10.heap.size (GG.out.ints (by omega)) (I0.out.2.more I0.out.1)).mono ?_
  rintro e _ ⟨rfl, qc1, rfl⟩
  have hb : Below w10.heap.size w10 (w10.drewN qc1) := bdN (Below.refl _ _) _
  generalize w10.drewN qc1 = w11 at hb ⊢
  have P0 := Lib.hid (P0.out.later hb)
  have X0 := Lib.hid (X0.out.later hb)
  have I0 := Lib.hid (I0.out.later hb)
  have Fp0 := Lib.hid (Fp0.out.later hb)
  have Hp0 := Lib.hid (Hp0.out.later hb)
  have Fp1 := Lib.hid (Fp1.out.later hb)
  have Hp1 := Lib.hid (Hp1.out.later hb)
  have Fp3 := Lib.hid (Fp3.out.later hb)
  have Hp3 := Lib.hid (Hp3.out.later hb)
  have GG := Lib.hid (GG.out.later hb)
  have B := Lib.hid (B.out.trans (hb.mono B.out.size))
  have zw11 := hb.size
  clear hb
  have kP0 := fun i => P0.out.cell i
  have kX0 := fun i => X0.out.cell i
  go_wp2
  clear kP0 kX0
  have hdr := fun V : World => (Below.refl V.heap.size V).drew
  refine wp_region_held_drew (S := (fun V : World => V.cell? ⟨w.heap.size, 0, none⟩ = some (.int .i64 x0.places) ∧ V.cell? ⟨w.heap.size, 1, none⟩ = some (.slice A0 x0.tasks.length c0) ∧ V.cell? ⟨w6.heap.size, 0, none⟩ = some (.int .i64 x0.places) ∧ V.cell? ⟨w6.heap.size, 1, none⟩ = some (.slice (some ⟨gp0, 0, none⟩) x0.tasks.length x0.tasks.length))) (by kernel_rfl) ⟨P0.out.cell 0, P0.out.cell 1, X0.out.cell 0, X0.out.cell 1⟩ (fun hHeld => ?_)
  have hb := hdr w11
  generalize w11.drew = w12 at hb hHeld ⊢
  have P0 := Lib.hid (P0.out.later hb)
  have X0 := Lib.hid (X0.out.later hb)
  have I0 := Lib.hid (I0.out.later hb)
  have Fp0 := Lib.hid (Fp0.out.later hb)
  have Hp0 := Lib.hid (Hp0.out.later hb)
  have Fp1 := Lib.hid (Fp1.out.later hb)
  have Hp1 := Lib.hid (Hp1.out.later hb)
  have Fp3 := Lib.hid (Fp3.out.later hb)
  have Hp3 := Lib.hid (Hp3.out.later hb)
  have GG := Lib.hid (GG.out.later hb)
  have B := Lib.hid (B.out.trans (hb.mono B.out.size))
  have zw12 := hb.size
  clear hdr hb
  refine wpAnyH_take (i := 0) (v := ?_) rfl (by kernel_rfl) (by kernel_rfl) (by kernel_rfl) (fun _ _ _ h => h) (Or.inl ⟨by rfl, ?_⟩) (by assumption) ?_
  rotate_left
  · intro V hSw
    (try dsimp only at hSw)
    go_simp
    (try with_reducible rfl)
  simp only [List.getElem_toArray, List.getElem_cons_succ, List.getElem_cons_zero, Act.put, List.setIfInBounds_toArray, List.set_cons_zero, List.set_cons_succ]
  refine wpAnyH_take (i := 1) (v := ?_) rfl (by kernel_rfl) (by kernel_rfl) (by kernel_rfl) (fun _ _ _ h => h) (Or.inl ⟨by rfl, ?_⟩) (by assumption) ?_
  rotate_left
  · intro V hSw
    (try dsimp only at hSw)
    go_simp
    (try with_reducible rfl)
  simp only [List.getElem_toArray, List.getElem_cons_succ, List.getElem_cons_zero, Act.put, List.setIfInBounds_toArray, List.set_cons_zero, List.set_cons_succ]
  refine wpAnyH_ready (rs := [2]) (by kernel_rfl) (by simp) ?_
  refine AllReadyH.cons rfl (fun K hK => ?_) ?_
  rotate_left
  · exact AllReadyH.nil
  go_simp
  go_wp2_with (go_at_call 42; refine (laws_toNetNet x0 A0 c0 none _ (HN0.out.later B.out) tl0 TS0.out).mono ?_; rintro e w13 ⟨gz0, hgz0, rfl, hFz0, hb⟩)
  have Fz0 := Lib.hid hFz0
  clear hFz0 hgz0
  have P0 := Lib.hid (P0.out.later hb)
  have X0 := Lib.hid (X0.out.later hb)
  have I0 := Lib.hid (I0.out.later hb)
  have Fp0 := Lib.hid (Fp0.out.later hb)
  have Hp0 := Lib.hid (Hp0.out.later hb)
  have Fp1 := Lib.hid (Fp1.out.later hb)
  have Hp1 := Lib.hid (Hp1.out.later hb)
  have Fp3 := Lib.hid (Fp3.out.later hb)
  have Hp3 := Lib.hid (Hp3.out.later hb)
  have GG := Lib.hid (GG.out.later hb)
  have B := Lib.hid (B.out.trans (hb.mono B.out.size))
  have zw13 := hb.size
  have SF : Hid ((fun V : World => V.cell? ⟨w.heap.size, 0, none⟩ = some (.int .i64 x0.places) ∧ V.cell? ⟨w.heap.size, 1, none⟩ = some (.slice A0 x0.tasks.length c0) ∧ V.cell? ⟨w6.heap.size, 0, none⟩ = some (.int .i64 x0.places) ∧ V.cell? ⟨w6.heap.size, 1, none⟩ = some (.slice (some ⟨gp0, 0, none⟩) x0.tasks.length x0.tasks.length)) w13) := ⟨P0.out.cell 0, P0.out.cell 1, X0.out.cell 0, X0.out.cell 1⟩
  clear hb
  refine hK.out _ _ SF.out (fun hHeld => ?_)
  clear hK K
  refine wpAnyH_ready (rs := [3]) (by kernel_rfl) (by simp) ?_
  refine AllReadyH.cons rfl (fun K hK => ?_) ?_
  rotate_left
  · exact AllReadyH.nil
  go_simp
  go_wp2_with (go_at_call 43; refine (laws_eqNetNet x0 _ _ _ _ _ _ _ (MadeN.rows Fp0.out tl0) (MadeN.rows Fz0.out tl0)).mono ?_; rintro e w14 ⟨rfl, hb⟩)
  have P0 := Lib.hid (P0.out.later hb)
  have X0 := Lib.hid (X0.out.later hb)
  have I0 := Lib.hid (I0.out.later hb)
  have Fp0 := Lib.hid (Fp0.out.later hb)
  have Hp0 := Lib.hid (Hp0.out.later hb)
  have Fp1 := Lib.hid (Fp1.out.later hb)
  have Hp1 := Lib.hid (Hp1.out.later hb)
  have Fp3 := Lib.hid (Fp3.out.later hb)
  have Hp3 := Lib.hid (Hp3.out.later hb)
  have GG := Lib.hid (GG.out.later hb)
  have Fz0 := Lib.hid (Fz0.out.later hb)
  have B := Lib.hid (B.out.trans (hb.mono B.out.size))
  have zw14 := hb.size
  have SF : Hid ((fun V : World => V.cell? ⟨w.heap.size, 0, none⟩ = some (.int .i64 x0.places) ∧ V.cell? ⟨w.heap.size, 1, none⟩ = some (.slice A0 x0.tasks.length c0) ∧ V.cell? ⟨w6.heap.size, 0, none⟩ = some (.int .i64 x0.places) ∧ V.cell? ⟨w6.heap.size, 1, none⟩ = some (.slice (some ⟨gp0, 0, none⟩) x0.tasks.length x0.tasks.length)) w14) := ⟨P0.out.cell 0, P0.out.cell 1, X0.out.cell 0, X0.out.cell 1⟩
  clear hb
  refine hK.out _ _ SF.out (fun hHeld => ?_)
  clear hK K
  refine wpAnyH_take (i := 4) (v := ?_) rfl (by kernel_rfl) (by kernel_rfl) (by kernel_rfl) (fun _ _ _ h => h) (Or.inl ⟨by rfl, ?_⟩) (by assumption) ?_
  rotate_left
  · intro V hSw
    (try dsimp only at hSw)
    go_simp
    (try with_reducible rfl)
  simp only [List.getElem_toArray, List.getElem_cons_succ, List.getElem_cons_zero, Act.put, List.setIfInBounds_toArray, List.set_cons_zero, List.set_cons_succ]
  refine wpAnyH_done (by kernel_rfl) ?_ _
  clear Fz0 Fp0
  have kP0 := fun i => P0.out.cell i
  have kX0 := fun i => X0.out.cell i
  go_wp2_with fail
  clear kP0 kX0
  refine (laws_toIntS A1 c1 x1 _ w.heap.size B.out.size (HN1.out.below B.out) tl1).mono ?_
  rintro e w15 ⟨rfl, hw, hb⟩
  have Fz1 := Lib.hid hw
  clear hw
  have P0 := Lib.hid (P0.out.later hb)
  have X0 := Lib.hid (X0.out.later hb)
  have I0 := Lib.hid (I0.out.later hb)
  have Hp0 := Lib.hid (Hp0.out.later hb)
  have Fp1 := Lib.hid (Fp1.out.later hb)
  have Hp1 := Lib.hid (Hp1.out.later hb)
  have Fp3 := Lib.hid (Fp3.out.later hb)
  have Hp3 := Lib.hid (Hp3.out.later hb)
  have GG := Lib.hid (GG.out.later hb)
  have B := Lib.hid (B.out.trans (hb.mono B.out.size))
  have zw15 := hb.size
  clear hb
  have kP0 := fun i => P0.out.cell i
  have kX0 := fun i => X0.out.cell i
  go_wp2_with fail
  clear kP0 kX0
  refine (laws_eqIntS _ _ _ _ x1 x1 _ w15.heap.size (Fp1.out.ints Fp1.out.lt (by omega)) (Fz1.out.ints Fz1.out.lt (by omega))).mono ?_
  rintro e _ ⟨rfl, qz1, rfl⟩
  have hb : Below w15.heap.size w15 (w15.drewN qz1) := bdN (Below.refl _ _) _
  generalize w15.drewN qz1 = w16 at hb ⊢
  have P0 := Lib.hid (P0.out.later hb)
  have X0 := Lib.hid (X0.out.later hb)
  have I0 := Lib.hid (I0.out.later hb)
  have Hp0 := Lib.hid (Hp0.out.later hb)
  have Fp1 := Lib.hid (Fp1.out.later hb)
  have Hp1 := Lib.hid (Hp1.out.later hb)
  have Fp3 := Lib.hid (Fp3.out.later hb)
  have Hp3 := Lib.hid (Hp3.out.later hb)
  have GG := Lib.hid (GG.out.later hb)
  have Fz1 := Lib.hid (Fz1.out.later hb)
  have B := Lib.hid (B.out.trans (hb.mono B.out.size))
  have zw16 := hb.size
  clear hb
  clear Fz1 Fp1
  have kP0 := fun i => P0.out.cell i
  have kX0 := fun i => X0.out.cell i
  go_wp2_with fail
  clear kP0 kX0
  refine (laws_toIntS A3 c3 x3 _ w.heap.size B.out.size (HN3.out.below B.out) tl3).mono ?_
  rintro e w17 ⟨rfl, hw, hb⟩
  have Fz3 := Lib.hid hw
  clear hw
  have P0 := Lib.hid (P0.out.later hb)
  have X0 := Lib.hid (X0.out.later hb)
  have I0 := Lib.hid (I0.out.later hb)
  have Hp0 := Lib.hid (Hp0.out.later hb)
  have Hp1 := Lib.hid (Hp1.out.later hb)
  have Fp3 := Lib.hid (Fp3.out.later hb)
  have Hp3 := Lib.hid (Hp3.out.later hb)
  have GG := Lib.hid (GG.out.later hb)
  have B := Lib.hid (B.out.trans (hb.mono B.out.size))
  have zw17 := hb.size
  clear hb
  have kP0 := fun i => P0.out.cell i
  have kX0 := fun i => X0.out.cell i
  go_wp2_with fail
  clear kP0 kX0
  refine (laws_eqIntS _ _ _ _ x3 x3 _ w17.heap.size (Fp3.out.ints Fp3.out.lt (by omega)) (Fz3.out.ints Fz3.out.lt (by omega))).mono ?_
  rintro e _ ⟨rfl, qz3, rfl⟩
  have hb : Below w17.heap.size w17 (w17.drewN qz3) := bdN (Below.refl _ _) _
  generalize w17.drewN qz3 = w18 at hb ⊢
  have P0 := Lib.hid (P0.out.later hb)
  have X0 := Lib.hid (X0.out.later hb)
  have I0 := Lib.hid (I0.out.later hb)
  have Hp0 := Lib.hid (Hp0.out.later hb)
  have Hp1 := Lib.hid (Hp1.out.later hb)
  have Fp3 := Lib.hid (Fp3.out.later hb)
  have Hp3 := Lib.hid (Hp3.out.later hb)
  have GG := Lib.hid (GG.out.later hb)
  have Fz3 := Lib.hid (Fz3.out.later hb)
  have B := Lib.hid (B.out.trans (hb.mono B.out.size))
  have zw18 := hb.size
  clear hb
  clear Fz3 Fp3
  have kP0 := fun i => P0.out.cell i
  have kX0 := fun i => X0.out.cell i
  go_wp2_with fail
  clear kP0 kX0
  refine (laws_markNetNet gp0 _ x0 1 _ w5.heap.size w6.heap.size Hp0.out.2.2.2 Hp0.out.1 Hp0.out.2.1 Hp0.out.2.2.1 tl0 TS0.out (by omega) (by omega)).mono ?_
  rintro e w19 ⟨⟨mk, rfl, hm0, hm1⟩, in0, kk⟩
  have inG : InsideG w5.heap.size w6.heap.size w18 w19 := in0
  clear in0
  clear Hp0
  have P0 := Lib.hid (P0.out.inG inG (by omega))
  have X0 := Lib.hid (X0.out.inG inG (by omega))
  have I0 := Lib.hid (I0.out.inG inG (by omega))
  have Hp1 := Lib.hid (Hp1.out.kept inG.size kk)
  have Hp3 := Lib.hid (Hp3.out.kept inG.size kk)
  have GG := Lib.hid (GG.out.inG inG (by omega))
  have B := Lib.hid (B.out.trans (inG.below (by omega) B.out.size))
  have zw19 := inG.size
  clear inG kk
  have kP0 := fun i => P0.out.cell i
  have kX0 := fun i => X0.out.cell i
  go_wp2_with fail
  clear kP0 kX0
  refine (mark_ints _ _ x1.length _ _ w7.heap.size w8.heap.size Hp1.out.2 (by omega) (by omega) (by omega)).mono ?_
  rintro e w20 ⟨rfl, in0, kk⟩
  have inG : InsideG w7.heap.size w8.heap.size w19 w20 := InsideG.of in0
  clear in0
  clear Hp1
  have P0 := Lib.hid (P0.out.inG inG (by omega))
  have X0 := Lib.hid (X0.out.inG inG (by omega))
  have I0 := Lib.hid (I0.out.inG inG (by omega))
  have Hp3 := Lib.hid (Hp3.out.kept inG.size kk)
  have GG := Lib.hid (GG.out.inG inG (by omega))
  have B := Lib.hid (B.out.trans (inG.below (by omega) B.out.size))
  have zw20 := inG.size
  clear inG kk
  have kP0 := fun i => P0.out.cell i
  have kX0 := fun i => X0.out.cell i
  go_wp2_with fail
  clear kP0 kX0
  refine (mark_ints _ _ x3.length _ _ w8.heap.size w9.heap.size Hp3.out.2 (by omega) (by omega) (by omega)).mono ?_
  rintro e w21 ⟨rfl, in0, kk⟩
  have inG : InsideG w8.heap.size w9.heap.size w20 w21 := InsideG.of in0
  clear in0
  clear Hp3
  have P0 := Lib.hid (P0.out.inG inG (by omega))
  have X0 := Lib.hid (X0.out.inG inG (by omega))
  have I0 := Lib.hid (I0.out.inG inG (by omega))
  have GG := Lib.hid (GG.out.inG inG (by omega))
  have B := Lib.hid (B.out.trans (inG.below (by omega) B.out.size))
  have zw21 := inG.size
  clear inG kk
  have kP0 := fun i => P0.out.cell i
  have kX0 := fun i => X0.out.cell i
  go_wp2_with fail
  clear kP0 kX0
  refine (laws_eqIntS _ _ _ _ out out _ w21.heap.size (GG.out.ints (by omega)) (I0.out.2.more I0.out.1)).mono ?_
  rintro e _ ⟨rfl, qc2, rfl⟩
  have hb : Below w21.heap.size w21 (w21.drewN qc2) := bdN (Below.refl _ _) _
  generalize w21.drewN qc2 = w22 at hb ⊢
  have P0 := Lib.hid (P0.out.later hb)
  have X0 := Lib.hid (X0.out.later hb)
  have I0 := Lib.hid (I0.out.later hb)
  have GG := Lib.hid (GG.out.later hb)
  have B := Lib.hid (B.out.trans (hb.mono B.out.size))
  have zw22 := hb.size
  clear hb
  have kP0 := fun i => P0.out.cell i
  have kX0 := fun i => X0.out.cell i
  go_wp2_with fail
  clear kP0 kX0
  refine (laws_markIntS_own G _ out 1 _ w9.heap.size w22.heap.size GG.out (fun hn => OwnI.hi GG.out hn) (by omega) (by omega) (by omega)).mono ?_
  rintro e w23 ⟨rfl, og, in0⟩
  have inG : InsideG w9.heap.size w22.heap.size w22 w23 := InsideG.of in0
  have GM := Lib.hid og
  clear in0 og GG
  have P0 := Lib.hid (P0.out.inG inG (by omega))
  have I0 := Lib.hid (I0.out.inG inG (by omega))
  have B := Lib.hid (B.out.trans (inG.below (by omega) B.out.size))
  have zw23 := inG.size
  clear inG
  have kP0 := fun i => P0.out.cell i
  go_wp2_with fail
  clear kP0
  refine (laws_heldIntS G _ out.length 1 _ w23.heap.size (GM.out.ints (by rw [seqI_len]; omega)) (by omega) (by omega) (by omega)).mono ?_
  rintro e w' ⟨rfl, rfl⟩
  have q0 : ¬ ((1 : Int) + out.length < 0) := by omega
  have kP0 := fun i => P0.out.cell i
  go_wp2_with fail
  clear kP0
  refine (laws_toNetNet x0 A0 c0 none _ (HN0.out.later B.out) tl0 TS0.out).mono ?_
  rintro e w24 ⟨gb0, hgb0, rfl, hFb0, hb⟩
  have Fb0 := Lib.hid hFb0
  clear hFb0 hgb0
  have P0 := Lib.hid (P0.out.later hb)
  have I0 := Lib.hid (I0.out.later hb)
  have GM := Lib.hid (GM.out.later hb)
  have B := Lib.hid (B.out.trans (hb.mono B.out.size))
  have zw24 := hb.size
  clear hb
  have kP0 := fun i => P0.out.cell i
  go_wp2_with fail
  clear kP0
  refine (laws_toIntS A1 c1 x1 _ w.heap.size B.out.size (HN1.out.below B.out) tl1).mono ?_
  rintro e w25 ⟨rfl, hw, hb⟩
  have Fb1 := Lib.hid hw
  clear hw
  have P0 := Lib.hid (P0.out.later hb)
  have I0 := Lib.hid (I0.out.later hb)
  have GM := Lib.hid (GM.out.later hb)
  have Fb0 := Lib.hid (Fb0.out.later hb)
  have B := Lib.hid (B.out.trans (hb.mono B.out.size))
  have zw25 := hb.size
  clear hb
  have kP0 := fun i => P0.out.cell i
  go_wp2_with fail
  clear kP0
  refine (laws_toIntS A3 c3 x3 _ w.heap.size B.out.size (HN3.out.below B.out) tl3).mono ?_
  rintro e w26 ⟨rfl, hw, hb⟩
  have Fb3 := Lib.hid hw
  clear hw
  have P0 := Lib.hid (P0.out.later hb)
  have I0 := Lib.hid (I0.out.later hb)
  have GM := Lib.hid (GM.out.later hb)
  have Fb0 := Lib.hid (Fb0.out.later hb)
  have Fb1 := Lib.hid (Fb1.out.later hb)
  have B := Lib.hid (B.out.trans (hb.mono B.out.size))
  have zw26 := hb.size
  clear hb
  have kP0 := fun i => P0.out.cell i
  go_wp2_with fail
  clear kP0
  refine (impl_FirGive x0 _ _  _ _ x1  t2 _ _ x3  _ _ (MadeN.rows Fb0.out tl0) (Fb1.out.ints Fb1.out.lt (by omega)) (Fb3.out.ints Fb3.out.lt (by omega))).mono ?_
  rintro e w27 ⟨vH, rfl, hvH, hb⟩
  rw [HOUT.out] at hvH
  obtain ⟨HA, cH, hv, oH⟩ := OwnI.of_v hvH
  subst hv
  have OH := Lib.hid oH
  clear hvH oH
  rw [HOUT.out]
  dsimp only at OH ⊢
  have P0 := Lib.hid (P0.out.later hb)
  have I0 := Lib.hid (I0.out.later hb)
  have GM := Lib.hid (GM.out.later hb)
  have B := Lib.hid (B.out.trans (hb.mono B.out.size))
  have zw27 := hb.size
  clear hb
  have kP0 := fun i => P0.out.cell i
  go_wp2_with fail
  clear kP0
  refine (laws_eqIntS _ _ _ _ out out _ w27.heap.size (OH.out.ints (by omega)) (I0.out.2.more I0.out.1)).mono ?_
  rintro e _ ⟨rfl, qc3, rfl⟩
  have hb : Below w27.heap.size w27 (w27.drewN qc3) := bdN (Below.refl _ _) _
  generalize w27.drewN qc3 = w28 at hb ⊢
  have P0 := Lib.hid (P0.out.later hb)
  have I0 := Lib.hid (I0.out.later hb)
  have GM := Lib.hid (GM.out.later hb)
  have B := Lib.hid (B.out.trans (hb.mono B.out.size))
  have zw28 := hb.size
  clear hb
  have kP0 := fun i => P0.out.cell i
  go_wp2_with fail
  clear kP0
  refine (laws_heldIntS G _ out.length 1 _ w28.heap.size (GM.out.ints (by rw [seqI_len]; omega)) (by omega) (by omega) (by omega)).mono ?_
  rintro e w' ⟨rfl, rfl⟩
  go_wp2
  go_ret
  exact ⟨rfl, B.out⟩
end Go.Proofs.Ytokachjpjpikbaa
