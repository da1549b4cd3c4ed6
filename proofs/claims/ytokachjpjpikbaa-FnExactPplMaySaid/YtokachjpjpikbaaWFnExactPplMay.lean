/- The walk of FnExactPplMay: it returns true. -/
import Derived.Test.YtokachjpjpikbaaMay
import Derived.Test.YtokachjpjpikbaaMarked
import Derived.Test.YtokachjpjpikbaaCopyNet
import Derived.Deep.RegionHeld3
namespace Go.Proofs.Ytokachjpjpikbaa
open Go.RowKit
set_option linter.unusedSimpArgs false
set_option linter.unusedVariables false

set_option maxRecDepth 100000 in
set_option maxHeartbeats 8000000 in
theorem walk_FnExactPplMay (v0 : Value) (x0 : GNet) (A1 : Option Addr) (c1 : Nat) (x1 : List Int) (A2 : Option Addr) (c2 : Nat) (x2 : List GDid) (A3 : Option Addr) (c3 : Nat) (x3 : List GItem) (t4 : Int) (w : World) (h0 : ∃ cs : List Value, v0 = .agg cs.toArray ∧ netC.R none w w.heap.size x0 cs) (h1 : Ints w w.heap.size A1 x1) (h2 : Rows didC none w w.heap.size A2 x2) (h3 : Rows itemC none w w.heap.size A3 x3) (_ : -9223372036854775808 ≤ t4 ∧ t4 ≤ 9223372036854775807) :
    Calls Try.prog 13 #[v0, .slice A1 x1.length c1, .slice A2 x2.length c2, .slice A3 x3.length c3, .int .i64 t4] w fun e w' => e = .returned (.bool true) ∧ Below w.heap.size w w' := by
  obtain ⟨cs0, rfl, A0, c0, rfl, hn0⟩ := h0
  have HN0 := Lib.hid hn0
  clear hn0
  have HN1 := Lib.hid h1
  clear h1
  have nn2 := h2.1
  have HN2 := Lib.hid h2
  clear h2
  have nn3 := h3.1
  have HN3 := Lib.hid h3
  clear h3

  by_cases tl1 : x1.length ≤ 1048576
  rotate_left
  · have hz : (1048576 : Int) < (x1.length : Int) := by omega
    go_enter Try.func13, Try.ntmps13
    go_wp2
    go_ret
    exact ⟨rfl, by go_grown⟩
  go_enter Try.func13, Try.ntmps13
  go_wp2_with fail
  refine callsAt fun W hW => ?_
  have P0 : Hid (Bk W (w.heap.size) 57 #[.int .i64 x0.places, .slice A0 x0.tasks.length c0]) := by show Bk _ _ _ _; rw [hW]; exact Bk.new rfl
  have B : Hid (Below w.heap.size w W) := by show Below _ _ _; rw [hW]; go_grown
  have zW : w.heap.size + 1 ≤ W.heap.size := by rw [hW]; simp only [World.size_alloc]; omega
  clear hW
  refine (laws_szNetNet x0 A0 c0 none 1048576 (by omega) (by omega) _ (HN0.out.later B.out)).mono ?_
  rintro e w1 ⟨l0, rfl, hl0, hu0, hf0, hb⟩
  have TF0 := Lib.hid hf0
  clear hf0
  have P0 := Lib.hid (P0.out.later hb)
  have B := Lib.hid (B.out.trans (hb.mono B.out.size))
  have zw1 := hb.size
  clear hb
  by_cases hneg : l0 < 0
  · have kP0 := fun i => P0.out.cell i
    go_wp2
    go_ret
    exact ⟨rfl, B.out⟩
  obtain ⟨tl0, ts0⟩ := TF0.out (by omega)
  have TS0 := Lib.hid ts0
  clear ts0 TF0
  have kP0 := fun i => P0.out.cell i
  go_wp2_with fail
  clear kP0
  refine (laws_szCasDidS A2 c2 x2.length l0 (by omega) (by omega) nn2 _).mono ?_
  rintro e w' ⟨rfl, rfl⟩
  by_cases hneg : szOf x2.length l0 < 0
  · have kP0 := fun i => P0.out.cell i
    go_wp2
    go_ret
    exact ⟨rfl, B.out⟩
  obtain ⟨tl2, l2, lu2⟩ := szOf_ok hneg
  have tl2 : x2.length ≤ 1048576 := by omega
  have kP0 := fun i => P0.out.cell i
  go_wp2_with fail
  clear kP0
  refine (laws_szCasItemS A3 c3 x3.length (szOf x2.length l0) (by omega) (by omega) nn3 _).mono ?_
  rintro e w' ⟨rfl, rfl⟩
  by_cases hneg : szOf x3.length (szOf x2.length l0) < 0
  · have kP0 := fun i => P0.out.cell i
    go_wp2
    go_ret
    exact ⟨rfl, B.out⟩
  obtain ⟨tl3, l3, lu3⟩ := szOf_ok hneg
  have tl3 : x3.length ≤ 1048576 := by omega
  have kP0 := fun i => P0.out.cell i
  go_wp2_with fail
  clear kP0
  refine (laws_toNetNet x0 A0 c0 none _ (HN0.out.later B.out) tl0 TS0.out).mono ?_
  rintro e w2 ⟨ga0, hga0, rfl, hFa0, hb⟩
  have Fa0 := Lib.hid hFa0
  clear hFa0 hga0
  have P0 := Lib.hid (P0.out.later hb)
  have B := Lib.hid (B.out.trans (hb.mono B.out.size))
  have zw2 := hb.size
  clear hb
  have kP0 := fun i => P0.out.cell i
  go_wp2_with fail
  clear kP0
  refine (laws_toIntS A1 c1 x1 _ w.heap.size B.out.size (HN1.out.below B.out) tl1).mono ?_
  rintro e w3 ⟨rfl, hw, hb⟩
  have Fa1 := Lib.hid hw
  clear hw
  have P0 := Lib.hid (P0.out.later hb)
  have Fa0 := Lib.hid (Fa0.out.later hb)
  have B := Lib.hid (B.out.trans (hb.mono B.out.size))
  have zw3 := hb.size
  clear hb
  have kP0 := fun i => P0.out.cell i
  go_wp2_with fail
  clear kP0
  refine (laws_toCasDidS A2 c2 x2 none _ w.heap.size B.out.size (HN2.out.below B.out) tl2).mono ?_
  rintro e w4 ⟨ga2, hga2, rfl, hFa2, hb⟩
  have Fa2 := Lib.hid hFa2
  clear hFa2 hga2
  have P0 := Lib.hid (P0.out.later hb)
  have Fa0 := Lib.hid (Fa0.out.later hb)
  have Fa1 := Lib.hid (Fa1.out.later hb)
  have B := Lib.hid (B.out.trans (hb.mono B.out.size))
  have zw4 := hb.size
  clear hb
  have kP0 := fun i => P0.out.cell i
  go_wp2_with fail
  clear kP0
  refine (laws_toCasItemS A3 c3 x3 none _ w.heap.size B.out.size (HN3.out.below B.out) tl3).mono ?_
  rintro e w5 ⟨ga3, hga3, rfl, hFa3, hb⟩
  have Fa3 := Lib.hid hFa3
  clear hFa3 hga3
  have P0 := Lib.hid (P0.out.later hb)
  have Fa0 := Lib.hid (Fa0.out.later hb)
  have Fa1 := Lib.hid (Fa1.out.later hb)
  have Fa2 := Lib.hid (Fa2.out.later hb)
  have B := Lib.hid (B.out.trans (hb.mono B.out.size))
  have zw5 := hb.size
  clear hb
  have kP0 := fun i => P0.out.cell i
  go_wp2_with fail
  clear kP0
  refine (spec_PplMay x0 _ _  _ _ x1  _ _ x2  _ _ x3  t4 _ _ _ _ (MadeN.rows Fa0.out tl0) (Fa1.out.ints Fa1.out.lt (by omega)) Fa2.out Fa3.out).mono ?_
  rintro e w6 ⟨vS, rfl, hvS, hb⟩
  obtain ⟨AS, cS, hv, oS⟩ := OwnI.of_v hvS
  subst hv
  have hlen := mayOf_len x0 x1 x2 x3 t4
  have P0 := Lib.hid (P0.out.later hb)
  have Fa0 := Lib.hid (Fa0.out.later hb)
  have Fa1 := Lib.hid (Fa1.out.later hb)
  have Fa2 := Lib.hid (Fa2.out.later hb)
  have Fa3 := Lib.hid (Fa3.out.later hb)
  have B := Lib.hid (B.out.trans (hb.mono B.out.size))
  have zw6 := hb.size
  clear hb
  have I0 : Hid (Want w6.heap.size AS (mayOf x0 x1 x2 x3 t4) w6) := ⟨Nat.le_refl _, oS.ints (by omega)⟩
  clear hvS oS
  generalize hout : mayOf x0 x1 x2 x3 t4 = out at *
  have HOUT := Lib.hid hout
  clear hout
  clear Fa0 Fa1 Fa2 Fa3
  have kP0 := fun i => P0.out.cell i
  go_wp2_with fail
  clear kP0
  refine (laws_toNetNet x0 A0 c0 none _ (HN0.out.later B.out) tl0 TS0.out).mono ?_
  rintro e w7 ⟨gp0, hgp0, rfl, hFp0, hb⟩
  have Fp0 := Lib.hid hFp0
  have Hp0 := Lib.hid (NetHeld.of_filled hFp0 hgp0)
  clear hFp0 hgp0
  have P0 := Lib.hid (P0.out.later hb)
  have I0 := Lib.hid (I0.out.later hb)
  have B := Lib.hid (B.out.trans (hb.mono B.out.size))
  have zw7 := hb.size
  clear hb
  have jP0 := fun o i => (P0.out.alloc o).cell i
  have kP0 := fun i => P0.out.cell i
  go_wp2_with fail
  clear kP0
  clear jP0
  refine callsAt fun w8 hW => ?_
  have hb : Below w7.heap.size w7 w8 := by rw [hW]; exact (Below.refl _ _).alloc (Nat.le_refl _) _
  have P0 := Lib.hid (P0.out.later hb)
  have I0 := Lib.hid (I0.out.later hb)
  have Fp0 := Lib.hid (Fp0.out.later hb)
  have Hp0 := Lib.hid (Hp0.out.later hb)
  have B := Lib.hid (B.out.trans (hb.mono B.out.size))
  have zw8 := hb.size
  have X0 : Hid (Bk w8 w7.heap.size 52 #[.int .i64 x0.places, .slice (some ⟨gp0, 0, none⟩) x0.tasks.length x0.tasks.length]) := by show Bk _ _ _ _; rw [hW]; exact Bk.new rfl
  have yX0 := X0.out.lt
  clear hW hb
  refine (laws_toIntS A1 c1 x1 _ w.heap.size B.out.size (HN1.out.below B.out) tl1).mono ?_
  rintro e w9 ⟨rfl, hw, hb⟩
  have Fp1 := Lib.hid hw
  have Hp1 := Lib.hid (IntHeld.ints (lo := w8.heap.size) hw (by omega) (Nat.le_refl _))
  clear hw
  have P0 := Lib.hid (P0.out.later hb)
  have X0 := Lib.hid (X0.out.later hb)
  have I0 := Lib.hid (I0.out.later hb)
  have Fp0 := Lib.hid (Fp0.out.later hb)
  have Hp0 := Lib.hid (Hp0.out.later hb)
  have B := Lib.hid (B.out.trans (hb.mono B.out.size))
  have zw9 := hb.size
  clear hb
  have kP0 := fun i => P0.out.cell i
  have kX0 := fun i => X0.out.cell i
  go_wp2_with fail
  clear kP0 kX0
  refine (laws_toCasDidS A2 c2 x2 none _ w.heap.size B.out.size (HN2.out.below B.out) tl2).mono ?_
  rintro e w10 ⟨gp2, hgp2, rfl, hFp2, hb⟩
  have Fp2 := Lib.hid hFp2
  have Hp2 := Lib.hid (IntHeld.dids hFp2 (Nat.le_refl _))
  clear hFp2 hgp2
  have P0 := Lib.hid (P0.out.later hb)
  have X0 := Lib.hid (X0.out.later hb)
  have I0 := Lib.hid (I0.out.later hb)
  have Fp0 := Lib.hid (Fp0.out.later hb)
  have Hp0 := Lib.hid (Hp0.out.later hb)
  have Fp1 := Lib.hid (Fp1.out.later hb)
  have Hp1 := Lib.hid (Hp1.out.later hb)
  have B := Lib.hid (B.out.trans (hb.mono B.out.size))
  have zw10 := hb.size
  clear hb
  have kP0 := fun i => P0.out.cell i
  have kX0 := fun i => X0.out.cell i
  go_wp2_with fail
  clear kP0 kX0
  refine (laws_toCasItemS A3 c3 x3 none _ w.heap.size B.out.size (HN3.out.below B.out) tl3).mono ?_
  rintro e w11 ⟨gp3, hgp3, rfl, hFp3, hb⟩
  have Fp3 := Lib.hid hFp3
  have Hp3 := Lib.hid (IntHeld.items hFp3 (Nat.le_refl _))
  clear hFp3 hgp3
  have P0 := Lib.hid (P0.out.later hb)
  have X0 := Lib.hid (X0.out.later hb)
  have I0 := Lib.hid (I0.out.later hb)
  have Fp0 := Lib.hid (Fp0.out.later hb)
  have Hp0 := Lib.hid (Hp0.out.later hb)
  have Fp1 := Lib.hid (Fp1.out.later hb)
  have Hp1 := Lib.hid (Hp1.out.later hb)
  have Fp2 := Lib.hid (Fp2.out.later hb)
  have Hp2 := Lib.hid (Hp2.out.later hb)
  have B := Lib.hid (B.out.trans (hb.mono B.out.size))
  have zw11 := hb.size
  clear hb
  have kP0 := fun i => P0.out.cell i
  have kX0 := fun i => X0.out.cell i
  go_wp2_with fail
  clear kP0 kX0
  refine (impl_PplMay x0 _ _  _ _ x1  _ _ x2  _ _ x3  t4 _ _ _ _ (MadeN.rows Fp0.out tl0) (Fp1.out.ints Fp1.out.lt (by omega)) Fp2.out Fp3.out).mono ?_
  rintro e w12 ⟨vG, rfl, hvG, hb⟩
  rw [HOUT.out] at hvG
  obtain ⟨G, cG, hv, oG⟩ := OwnI.of_v hvG
  subst hv
  have GG := Lib.hid oG
  clear hvG oG
  have P0 := Lib.hid (P0.out.later hb)
  have X0 := Lib.hid (X0.out.later hb)
  have I0 := Lib.hid (I0.out.later hb)
  have Fp0 := Lib.hid (Fp0.out.later hb)
  have Hp0 := Lib.hid (Hp0.out.later hb)
  have Fp1 := Lib.hid (Fp1.out.later hb)
  have Hp1 := Lib.hid (Hp1.out.later hb)
  have Fp2 := Lib.hid (Fp2.out.later hb)
  have Hp2 := Lib.hid (Hp2.out.later hb)
  have Fp3 := Lib.hid (Fp3.out.later hb)
  have Hp3 := Lib.hid (Hp3.out.later hb)
  have B := Lib.hid (B.out.trans (hb.mono B.out.size))
  have zw12 := hb.size
  clear hb
  have kP0 := fun i => P0.out.cell i
  have kX0 := fun i => X0.out.cell i
  go_wp2_with fail
  clear kP0 kX0
  refine (laws_eqIntS _ _ _ _ out out _ w12.heap.size (GG.out.ints (by omega)) (I0.out.2.more I0.out.1)).mono ?_
  rintro e _ ⟨rfl, qc1, rfl⟩
  have hb : Below w12.heap.size w12 (w12.drewN qc1) := bdN (Below.refl _ _) _
  generalize w12.drewN qc1 = w13 at hb ⊢
  have P0 := Lib.hid (P0.out.later hb)
  have X0 := Lib.hid (X0.out.later hb)
  have I0 := Lib.hid (I0.out.later hb)
  have Fp0 := Lib.hid (Fp0.out.later hb)
  have Hp0 := Lib.hid (Hp0.out.later hb)
  have Fp1 := Lib.hid (Fp1.out.later hb)
  have Hp1 := Lib.hid (Hp1.out.later hb)
  have Fp2 := Lib.hid (Fp2.out.later hb)
  have Hp2 := Lib.hid (Hp2.out.later hb)
  have Fp3 := Lib.hid (Fp3.out.later hb)
  have Hp3 := Lib.hid (Hp3.out.later hb)
  have GG := Lib.hid (GG.out.later hb)
  have B := Lib.hid (B.out.trans (hb.mono B.out.size))
  have zw13 := hb.size
  clear hb
  have kP0 := fun i => P0.out.cell i
  have kX0 := fun i => X0.out.cell i
  go_wp2
  clear kP0 kX0
  have hdr := fun V : World => (Below.refl V.heap.size V).drew
  refine wp_region_held_drew (S := (fun V : World => V.cell? ⟨w.heap.size, 0, none⟩ = some (.int .i64 x0.places) ∧ V.cell? ⟨w.heap.size, 1, none⟩ = some (.slice A0 x0.tasks.length c0) ∧ V.cell? ⟨w7.heap.size, 0, none⟩ = some (.int .i64 x0.places) ∧ V.cell? ⟨w7.heap.size, 1, none⟩ = some (.slice (some ⟨gp0, 0, none⟩) x0.tasks.length x0.tasks.length))) (by kernel_rfl) ⟨P0.out.cell 0, P0.out.cell 1, X0.out.cell 0, X0.out.cell 1⟩ (fun hHeld => ?_)
  have hb := hdr w13
  generalize w13.drew = w14 at hb hHeld ⊢
  have P0 := Lib.hid (P0.out.later hb)
  have X0 := Lib.hid (X0.out.later hb)
  have I0 := Lib.hid (I0.out.later hb)
  have Fp0 := Lib.hid (Fp0.out.later hb)
  have Hp0 := Lib.hid (Hp0.out.later hb)
  have Fp1 := Lib.hid (Fp1.out.later hb)
  have Hp1 := Lib.hid (Hp1.out.later hb)
  have Fp2 := Lib.hid (Fp2.out.later hb)
  have Hp2 := Lib.hid (Hp2.out.later hb)
  have Fp3 := Lib.hid (Fp3.out.later hb)
  have Hp3 := Lib.hid (Hp3.out.later hb)
  have GG := Lib.hid (GG.out.later hb)
  have B := Lib.hid (B.out.trans (hb.mono B.out.size))
  have zw14 := hb.size
  clear hdr hb
  refine wpAnyH_take (i := 0) (v := ?_) rfl (by kernel_rfl) (by kernel_rfl) (by kernel_rfl) (fun _ _ _ h => h) (Or.inl ⟨by rfl, ?_⟩) (by assumption) ?_
  rotate_left
  · intro V hSw
    (try dsimp only at hSw)
    go_simp
    (try with_reducible rfl)
  simp only [List.getElem_toArray, List.getElem_cons_succ, List.getElem_cons_zero, Act.put, List.setIfInBounds_toArray, List.set_cons_zero, List.set_cons_succ]
  refine wpAnyH_take (i := 1) (v := ?_) rfl (by kernel_rfl) (by kernel_rfl) (by kernel_rfl) (fun _ _ _ h => h) (Or.inl ⟨by rfl, ?_⟩) (by assumption) ?_
  rotate_left
  · intro V hSw
    (try dsimp only at hSw)
    go_simp
    (try with_reducible rfl)
  simp only [List.getElem_toArray, List.getElem_cons_succ, List.getElem_cons_zero, Act.put, List.setIfInBounds_toArray, List.set_cons_zero, List.set_cons_succ]
  refine wpAnyH_ready (rs := [2]) (by kernel_rfl) (by simp) ?_
  refine AllReadyH.cons rfl (fun K hK => ?_) ?_
  rotate_left
  · exact AllReadyH.nil
  go_simp
  go_wp2_with (go_at_call 42; refine (laws_toNetNet x0 A0 c0 none _ (HN0.out.later B.out) tl0 TS0.out).mono ?_; rintro e w15 ⟨gz0, hgz0, rfl, hFz0, hb⟩)
  have Fz0 := Lib.hid hFz0
  clear hFz0 hgz0
  have P0 := Lib.hid (P0.out.later hb)
  have X0 := Lib.hid (X0.out.later hb)
  have I0 := Lib.hid (I0.out.later hb)
  have Fp0 := Lib.hid (Fp0.out.later hb)
  have Hp0 := Lib.hid (Hp0.out.later hb)
  have Fp1 := Lib.hid (Fp1.out.later hb)
  have Hp1 := Lib.hid (Hp1.out.later hb)
  have Fp2 := Lib.hid (Fp2.out.later hb)
  have Hp2 := Lib.hid (Hp2.out.later hb)
  have Fp3 := Lib.hid (Fp3.out.later hb)
  have Hp3 := Lib.hid (Hp3.out.later hb)
  have GG := Lib.hid (GG.out.later hb)
  have B := Lib.hid (B.out.trans (hb.mono B.out.size))
  have zw15 := hb.size
  have SF : Hid ((fun V : World => V.cell? ⟨w.heap.size, 0, none⟩ = some (.int .i64 x0.places) ∧ V.cell? ⟨w.heap.size, 1, none⟩ = some (.slice A0 x0.tasks.length c0) ∧ V.cell? ⟨w7.heap.size, 0, none⟩ = some (.int .i64 x0.places) ∧ V.cell? ⟨w7.heap.size, 1, none⟩ = some (.slice (some ⟨gp0, 0, none⟩) x0.tasks.length x0.tasks.length)) w15) := ⟨P0.out.cell 0, P0.out.cell 1, X0.out.cell 0, X0.out.cell 1⟩
  clear hb
  refine hK.out _ _ SF.out (fun hHeld => ?_)
  clear hK K
  refine wpAnyH_ready (rs := [3]) (by kernel_rfl) (by simp) ?_
  refine AllReadyH.cons rfl (fun K hK => ?_) ?_
  rotate_left
  · exact AllReadyH.nil
  go_simp
  go_wp2_with (go_at_call 43; refine (laws_eqNetNet x0 _ _ _ _ _ _ _ (MadeN.rows Fp0.out tl0) (MadeN.rows Fz0.out tl0)).mono ?_; rintro e w16 ⟨rfl, hb⟩)
  have P0 := Lib.hid (P0.out.later hb)
  have X0 := Lib.hid (X0.out.later hb)
  have I0 := Lib.hid (I0.out.later hb)
  have Fp0 := Lib.hid (Fp0.out.later hb)
  have Hp0 := Lib.hid (Hp0.out.later hb)
  have Fp1 := Lib.hid (Fp1.out.later hb)
  have Hp1 := Lib.hid (Hp1.out.later hb)
  have Fp2 := Lib.hid (Fp2.out.later hb)
  have Hp2 := Lib.hid (Hp2.out.later hb)
  have Fp3 := Lib.hid (Fp3.out.later hb)
  have Hp3 := Lib.hid (Hp3.out.later hb)
  have GG := Lib.hid (GG.out.later hb)
  have Fz0 := Lib.hid (Fz0.out.later hb)
  have B := Lib.hid (B.out.trans (hb.mono B.out.size))
  have zw16 := hb.size
  have SF : Hid ((fun V : World => V.cell? ⟨w.heap.size, 0, none⟩ = some (.int .i64 x0.places) ∧ V.cell? ⟨w.heap.size, 1, none⟩ = some (.slice A0 x0.tasks.length c0) ∧ V.cell? ⟨w7.heap.size, 0, none⟩ = some (.int .i64 x0.places) ∧ V.cell? ⟨w7.heap.size, 1, none⟩ = some (.slice (some ⟨gp0, 0, none⟩) x0.tasks.length x0.tasks.length)) w16) := ⟨P0.out.cell 0, P0.out.cell 1, X0.out.cell 0, X0.out.cell 1⟩
  clear hb
  refine hK.out _ _ SF.out (fun hHeld => ?_)
  clear hK K
  refine wpAnyH_take (i := 4) (v := ?_) rfl (by kernel_rfl) (by kernel_rfl) (by kernel_rfl) (fun _ _ _ h => h) (Or.inl ⟨by rfl, ?_⟩) (by assumption) ?_
  rotate_left
  · intro V hSw
    (try dsimp only at hSw)
    go_simp
    (try with_reducible rfl)
  simp only [List.getElem_toArray, List.getElem_cons_succ, List.getElem_cons_zero, Act.put, List.setIfInBounds_toArray, List.set_cons_zero, List.set_cons_succ]
  refine wpAnyH_done (by kernel_rfl) ?_ _
  clear Fz0 Fp0
  have kP0 := fun i => P0.out.cell i
  have kX0 := fun i => X0.out.cell i
  go_wp2_with fail
  clear kP0 kX0
  refine (laws_toIntS A1 c1 x1 _ w.heap.size B.out.size (HN1.out.below B.out) tl1).mono ?_
  rintro e w17 ⟨rfl, hw, hb⟩
  have Fz1 := Lib.hid hw
  clear hw
  have P0 := Lib.hid (P0.out.later hb)
  have X0 := Lib.hid (X0.out.later hb)
  have I0 := Lib.hid (I0.out.later hb)
  have Hp0 := Lib.hid (Hp0.out.later hb)
  have Fp1 := Lib.hid (Fp1.out.later hb)
  have Hp1 := Lib.hid (Hp1.out.later hb)
  have Fp2 := Lib.hid (Fp2.out.later hb)
  have Hp2 := Lib.hid (Hp2.out.later hb)
  have Fp3 := Lib.hid (Fp3.out.later hb)
  have Hp3 := Lib.hid (Hp3.out.later hb)
  have GG := Lib.hid (GG.out.later hb)
  have B := Lib.hid (B.out.trans (hb.mono B.out.size))
  have zw17 := hb.size
  clear hb
  have kP0 := fun i => P0.out.cell i
  have kX0 := fun i => X0.out.cell i
  go_wp2_with fail
  clear kP0 kX0
  refine (laws_eqIntS _ _ _ _ x1 x1 _ w17.heap.size (Fp1.out.ints Fp1.out.lt (by omega)) (Fz1.out.ints Fz1.out.lt (by omega))).mono ?_
  rintro e _ ⟨rfl, qz1, rfl⟩
  have hb : Below w17.heap.size w17 (w17.drewN qz1) := bdN (Below.refl _ _) _
  generalize w17.drewN qz1 = w18 at hb ⊢
  have P0 := Lib.hid (P0.out.later hb)
  have X0 := Lib.hid (X0.out.later hb)
  have I0 := Lib.hid (I0.out.later hb)
  have Hp0 := Lib.hid (Hp0.out.later hb)
  have Fp1 := Lib.hid (Fp1.out.later hb)
  have Hp1 := Lib.hid (Hp1.out.later hb)
  have Fp2 := Lib.hid (Fp2.out.later hb)
  have Hp2 := Lib.hid (Hp2.out.later hb)
  have Fp3 := Lib.hid (Fp3.out.later hb)
  have Hp3 := Lib.hid (Hp3.out.later hb)
  have GG := Lib.hid (GG.out.later hb)
  have Fz1 := Lib.hid (Fz1.out.later hb)
  have B := Lib.hid (B.out.trans (hb.mono B.out.size))
  have zw18 := hb.size
  clear hb
  clear Fz1 Fp1
  have kP0 := fun i => P0.out.cell i
  have kX0 := fun i => X0.out.cell i
  go_wp2_with fail
  clear kP0 kX0
  refine (laws_toCasDidS A2 c2 x2 none _ w.heap.size B.out.size (HN2.out.below B.out) tl2).mono ?_
  rintro e w19 ⟨gz2, hgz2, rfl, hFz2, hb⟩
  have Fz2 := Lib.hid hFz2
  clear hFz2 hgz2
  have P0 := Lib.hid (P0.out.later hb)
  have X0 := Lib.hid (X0.out.later hb)
  have I0 := Lib.hid (I0.out.later hb)
  have Hp0 := Lib.hid (Hp0.out.later hb)
  have Hp1 := Lib.hid (Hp1.out.later hb)
  have Fp2 := Lib.hid (Fp2.out.later hb)
  have Hp2 := Lib.hid (Hp2.out.later hb)
  have Fp3 := Lib.hid (Fp3.out.later hb)
  have Hp3 := Lib.hid (Hp3.out.later hb)
  have GG := Lib.hid (GG.out.later hb)
  have B := Lib.hid (B.out.trans (hb.mono B.out.size))
  have zw19 := hb.size
  clear hb
  have kP0 := fun i => P0.out.cell i
  have kX0 := fun i => X0.out.cell i
  go_wp2_with fail
  clear kP0 kX0
  refine (laws_eqCasDidS _ _ _ _ x2 _ _ _ Fp2.out Fz2.out).mono ?_
  rintro e w20 ⟨rfl, hb⟩
  have P0 := Lib.hid (P0.out.later hb)
  have X0 := Lib.hid (X0.out.later hb)
  have I0 := Lib.hid (I0.out.later hb)
  have Hp0 := Lib.hid (Hp0.out.later hb)
  have Hp1 := Lib.hid (Hp1.out.later hb)
  have Fp2 := Lib.hid (Fp2.out.later hb)
  have Hp2 := Lib.hid (Hp2.out.later hb)
  have Fp3 := Lib.hid (Fp3.out.later hb)
  have Hp3 := Lib.hid (Hp3.out.later hb)
  have GG := Lib.hid (GG.out.later hb)
  have Fz2 := Lib.hid (Fz2.out.later hb)
  have B := Lib.hid (B.out.trans (hb.mono B.out.size))
  have zw20 := hb.size
  clear hb
  clear Fz2 Fp2
  have kP0 := fun i => P0.out.cell i
  have kX0 := fun i => X0.out.cell i
  go_wp2_with fail
  clear kP0 kX0
  refine (laws_toCasItemS A3 c3 x3 none _ w.heap.size B.out.size (HN3.out.below B.out) tl3).mono ?_
  rintro e w21 ⟨gz3, hgz3, rfl, hFz3, hb⟩
  have Fz3 := Lib.hid hFz3
  clear hFz3 hgz3
  have P0 := Lib.hid (P0.out.later hb)
  have X0 := Lib.hid (X0.out.later hb)
  have I0 := Lib.hid (I0.out.later hb)
  have Hp0 := Lib.hid (Hp0.out.later hb)
  have Hp1 := Lib.hid (Hp1.out.later hb)
  have Hp2 := Lib.hid (Hp2.out.later hb)
  have Fp3 := Lib.hid (Fp3.out.later hb)
  have Hp3 := Lib.hid (Hp3.out.later hb)
  have GG := Lib.hid (GG.out.later hb)
  have B := Lib.hid (B.out.trans (hb.mono B.out.size))
  have zw21 := hb.size
  clear hb
  have kP0 := fun i => P0.out.cell i
  have kX0 := fun i => X0.out.cell i
  go_wp2_with fail
  clear kP0 kX0
  refine (laws_eqCasItemS _ _ _ _ x3 _ _ _ Fp3.out Fz3.out).mono ?_
  rintro e w22 ⟨rfl, hb⟩
  have P0 := Lib.hid (P0.out.later hb)
  have X0 := Lib.hid (X0.out.later hb)
  have I0 := Lib.hid (I0.out.later hb)
  have Hp0 := Lib.hid (Hp0.out.later hb)
  have Hp1 := Lib.hid (Hp1.out.later hb)
  have Hp2 := Lib.hid (Hp2.out.later hb)
  have Fp3 := Lib.hid (Fp3.out.later hb)
  have Hp3 := Lib.hid (Hp3.out.later hb)
  have GG := Lib.hid (GG.out.later hb)
  have Fz3 := Lib.hid (Fz3.out.later hb)
  have B := Lib.hid (B.out.trans (hb.mono B.out.size))
  have zw22 := hb.size
  clear hb
  clear Fz3 Fp3
  have kP0 := fun i => P0.out.cell i
  have kX0 := fun i => X0.out.cell i
  go_wp2_with fail
  clear kP0 kX0
  refine (laws_markNetNet gp0 _ x0 1 _ w6.heap.size w7.heap.size Hp0.out.2.2.2 Hp0.out.1 Hp0.out.2.1 Hp0.out.2.2.1 tl0 TS0.out (by omega) (by omega)).mono ?_
  rintro e w23 ⟨⟨mk, rfl, hm0, hm1⟩, in0, kk⟩
  have inG : InsideG w6.heap.size w7.heap.size w22 w23 := in0
  clear in0
  clear Hp0
  have P0 := Lib.hid (P0.out.inG inG (by omega))
  have X0 := Lib.hid (X0.out.inG inG (by omega))
  have I0 := Lib.hid (I0.out.inG inG (by omega))
  have Hp1 := Lib.hid (Hp1.out.kept inG.size kk)
  have Hp2 := Lib.hid (Hp2.out.kept inG.size kk)
  have Hp3 := Lib.hid (Hp3.out.kept inG.size kk)
  have GG := Lib.hid (GG.out.inG inG (by omega))
  have B := Lib.hid (B.out.trans (inG.below (by omega) B.out.size))
  have zw23 := inG.size
  clear inG kk
  have kP0 := fun i => P0.out.cell i
  have kX0 := fun i => X0.out.cell i
  go_wp2_with fail
  clear kP0 kX0
  refine (mark_ints _ _ x1.length _ _ w8.heap.size w9.heap.size Hp1.out.2 (by omega) (by omega) (by omega)).mono ?_
  rintro e w24 ⟨rfl, in0, kk⟩
  have inG : InsideG w8.heap.size w9.heap.size w23 w24 := InsideG.of in0
  clear in0
  clear Hp1
  have P0 := Lib.hid (P0.out.inG inG (by omega))
  have X0 := Lib.hid (X0.out.inG inG (by omega))
  have I0 := Lib.hid (I0.out.inG inG (by omega))
  have Hp2 := Lib.hid (Hp2.out.kept inG.size kk)
  have Hp3 := Lib.hid (Hp3.out.kept inG.size kk)
  have GG := Lib.hid (GG.out.inG inG (by omega))
  have B := Lib.hid (B.out.trans (inG.below (by omega) B.out.size))
  have zw24 := inG.size
  clear inG kk
  have kP0 := fun i => P0.out.cell i
  have kX0 := fun i => X0.out.cell i
  go_wp2_with fail
  clear kP0 kX0
  refine (mark_dids _ _ x2.length _ _ w9.heap.size w10.heap.size (fun hn => Hp2.out.2 (by omega)) (by omega) (by omega) (by omega)).mono ?_
  rintro e w25 ⟨rfl, in0, kk⟩
  have inG : InsideG w9.heap.size w10.heap.size w24 w25 := InsideG.of in0
  clear in0
  clear Hp2
  have P0 := Lib.hid (P0.out.inG inG (by omega))
  have X0 := Lib.hid (X0.out.inG inG (by omega))
  have I0 := Lib.hid (I0.out.inG inG (by omega))
  have Hp3 := Lib.hid (Hp3.out.kept inG.size kk)
  have GG := Lib.hid (GG.out.inG inG (by omega))
  have B := Lib.hid (B.out.trans (inG.below (by omega) B.out.size))
  have zw25 := inG.size
  clear inG kk
  have kP0 := fun i => P0.out.cell i
  have kX0 := fun i => X0.out.cell i
  go_wp2_with fail
  clear kP0 kX0
  refine (mark_items _ _ x3.length _ _ w10.heap.size w11.heap.size (fun hn => Hp3.out.2 (by omega)) (by omega) (by omega) (by omega)).mono ?_
  rintro e w26 ⟨rfl, in0, kk⟩
  have inG : InsideG w10.heap.size w11.heap.size w25 w26 := InsideG.of in0
  clear in0
  clear Hp3
  have P0 := Lib.hid (P0.out.inG inG (by omega))
  have X0 := Lib.hid (X0.out.inG inG (by omega))
  have I0 := Lib.hid (I0.out.inG inG (by omega))
  have GG := Lib.hid (GG.out.inG inG (by omega))
  have B := Lib.hid (B.out.trans (inG.below (by omega) B.out.size))
  have zw26 := inG.size
  clear inG kk
  have kP0 := fun i => P0.out.cell i
  have kX0 := fun i => X0.out.cell i
  go_wp2_with fail
  clear kP0 kX0
  refine (laws_eqIntS _ _ _ _ out out _ w26.heap.size (GG.out.ints (by omega)) (I0.out.2.more I0.out.1)).mono ?_
  rintro e _ ⟨rfl, qc2, rfl⟩
  have hb : Below w26.heap.size w26 (w26.drewN qc2) := bdN (Below.refl _ _) _
  generalize w26.drewN qc2 = w27 at hb ⊢
  have P0 := Lib.hid (P0.out.later hb)
  have X0 := Lib.hid (X0.out.later hb)
  have I0 := Lib.hid (I0.out.later hb)
  have GG := Lib.hid (GG.out.later hb)
  have B := Lib.hid (B.out.trans (hb.mono B.out.size))
  have zw27 := hb.size
  clear hb
  have kP0 := fun i => P0.out.cell i
  have kX0 := fun i => X0.out.cell i
  go_wp2_with fail
  clear kP0 kX0
  refine (laws_markIntS_own G _ out 1 _ w11.heap.size w27.heap.size GG.out (fun hn => OwnI.hi GG.out hn) (by omega) (by omega) (by omega)).mono ?_
  rintro e w28 ⟨rfl, og, in0⟩
  have inG : InsideG w11.heap.size w27.heap.size w27 w28 := InsideG.of in0
  have GM := Lib.hid og
  clear in0 og GG
  have P0 := Lib.hid (P0.out.inG inG (by omega))
  have I0 := Lib.hid (I0.out.inG inG (by omega))
  have B := Lib.hid (B.out.trans (inG.below (by omega) B.out.size))
  have zw28 := inG.size
  clear inG
  have kP0 := fun i => P0.out.cell i
  go_wp2_with fail
  clear kP0
  refine (laws_heldIntS G _ out.length 1 _ w28.heap.size (GM.out.ints (by rw [seqI_len]; omega)) (by omega) (by omega) (by omega)).mono ?_
  rintro e w' ⟨rfl, rfl⟩
  have q0 : ¬ ((1 : Int) + out.length < 0) := by omega
  have kP0 := fun i => P0.out.cell i
  go_wp2_with fail
  clear kP0
  refine (laws_toNetNet x0 A0 c0 none _ (HN0.out.later B.out) tl0 TS0.out).mono ?_
  rintro e w29 ⟨gb0, hgb0, rfl, hFb0, hb⟩
  have Fb0 := Lib.hid hFb0
  clear hFb0 hgb0
  have P0 := Lib.hid (P0.out.later hb)
  have I0 := Lib.hid (I0.out.later hb)
  have GM := Lib.hid (GM.out.later hb)
  have B := Lib.hid (B.out.trans (hb.mono B.out.size))
  have zw29 := hb.size
  clear hb
  have kP0 := fun i => P0.out.cell i
  go_wp2_with fail
  clear kP0
  refine (laws_toIntS A1 c1 x1 _ w.heap.size B.out.size (HN1.out.below B.out) tl1).mono ?_
  rintro e w30 ⟨rfl, hw, hb⟩
  have Fb1 := Lib.hid hw
  clear hw
  have P0 := Lib.hid (P0.out.later hb)
  have I0 := Lib.hid (I0.out.later hb)
  have GM := Lib.hid (GM.out.later hb)
  have Fb0 := Lib.hid (Fb0.out.later hb)
  have B := Lib.hid (B.out.trans (hb.mono B.out.size))
  have zw30 := hb.size
  clear hb
  have kP0 := fun i => P0.out.cell i
  go_wp2_with fail
  clear kP0
  refine (laws_toCasDidS A2 c2 x2 none _ w.heap.size B.out.size (HN2.out.below B.out) tl2).mono ?_
  rintro e w31 ⟨gb2, hgb2, rfl, hFb2, hb⟩
  have Fb2 := Lib.hid hFb2
  clear hFb2 hgb2
  have P0 := Lib.hid (P0.out.later hb)
  have I0 := Lib.hid (I0.out.later hb)
  have GM := Lib.hid (GM.out.later hb)
  have Fb0 := Lib.hid (Fb0.out.later hb)
  have Fb1 := Lib.hid (Fb1.out.later hb)
  have B := Lib.hid (B.out.trans (hb.mono B.out.size))
  have zw31 := hb.size
  clear hb
  have kP0 := fun i => P0.out.cell i
  go_wp2_with fail
  clear kP0
  refine (laws_toCasItemS A3 c3 x3 none _ w.heap.size B.out.size (HN3.out.below B.out) tl3).mono ?_
  rintro e w32 ⟨gb3, hgb3, rfl, hFb3, hb⟩
  have Fb3 := Lib.hid hFb3
  clear hFb3 hgb3
  have P0 := Lib.hid (P0.out.later hb)
  have I0 := Lib.hid (I0.out.later hb)
  have GM := Lib.hid (GM.out.later hb)
  have Fb0 := Lib.hid (Fb0.out.later hb)
  have Fb1 := Lib.hid (Fb1.out.later hb)
  have Fb2 := Lib.hid (Fb2.out.later hb)
  have B := Lib.hid (B.out.trans (hb.mono B.out.size))
  have zw32 := hb.size
  clear hb
  have kP0 := fun i => P0.out.cell i
  go_wp2_with fail
  clear kP0
  refine (impl_PplMay x0 _ _  _ _ x1  _ _ x2  _ _ x3  t4 _ _ _ _ (MadeN.rows Fb0.out tl0) (Fb1.out.ints Fb1.out.lt (by omega)) Fb2.out Fb3.out).mono ?_
  rintro e w33 ⟨vH, rfl, hvH, hb⟩
  rw [HOUT.out] at hvH
  obtain ⟨HA, cH, hv, oH⟩ := OwnI.of_v hvH
  subst hv
  have OH := Lib.hid oH
  clear hvH oH
  have P0 := Lib.hid (P0.out.later hb)
  have I0 := Lib.hid (I0.out.later hb)
  have GM := Lib.hid (GM.out.later hb)
  have B := Lib.hid (B.out.trans (hb.mono B.out.size))
  have zw33 := hb.size
  clear hb
  have kP0 := fun i => P0.out.cell i
  go_wp2_with fail
  clear kP0
  refine (laws_eqIntS _ _ _ _ out out _ w33.heap.size (OH.out.ints (by omega)) (I0.out.2.more I0.out.1)).mono ?_
  rintro e _ ⟨rfl, qc3, rfl⟩
  have hb : Below w33.heap.size w33 (w33.drewN qc3) := bdN (Below.refl _ _) _
  generalize w33.drewN qc3 = w34 at hb ⊢
  have P0 := Lib.hid (P0.out.later hb)
  have I0 := Lib.hid (I0.out.later hb)
  have GM := Lib.hid (GM.out.later hb)
  have B := Lib.hid (B.out.trans (hb.mono B.out.size))
  have zw34 := hb.size
  clear hb
  have kP0 := fun i => P0.out.cell i
  go_wp2_with fail
  clear kP0
  refine (laws_heldIntS G _ out.length 1 _ w34.heap.size (GM.out.ints (by rw [seqI_len]; omega)) (by omega) (by omega) (by omega)).mono ?_
  rintro e w' ⟨rfl, rfl⟩
  go_wp2
  go_ret
  exact ⟨rfl, B.out⟩
end Go.Proofs.Ytokachjpjpikbaa
