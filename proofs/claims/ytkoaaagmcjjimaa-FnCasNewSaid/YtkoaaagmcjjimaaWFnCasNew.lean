/- The walk of FnCasNew: it returns true. -/
import Derived.Test.YtkoaaagmcjjimaaDrawCN
import Derived.Test.YtkoaaagmcjjimaaGNew
import Derived.Deep.RegionHeld3
namespace Go.Proofs.Ytkoaaagmcjjimaa
open Go.RowKit
set_option linter.unusedSimpArgs false
set_option linter.unusedVariables false

set_option maxRecDepth 100000 in
set_option maxHeartbeats 8000000 in
theorem walk_FnCasNew (A : Option Addr) (c : Nat) (xs : List Int) (w : World) (h : Code w w.heap.size A c xs) :
    Calls Try.prog 7 #[.slice A xs.length c] w fun e w' => e = .returned (.bool true) ∧ Below w.heap.size w w' := by
  have hlen := h.1.1
  have HC := Lib.hid h
  clear h
  by_cases hl : 1048576 < xs.length
  · have hlz : (1048576 : Int) < (xs.length : Int) := by omega
    go_enter Try.func7, Try.ntmps7
    go_wp2
    go_ret
    exact ⟨rfl, Below.refl _ _⟩
  have hlz : ¬ (1048576 : Int) < (xs.length : Int) := by omega
  go_enter Try.func7, Try.ntmps7
  go_wp2_with fail
  refine (spec_DrawCasNew A c xs w HC.out).mono ?_
  rintro e w1 ⟨x, g, c2, A3, c3, ds, rfl, hrow, hok, hds, hd4, hb1⟩
  have X1 := Lib.hid hrow
  have D1 := Lib.hid hds
  have B1 := Lib.hid hb1
  clear hrow hb1 hok hds
  go_wp2_with fail
  refine callsAt fun V hV => ?_
  have P : Hid (Bk V w1.heap.size 37 #[.int .i64 x.places, .slice (some ⟨g, 0, none⟩) x.tasks.length c2]) := by show Bk _ _ _ _; rw [hV]; exact Bk.new rfl
  have hbV : Below w1.heap.size w1 V := by rw [hV]; exact (Below.refl _ _).alloc (Nat.le_refl _) _
  have X := Lib.hid (X1.out.later hbV)
  have D := Lib.hid (D1.out.later hbV)
  have B := Lib.hid (B1.out.trans (hbV.mono B1.out.size))
  have zV := hbV.size
  clear hV hbV X1 B1 D1
  refine (impl_CasNew x (some ⟨g, 0, none⟩) c2 A3 c3 ds none V X.out D.out).mono ?_
  rintro e w2 ⟨G1, k1, G3, k3, rfl, hnew, hb⟩
  obtain ⟨hm8, hdl⟩ := casNew_len x ds (by omega)
  have P := Lib.hid (P.out.later hb)
  have X := Lib.hid (X.out.later hb)
  have D := Lib.hid (D.out.later hb)
  have B := Lib.hid (B.out.trans (hb.mono B.out.size))
  have N := Lib.hid hnew
  have z2 := hb.size
  clear hb hnew
  obtain ⟨y, hy⟩ : ∃ y, y = casNew x ds := ⟨_, rfl⟩
  rw [← hy] at N hm8 hdl ⊢
  have HY := Lib.hid hy
  have hnil := casNew_nil x ds
  rw [← hy] at hnil
  have HNIL := Lib.hid hnil
  clear hy hnil
  -- the case's cell
  go_upto_region 5 with fail
  generalize hV2 : World.alloc w2 _ = w3
  have Y : Hid (Bk w3 w2.heap.size 63 #[.int .i64 y.state, .slice G1 y.marks.length k1, .slice none 0 0, .slice G3 y.data.length k3, .slice none 0 0]) := by show Bk _ _ _ _; rw [← hV2]; exact Bk.new rfl
  have hb : Below w2.heap.size w2 w3 := by rw [← hV2]; exact (Below.refl _ _).alloc (Nat.le_refl _) _
  have P := Lib.hid (P.out.later hb)
  have X := Lib.hid (X.out.later hb)
  have D := Lib.hid (D.out.later hb)
  have N := Lib.hid (N.out.later hb)
  have B := Lib.hid (B.out.trans (hb.mono B.out.size))
  clear hV2 hb
  have hdr := (Below.refl w3.heap.size w3).drew
  refine wp_region_held_drew (S := (fun V : World => V.cell? ⟨w1.heap.size, 0, none⟩ = some (.int .i64 x.places) ∧ V.cell? ⟨w1.heap.size, 1, none⟩ = some (.slice (some ⟨g, 0, none⟩) x.tasks.length c2) ∧ V.cell? ⟨w2.heap.size, 0, none⟩ = some (.int .i64 y.state) ∧ V.cell? ⟨w2.heap.size, 1, none⟩ = some (.slice G1 y.marks.length k1) ∧ V.cell? ⟨w2.heap.size, 2, none⟩ = some (.slice none 0 0) ∧ V.cell? ⟨w2.heap.size, 3, none⟩ = some (.slice G3 y.data.length k3) ∧ V.cell? ⟨w2.heap.size, 4, none⟩ = some (.slice none 0 0))) (by kernel_rfl) ⟨P.out.cell 0, P.out.cell 1, Y.out.cell 0, Y.out.cell 1, Y.out.cell 2, Y.out.cell 3, Y.out.cell 4⟩ (fun hHeld => ?_)
  generalize w3.drew = w4 at hdr hHeld ⊢
  have P := Lib.hid (P.out.later hdr)
  have Y := Lib.hid (Y.out.later hdr)
  have X := Lib.hid (X.out.later hdr)
  have D := Lib.hid (D.out.later hdr)
  have N := Lib.hid (N.out.later hdr)
  have B := Lib.hid (B.out.trans (hdr.mono B.out.size))
  clear hdr
  refine wpAnyH_take (i := 0) (v := ?_) rfl (by kernel_rfl) (by kernel_rfl) (by kernel_rfl) (fun _ _ _ h => h) (Or.inl ⟨by rfl, ?_⟩) (by assumption) ?_
  rotate_left
  · intro V hSw
    (try dsimp only at hSw)
    go_simp
    (try with_reducible rfl)
  simp only [List.getElem_toArray, List.getElem_cons_succ, List.getElem_cons_zero, Act.put, List.setIfInBounds_toArray, List.set_cons_zero, List.set_cons_succ]
  refine wpAnyH_take (i := 1) (v := ?_) rfl (by kernel_rfl) (by kernel_rfl) (by kernel_rfl) (fun _ _ _ h => h) (Or.inl ⟨by rfl, ?_⟩) (by assumption) ?_
  rotate_left
  · intro V hSw
    (try dsimp only at hSw)
    go_simp
    (try with_reducible rfl)
  simp only [List.getElem_toArray, List.getElem_cons_succ, List.getElem_cons_zero, Act.put, List.setIfInBounds_toArray, List.set_cons_zero, List.set_cons_succ]
  refine wpAnyH_take (i := 2) (v := ?_) rfl (by kernel_rfl) (by kernel_rfl) (by kernel_rfl) (fun _ _ _ h => h) (Or.inl ⟨by rfl, ?_⟩) (by assumption) ?_
  rotate_left
  · intro V hSw
    (try dsimp only at hSw)
    go_simp
    (try with_reducible rfl)
  simp only [List.getElem_toArray, List.getElem_cons_succ, List.getElem_cons_zero, Act.put, List.setIfInBounds_toArray, List.set_cons_zero, List.set_cons_succ]
  refine wpAnyH_ready (rs := [3]) (by kernel_rfl) (by simp) ?_
  refine AllReadyH.cons rfl (fun K hK => ?_) AllReadyH.nil
  go_simp
  go_wp2_with (go_at_call 46; refine (spec_CasNew x (some ⟨g, 0, none⟩) c2 A3 c3 ds none w4 X.out D.out).mono ?_; rintro e w5 ⟨S1, s1, S3, s3, rfl, hnew, hb⟩; rw [← HY.out] at hnew; rw [← HY.out])
  have P := Lib.hid (P.out.later hb)
  have Y := Lib.hid (Y.out.later hb)
  have X := Lib.hid (X.out.later hb)
  have D := Lib.hid (D.out.later hb)
  have N := Lib.hid (N.out.later hb)
  have M := Lib.hid hnew
  have B := Lib.hid (B.out.trans (hb.mono B.out.size))
  clear hb hnew
  refine hK.out _ _ ⟨P.out.cell 0, P.out.cell 1, Y.out.cell 0, Y.out.cell 1, Y.out.cell 2, Y.out.cell 3, Y.out.cell 4⟩ (fun hHeld => ?_)
  clear hK K
  refine wpAnyH_ready (rs := [4]) (by kernel_rfl) (by simp) ?_
  refine AllReadyH.cons rfl (fun K hK => ?_) AllReadyH.nil
  go_simp
  go_wp2_with (go_at_call 45; refine (gu_new y G1 S1 G3 S3 k1 s1 k3 s3 w5 (N.out.marks (by omega)) (M.out.marks (by omega)) (N.out.data (by omega)) (M.out.data (by omega))).mono ?_; rintro e w6 ⟨rfl, hb⟩)
  have P := Lib.hid (P.out.later hb)
  have Y := Lib.hid (Y.out.later hb)
  have X := Lib.hid (X.out.later hb)
  have D := Lib.hid (D.out.later hb)
  have N := Lib.hid (N.out.later hb)
  have B := Lib.hid (B.out.trans (hb.mono B.out.size))
  clear hb M
  refine hK.out _ _ ⟨P.out.cell 0, P.out.cell 1, Y.out.cell 0, Y.out.cell 1, Y.out.cell 2, Y.out.cell 3, Y.out.cell 4⟩ (fun hHeld => ?_)
  clear hK K
  refine wpAnyH_take (i := 5) (v := ?_) rfl (by kernel_rfl) (by kernel_rfl) (by kernel_rfl) (fun _ _ _ h => h) (Or.inl ⟨by rfl, ?_⟩) (by assumption) ?_
  rotate_left
  · intro V hSw
    (try dsimp only at hSw)
    go_simp
    (try with_reducible rfl)
  simp only [List.getElem_toArray, List.getElem_cons_succ, List.getElem_cons_zero, Act.put, List.setIfInBounds_toArray, List.set_cons_zero, List.set_cons_succ]
  refine wpAnyH_done (by kernel_rfl) ?_ _
  clear hHeld
  have kP := fun i => P.out.cell i
  go_wp2_with fail
  clear kP
  refine (spec_NetOk x _ _ _ ⟨_, c2, rfl, X.out⟩).mono ?_
  rintro e w7 ⟨rfl, hb⟩
  have P := Lib.hid (P.out.later hb)
  have Y := Lib.hid (Y.out.later hb)
  have X := Lib.hid (X.out.later hb)
  have D := Lib.hid (D.out.later hb)
  have N := Lib.hid (N.out.later hb)
  have B := Lib.hid (B.out.trans (hb.mono B.out.size))
  clear hb
  have HCOK : Hid (∀ W : World, Below w7.heap.size w7 W → Calls Try.prog 47 #[.agg #[.int .i64 x.places, .slice (some ⟨g, 0, none⟩) x.tasks.length c2], .agg #[.int .i64 y.state, .slice G1 y.marks.length k1, .slice none 0 0, .slice G3 y.data.length k3, .slice none 0 0]] W (Says (.bool (casOk x y)) W)) := fun W hb => by
    have h := impl_CasOk x (some ⟨g, 0, none⟩) c2 y G1 k1 none 0 G3 k3 none 0 none none W (X.out.later hb) ((N.out.later hb).marks (by omega)).rows (by rw [HNIL.out.1]; exact Rows.nil) ((N.out.later hb).data (by omega)).rows (by rw [HNIL.out.2]; exact Rows.nil)
    unfold caseCells at h
    rw [HNIL.out.1, HNIL.out.2] at h
    exact h
  have HZERO : Hid (netOk x = false ∨ datOk ds = false → casOk x y = false ∧ y = ⟨0, [], [], [], []⟩) := fun h => ⟨by rw [HY.out]; exact casOk_no h, by rw [HY.out]; exact casNew_no h⟩
  cases q1 : netOk x with
  | false =>
    obtain ⟨hz1, hz2⟩ := HZERO.out (.inl q1)
    have HZ1 := Lib.hid hz1
    clear hz1 HZERO HY
    subst hz2
    have kP := fun i => P.out.cell i
    have kY := fun i => Y.out.cell i
    have hgz := gu_new ⟨0, [], [], [], []⟩ G1 none G3 none k1 0 k3 0 _ (N.out.marks (by simp)) Ints.nil (N.out.data (by simp)) Ints.nil
    have HGZ := Lib.hid hgz
    clear hgz
    simp only [List.length_nil] at kY HGZ HCOK
    go_wp2_with fail
    refine HGZ.out.mono ?_
    rintro e w8 ⟨rfl, hb⟩
    have P := Lib.hid (P.out.later hb)
    have Y := Lib.hid (Y.out.later hb)
    have HCK := Lib.hid (HCOK.out w8 hb)
    have B := Lib.hid (B.out.trans (hb.mono B.out.size))
    clear hb kP kY HGZ
    have kP := fun i => P.out.cell i
    have kY := fun i => Y.out.cell i
    simp only [List.length_nil] at kY
    go_wp2_with fail
    refine HCK.out.mono ?_
    rintro e w9 ⟨rfl, hb⟩
    rw [HZ1.out]
    have B := Lib.hid (B.out.trans (hb.mono B.out.size))
    clear hb kP kY
    go_wp2_with (go_at_call 22; refine (laws_guOk _).mono ?_; rintro e w10 ⟨rfl, hb⟩; have B := Lib.hid (B.out.trans (hb.mono B.out.size)); clear hb)
    go_ret
    exact ⟨rfl, B.out⟩
  | true =>
  go_wp2_with fail
  refine (spec_DatOk A3 c3 ds _ _ D.out).mono ?_
  rintro e w' ⟨rfl, rfl⟩
  cases q2 : datOk ds with
  | false =>
    obtain ⟨hz1, hz2⟩ := HZERO.out (.inr q2)
    have HZ1 := Lib.hid hz1
    clear hz1 HZERO HY
    subst hz2
    have kP := fun i => P.out.cell i
    have kY := fun i => Y.out.cell i
    have hgz := gu_new ⟨0, [], [], [], []⟩ G1 none G3 none k1 0 k3 0 _ (N.out.marks (by simp)) Ints.nil (N.out.data (by simp)) Ints.nil
    have HGZ := Lib.hid hgz
    clear hgz
    simp only [List.length_nil] at kY HGZ HCOK
    go_wp2_with fail
    refine HGZ.out.mono ?_
    rintro e w8 ⟨rfl, hb⟩
    have P := Lib.hid (P.out.later hb)
    have Y := Lib.hid (Y.out.later hb)
    have HCK := Lib.hid (HCOK.out w8 hb)
    have B := Lib.hid (B.out.trans (hb.mono B.out.size))
    clear hb kP kY HGZ
    have kP := fun i => P.out.cell i
    have kY := fun i => Y.out.cell i
    simp only [List.length_nil] at kY
    go_wp2_with fail
    refine HCK.out.mono ?_
    rintro e w9 ⟨rfl, hb⟩
    rw [HZ1.out]
    have B := Lib.hid (B.out.trans (hb.mono B.out.size))
    clear hb kP kY
    go_wp2_with (go_at_call 22; refine (laws_guOk _).mono ?_; rintro e w10 ⟨rfl, hb⟩; have B := Lib.hid (B.out.trans (hb.mono B.out.size)); clear hb)
    go_ret
    exact ⟨rfl, B.out⟩
  | true =>
  obtain ⟨_, _, hp2, hp8⟩ := netOk_len q1
  have HYS : Hid (y = ⟨1, newMarks x.places.toNat, [], ds, []⟩) := by show _ = _; rw [HY.out]; exact casNew_yes q1 q2
  have HCK : Hid (casOk x y = true) := by show _ = _; rw [HY.out]; exact casOk_yes q1 q2
  have hnm := newMarks_len x.places.toNat
  have hgt : (newMarks x.places.toNat)[0]? = some 1 := by
    have h := newMarks_get x.places.toNat 0 (by omega)
    rw [List.getD_eq_getElem?_getD, List.getElem?_eq_getElem (by omega)] at h
    rw [List.getElem?_eq_getElem (by omega)]
    exact congrArg some h
  have HGT := Lib.hid hgt
  have HSUM := Lib.hid (sum_set0 x.places.toNat (by omega))
  have HMEM : Hid (∀ z ∈ newMarks x.places.toNat, -1000 ≤ z ∧ z ≤ 1000) := fun z hz => by rcases newMarks_mem hz with rfl | rfl <;> omega
  generalize newMarks x.places.toNat = nm at HYS hnm HGT HSUM HMEM
  have hnm2 : 2 ≤ nm.length := by omega
  have hnm8 : nm.length ≤ 8 := by omega
  clear q1 q2 hnm hgt
  obtain ⟨cc, hcc⟩ : ∃ cc, cc = casOk x y := ⟨_, rfl⟩
  rw [← hcc] at HCOK HCK
  clear hcc HZERO HY HNIL hm8 hdl
  have hy := HYS.out
  subst hy
  clear HYS
  have hcc := HCK.out
  subst hcc
  clear HCK
  simp only at N Y HCOK ⊢
  have kP := fun i => P.out.cell i
  have kY := fun i => Y.out.cell i
  go_wp2_with fail
  clear kP kY
  refine (HCOK.out _ (Below.refl _ _)).mono ?_
  rintro e w8 ⟨rfl, hb⟩
  have Y := Lib.hid (Y.out.later hb)
  have D := Lib.hid (D.out.later hb)
  have N := Lib.hid (N.out.later hb)
  have B := Lib.hid (B.out.trans (hb.mono B.out.size))
  clear hb
  have NM := Lib.hid (N.out.marks (by show nm.length ≤ _; omega))
  have ND := Lib.hid (N.out.data (by show ds.length ≤ _; omega))
  obtain ⟨bm, om, hGm, _, hcm0⟩ := NM.out.at_ (k := 0) (show 0 < nm.length by omega)
  rw [Nat.add_zero] at hcm0
  have h1 : nm[0]'(by omega) = 1 := by
    have h := HGT.out
    rw [List.getElem?_eq_getElem (by omega)] at h
    exact Option.some.inj h
  have hcm : w8.cell? ⟨bm, om, none⟩ = some (.int .i64 1) := by rw [hcm0]; exact congrArg (fun z => some (Value.int .i64 z)) h1
  clear hcm0
  subst hGm
  have h0z : (0 : Int) < (nm.length : Int) := by omega
  clear h1
  have kY := fun i => Y.out.cell i
  go_wp2_with fail
  clear kY
  refine (impl_MrkSum _ _ nm w8 w8.heap.size NM.out HMEM.out (by omega)).mono ?_
  rintro e w' ⟨rfl, rfl⟩
  rw [HSUM.out]
  have kY := fun i => Y.out.cell i
  go_wp2_with fail
  refine (laws_guInts _ _ _ _ ds ds w8 w8.heap.size ND.out D.out).mono ?_
  rintro e _ ⟨rfl, qg, rfl⟩
  have hd1 : decide (ds = ds) = true := by simp
  rw [hd1]
  clear hd1 kY
  go_wp2
  go_ret
  exact ⟨rfl, bdN B.out _⟩
end Go.Proofs.Ytkoaaagmcjjimaa
