/- The walk of FnSplAll: it returns true. -/
import Derived.Test.YtkkjljpokannkaaWaysS
import Derived.Test.YtkkjljpokannkaaWaysB
import Derived.Test.YtkkjljpokannkaaWaysLaw
import Derived.Test.YtkkjljpokannkaaManyEq
import Derived.Test.YtkkjljpokannkaaDrawSpl
import Derived.Test.YtkkjljpokannkaaNetOk
import Derived.Test.YtkkjljpokannkaaDat
import Derived.Deep.RegionHeld3
namespace Go.Proofs.Ytkkjljpokannkaa
open Go.RowKit
set_option linter.unusedSimpArgs false
set_option linter.unusedVariables false

theorem row_one {w : World} {g : Nat} {t : TypeId} {x : GTask} {cs : List Value} (h : Bk w g t cs.toArray) (hr : taskC.R none w w.heap.size x cs) : Rows taskC none w w.heap.size (some ⟨g, 0, none⟩) [x] :=
  ⟨by simp, fun _ => ⟨g, 0, rfl, ⟨h.lt, fun _ h' => by cases h'⟩, fun j z hz => by
    have hj : j = 0 := by
      have := (List.getElem?_eq_some_iff.1 hz).1
      simp at this
      omega
    subst hj
    simp at hz
    subst hz
    refine ⟨cs, hr, fun i u hu => ?_⟩
    rw [h.cell]
    simpa using hu⟩⟩
theorem any_yes {α : Type} {p : α → Bool} {xs : List α} {k : Nat} (h : (xs.take k).any p = true) : (xs.take (k + 1)).any p = true := by
  rw [List.any_eq_true] at h ⊢
  obtain ⟨z, hz, hp⟩ := h
  exact ⟨z, (List.take_subset_take_left xs (Nat.le_succ k)) hz, hp⟩

set_option maxRecDepth 100000 in
set_option maxHeartbeats 8000000 in
theorem walk_FnSplAll (A : Option Addr) (c : Nat) (xs : List Int) (w : World) (h : Code w w.heap.size A c xs) :
    Calls Try.prog 6 #[.slice A xs.length c] w fun e w' => e = .returned (.bool true) ∧ Below w.heap.size w w' := by
  have hlen := h.1.1
  have HC := Lib.hid h
  clear h
  by_cases hl : 1048576 < xs.length
  · have hlz : (1048576 : Int) < (xs.length : Int) := by omega
    go_enter Try.func6, Try.ntmps6
    go_wp2
    go_ret
    exact ⟨rfl, Below.refl _ _⟩
  have hlz : ¬ (1048576 : Int) < (xs.length : Int) := by omega
  go_enter Try.func6, Try.ntmps6
  go_wp2_with fail
  refine (spec_DrawSplAll A c xs w HC.out).mono ?_
  rintro e w1 ⟨y, B1, e1, B2, e2, B3, e3, rfl, r1, r2, r3, hb⟩
  have Q1 := Lib.hid r1
  have Q2 := Lib.hid r2
  have Q3 := Lib.hid r3
  have B := Lib.hid hb
  have WL := Lib.hid (rows_le (ways_fit y).2)
  have W7 := Lib.hid (ways_fit y).1
  clear r1 r2 r3 hb
  unfold taskW
  obtain ⟨sp, hsp⟩ : ∃ sp, sp = y.split := ⟨_, rfl⟩
  have HSP : Hid (y.split = sp) := hsp.symm
  rw [← hsp]
  clear hsp
  go_wp2_with fail
  refine callsAt fun W2 hW => ?_
  have T2 : Hid (Bk W2 w1.heap.size 42 #[.int .i64 y.join, .int .i64 sp, .slice B1 y.inn.length e1, .slice B2 y.out.length e2, .slice B3 y.clear.length e3, .int .i64 y.role, .int .i64 y.apart, .int .i64 y.all, .int .i64 y.need]) := by show Bk _ _ _ _; rw [hW]; exact Bk.new rfl
  have hb : Below w1.heap.size w1 W2 := by rw [hW]; exact (Below.refl _ _).alloc (Nat.le_refl _) _
  have B := Lib.hid (B.out.trans (hb.mono B.out.size))
  have Q1 := Lib.hid (Q1.out.later hb)
  have Q2 := Lib.hid (Q2.out.later hb)
  have Q3 := Lib.hid (Q3.out.later hb)
  clear hW hb
  have hx0 := (impl_SplAll y B1 e1 B2 e2 B3 e3 none W2 Q2.out)
  unfold taskV at hx0
  rw [HSP.out] at hx0
  refine hx0.mono ?_
  clear hx0
  rintro e w3 hgv
  obtain ⟨AG, cG, bG, rfl, hs, _, hb⟩ := gives_ss hgv
  have GG := Lib.hid hs
  have B := Lib.hid (B.out.trans (hb.mono B.out.size))
  have Q1 := Lib.hid (Q1.out.later hb)
  have Q2 := Lib.hid (Q2.out.later hb)
  have Q3 := Lib.hid (Q3.out.later hb)
  have T2 := Lib.hid (T2.out.later hb)
  clear hgv hs hb
  go_wp2_with fail
  refine (spec_DrawSplTo A c xs w3 (HC.out.later B.out)).mono ?_
  rintro e w4 ⟨y9, D1, i1, D2, i2, D3, i3, AD, cD, ds, rfl, _, _, _, hd, hd4, hb⟩
  have DD := Lib.hid hd
  have B := Lib.hid (B.out.trans (hb.mono B.out.size))
  have Q1 := Lib.hid (Q1.out.later hb)
  have Q2 := Lib.hid (Q2.out.later hb)
  have Q3 := Lib.hid (Q3.out.later hb)
  have T2 := Lib.hid (T2.out.later hb)
  have GG := Lib.hid (GG.out.later hb)
  clear hd hb
  unfold taskW
  have kT := fun i => T2.out.cell i
  have jT := fun o i => (T2.out.alloc o).cell i
  go_wp2_with fail
  clear kT jT
  refine callsAt fun W5 hW => ?_
  have hb : Below w4.heap.size w4 W5 := by rw [hW]; exact (Below.refl _ _).alloc (Nat.le_refl _) _
  have B := Lib.hid (B.out.trans (hb.mono B.out.size))
  have Q1 := Lib.hid (Q1.out.later hb)
  have Q2 := Lib.hid (Q2.out.later hb)
  have Q3 := Lib.hid (Q3.out.later hb)
  have T2 := Lib.hid (T2.out.later hb)
  have GG := Lib.hid (GG.out.later hb)
  have DD := Lib.hid (DD.out.later hb)
  clear hW hb
  have hx0 := (spec_SplAll y B1 e1 B2 e2 B3 e3 none W5 Q2.out)
  unfold taskV at hx0
  rw [HSP.out] at hx0
  refine hx0.mono ?_
  clear hx0
  rintro e w6 hgv
  obtain ⟨AS, cS, bS, rfl, hs, _, hb⟩ := gives_ss hgv
  have GS := Lib.hid hs
  have B := Lib.hid (B.out.trans (hb.mono B.out.size))
  have Q1 := Lib.hid (Q1.out.later hb)
  have Q2 := Lib.hid (Q2.out.later hb)
  have Q3 := Lib.hid (Q3.out.later hb)
  have T2 := Lib.hid (T2.out.later hb)
  have GG := Lib.hid (GG.out.later hb)
  have DD := Lib.hid (DD.out.later hb)
  clear hgv hs hb
  go_wp2_with fail
  refine (laws_guMany AG AS cG cS _ bG bS _ _ _ w6 GG.out GS.out (by have := W7.out; omega) WL.out).mono ?_
  rintro e w7 ⟨rfl, hb⟩
  have B := Lib.hid (B.out.trans (hb.mono B.out.size))
  have Q1 := Lib.hid (Q1.out.later hb)
  have Q2 := Lib.hid (Q2.out.later hb)
  have Q3 := Lib.hid (Q3.out.later hb)
  have T2 := Lib.hid (T2.out.later hb)
  have GG := Lib.hid (GG.out.later hb)
  have DD := Lib.hid (DD.out.later hb)
  clear hb GS
  have kT := fun i => T2.out.cell i
  go_upto_region 9 with fail
  clear kT
  generalize hV : World.alloc (World.alloc w7 _) _ = V8
  have R8 : Hid (Bk V8 w7.heap.size 42 #[.int .i64 y.join, .int .i64 sp, .slice B1 y.inn.length e1, .slice B2 y.out.length e2, .slice B3 y.clear.length e3, .int .i64 y.role, .int .i64 y.apart, .int .i64 y.all, .int .i64 y.need]) := by show Bk _ _ _ _; rw [← hV]; exact (Bk.new rfl).alloc _
  have N8 : Hid (Bk V8 (w7.heap.size + 1) 37 #[.int .i64 8, .slice (some ⟨w7.heap.size, 0, none⟩) 1 1]) := by show Bk _ _ _ _; rw [← hV]; exact Bk.new (by simp)
  have hb : Below w7.heap.size w7 V8 := by rw [← hV]; exact ((Below.refl _ _).alloc (Nat.le_refl _) _).alloc (by simp) _
  have hb78 := hb
  clear hV
  have kR := fun i => R8.out.cell i
  have fR := fun i => R8.out.frozen i
  have kN := fun i => N8.out.cell i
  go_upto_region 10 with fail
  clear kR fR kN
  generalize hV : World.setCell V8 _ _ = V9
  have R9 : Hid (Bk V9 w7.heap.size 42 #[.int .i64 y.join, .int .i64 sp, .slice B1 y.inn.length e1, .slice B2 y.out.length e2, .slice B3 y.clear.length e3, .int .i64 y.role, .int .i64 (-1), .int .i64 y.all, .int .i64 y.need]) := by show Bk _ _ _ _; rw [← hV]; exact R8.out.set 6 _
  have N9 : Hid (Bk V9 (w7.heap.size + 1) 37 #[.int .i64 8, .slice (some ⟨w7.heap.size, 0, none⟩) 1 1]) := by show Bk _ _ _ _; rw [← hV]; exact N8.out.far (p := ⟨w7.heap.size, 6, none⟩) (by show w7.heap.size + 1 ≠ w7.heap.size; omega) _
  have hs9 : V9.heap.size = V8.heap.size := by rw [← hV]; simp [World.setCell]
  have hb9 : Below w7.heap.size w7 V9 := by rw [← hV]; exact hb78.setCell (p := ⟨w7.heap.size, 6, none⟩) (Nat.le_refl _) _
  have B := Lib.hid (B.out.trans (hb9.mono B.out.size))
  have Q1 := Lib.hid (Q1.out.later hb9)
  have Q2 := Lib.hid (Q2.out.later hb9)
  have Q3 := Lib.hid (Q3.out.later hb9)
  have T2 := Lib.hid (T2.out.later hb9)
  have GG := Lib.hid (GG.out.later hb9)
  have DD := Lib.hid (DD.out.later hb9)
  clear hV hs9 hb9 hb78 R8 N8 hb
  obtain ⟨y', hy'⟩ : ∃ y' : GTask, y' = ⟨y.join, y.split, y.inn, y.out, y.clear, y.role, -1, y.all, y.need⟩ := ⟨_, rfl⟩
  have X : Hid (Rows taskC none V9 V9.heap.size (some ⟨w7.heap.size, 0, none⟩) [y']) := row_one (cs := [.int .i64 y.join, .int .i64 sp, .slice B1 y.inn.length e1, .slice B2 y.out.length e2, .slice B3 y.clear.length e3, .int .i64 y.role, .int .i64 (-1), .int .i64 y.all, .int .i64 y.need]) R9.out ⟨B1, e1, B2, e2, B3, e3, by rw [hy', ← HSP.out], by rw [hy']; exact Q1.out, by rw [hy']; exact Q2.out, by rw [hy']; exact Q3.out⟩
  have HY := Lib.hid hy'
  clear hy' R9
  have kN := fun i => N9.out.cell i
  go_wp2_with fail
  clear kN
  refine (spec_NetOk ⟨8, [y']⟩ _ _ _ ⟨_, 1, rfl, X.out⟩).mono ?_
  rintro e w10 ⟨rfl, hb⟩
  have B := Lib.hid (B.out.trans (hb.mono B.out.size))
  have Q2 := Lib.hid (Q2.out.later hb)
  have T2 := Lib.hid (T2.out.later hb)
  have GG := Lib.hid (GG.out.later hb)
  have DD := Lib.hid (DD.out.later hb)
  have N9 := Lib.hid (N9.out.later hb)
  have X := Lib.hid (X.out.later hb)
  clear hb
  cases hnk : netOk ⟨8, [y']⟩ with
  | false =>
    have HNK := Lib.hid hnk
    clear hnk
    have kN := fun i => N9.out.cell i
    go_wp2
    clear kN
    have hbd : Below w10.heap.size w10 w10.drew := (Below.refl _ _).drew
    refine wp_region_held_drew (S := (fun V : World => V.cell? ⟨w7.heap.size + 1, 0, none⟩ = some (.int .i64 8) ∧ V.cell? ⟨w7.heap.size + 1, 1, none⟩ = some (.slice (some ⟨w7.heap.size, 0, none⟩) 1 1))) (by kernel_rfl) ⟨N9.out.cell 0, N9.out.cell 1⟩ (fun hHeld => ?_)
    have B := Lib.hid (B.out.trans (hbd.mono B.out.size))
    have N9 := Lib.hid (N9.out.later hbd)
    have X := Lib.hid (X.out.later hbd)
    generalize w10.drew = wd at B N9 X hHeld ⊢
    clear hbd
    refine wpAnyH_take (i := 0) (v := ?_) rfl (by kernel_rfl) (by kernel_rfl) (by kernel_rfl) (fun _ _ _ h => h) (Or.inl ⟨by rfl, ?_⟩) (by assumption) ?_
    rotate_left
    · intro V hSw
      (try dsimp only at hSw)
      go_simp
      (try with_reducible rfl)
    simp only [List.getElem_toArray, List.getElem_cons_succ, List.getElem_cons_zero, Act.put, List.setIfInBounds_toArray, List.set_cons_zero, List.set_cons_succ]
    refine wpAnyH_take (i := 2) (v := ?_) rfl (by kernel_rfl) (by kernel_rfl) (by kernel_rfl) (fun _ _ _ h => h) (Or.inl ⟨by rfl, ?_⟩) (by assumption) ?_
    rotate_left
    · intro V hSw
      (try dsimp only at hSw)
      go_simp
      (try with_reducible rfl)
    simp only [List.getElem_toArray, List.getElem_cons_succ, List.getElem_cons_zero, Act.put, List.setIfInBounds_toArray, List.set_cons_zero, List.set_cons_succ]
    refine wpAnyH_ready (rs := [1]) (by kernel_rfl) (by simp) ?_
    refine AllReadyH.cons rfl (fun K hK => ?_) AllReadyH.nil
    go_simp
    go_wp2_with (go_at_call 41; refine (impl_NetOk ⟨8, [y']⟩ _ _ _ ⟨_, 1, rfl, X.out⟩).mono ?_; rintro e wa ⟨rfl, hb⟩; rw [HNK.out])
    have B := Lib.hid (B.out.trans (hb.mono B.out.size))
    have N9 := Lib.hid (N9.out.later hb)
    have X := Lib.hid (X.out.later hb)
    clear hb
    refine hK.out _ _ ⟨N9.out.cell 0, N9.out.cell 1⟩ (fun hHeld => ?_)
    clear hK K
    refine wpAnyH_ready (rs := [3]) (by kernel_rfl) (by simp) ?_
    refine AllReadyH.cons rfl (fun K hK => ?_) AllReadyH.nil
    go_simp
    go_wp2_with (go_at_call 27; refine (spec_NetOk ⟨8, [y']⟩ _ _ _ ⟨_, 1, rfl, X.out⟩).mono ?_; rintro e wb ⟨rfl, hb⟩; rw [HNK.out])
    have B := Lib.hid (B.out.trans (hb.mono B.out.size))
    have N9 := Lib.hid (N9.out.later hb)
    have X := Lib.hid (X.out.later hb)
    clear hb
    refine hK.out _ _ ⟨N9.out.cell 0, N9.out.cell 1⟩ (fun hHeld => ?_)
    clear hK K
    refine wpAnyH_take (i := 4) (v := ?_) rfl (by kernel_rfl) (by kernel_rfl) (by kernel_rfl) (fun _ _ _ h => h) (Or.inl ⟨by rfl, ?_⟩) (by assumption) ?_
    rotate_left
    · intro V hSw
      (try dsimp only at hSw)
      go_simp
      (try with_reducible rfl)
    simp only [List.getElem_toArray, List.getElem_cons_succ, List.getElem_cons_zero, Act.put, List.setIfInBounds_toArray, List.set_cons_zero, List.set_cons_succ]
    refine wpAnyH_take (i := 5) (v := ?_) rfl (by kernel_rfl) (by kernel_rfl) (by kernel_rfl) (fun _ _ _ h => h) (Or.inl ⟨by rfl, ?_⟩) (by assumption) ?_
    rotate_left
    · intro V hSw
      (try dsimp only at hSw)
      go_simp
      (try with_reducible rfl)
    simp only [List.getElem_toArray, List.getElem_cons_succ, List.getElem_cons_zero, Act.put, List.setIfInBounds_toArray, List.set_cons_zero, List.set_cons_succ]
    refine wpAnyH_ready (rs := [6]) (by kernel_rfl) (by simp) ?_
    refine AllReadyH.cons rfl (fun K hK => ?_) AllReadyH.nil
    go_wp2_with (go_at_call 22; refine (laws_guOk _).mono ?_; rintro e wc ⟨rfl, hb⟩)
    have B := Lib.hid (B.out.trans (hb.mono B.out.size))
    have N9 := Lib.hid (N9.out.later hb)
    have X := Lib.hid (X.out.later hb)
    clear hb
    refine hK.out _ _ ⟨N9.out.cell 0, N9.out.cell 1⟩ (fun hHeld => ?_)
    clear hK K
    refine wpAnyH_take (i := 7) (v := ?_) rfl (by kernel_rfl) (by kernel_rfl) (by kernel_rfl) (fun _ _ _ h => h) (Or.inl ⟨by rfl, ?_⟩) (by assumption) ?_
    rotate_left
    · intro V hSw
      (try dsimp only at hSw)
      go_simp
      (try with_reducible rfl)
    simp only [List.getElem_toArray, List.getElem_cons_succ, List.getElem_cons_zero, Act.put, List.setIfInBounds_toArray, List.set_cons_zero, List.set_cons_succ]
    refine wpAnyH_take (i := 8) (v := ?_) rfl (by kernel_rfl) (by kernel_rfl) (by kernel_rfl) (fun _ _ _ h => h) (Or.inl ⟨by rfl, ?_⟩) (by assumption) ?_
    rotate_left
    · intro V hSw
      (try dsimp only at hSw)
      go_simp
      (try with_reducible rfl)
    simp only [List.getElem_toArray, List.getElem_cons_succ, List.getElem_cons_zero, Act.put, List.setIfInBounds_toArray, List.set_cons_zero, List.set_cons_succ]
    refine wpAnyH_done (by kernel_rfl) ?_ _
    clear hHeld
    go_wp2
    go_ret
    exact ⟨rfl, B.out⟩
  | true =>
  go_wp2_with fail
  refine (spec_DatOk AD cD ds w10 w10.heap.size DD.out).mono ?_
  rintro e w11 ⟨rfl, rfl⟩
  cases hdk : datOk ds with
  | false =>
    have HNK := Lib.hid hnk
    have HDK := Lib.hid hdk
    clear hnk hdk
    have kN := fun i => N9.out.cell i
    go_wp2
    clear kN
    have hbd : Below w10.heap.size w10 w10.drew := (Below.refl _ _).drew
    refine wp_region_held_drew (S := (fun V : World => V.cell? ⟨w7.heap.size + 1, 0, none⟩ = some (.int .i64 8) ∧ V.cell? ⟨w7.heap.size + 1, 1, none⟩ = some (.slice (some ⟨w7.heap.size, 0, none⟩) 1 1))) (by kernel_rfl) ⟨N9.out.cell 0, N9.out.cell 1⟩ (fun hHeld => ?_)
    have B := Lib.hid (B.out.trans (hbd.mono B.out.size))
    have N9 := Lib.hid (N9.out.later hbd)
    have X := Lib.hid (X.out.later hbd)
    generalize w10.drew = wd at B N9 X hHeld ⊢
    clear hbd
    refine wpAnyH_take (i := 0) (v := ?_) rfl (by kernel_rfl) (by kernel_rfl) (by kernel_rfl) (fun _ _ _ h => h) (Or.inl ⟨by rfl, ?_⟩) (by assumption) ?_
    rotate_left
    · intro V hSw
      (try dsimp only at hSw)
      go_simp
      (try with_reducible rfl)
    simp only [List.getElem_toArray, List.getElem_cons_succ, List.getElem_cons_zero, Act.put, List.setIfInBounds_toArray, List.set_cons_zero, List.set_cons_succ]
    refine wpAnyH_take (i := 2) (v := ?_) rfl (by kernel_rfl) (by kernel_rfl) (by kernel_rfl) (fun _ _ _ h => h) (Or.inl ⟨by rfl, ?_⟩) (by assumption) ?_
    rotate_left
    · intro V hSw
      (try dsimp only at hSw)
      go_simp
      (try with_reducible rfl)
    simp only [List.getElem_toArray, List.getElem_cons_succ, List.getElem_cons_zero, Act.put, List.setIfInBounds_toArray, List.set_cons_zero, List.set_cons_succ]
    refine wpAnyH_ready (rs := [1]) (by kernel_rfl) (by simp) ?_
    refine AllReadyH.cons rfl (fun K hK => ?_) AllReadyH.nil
    go_simp
    go_wp2_with (go_at_call 41; refine (impl_NetOk ⟨8, [y']⟩ _ _ _ ⟨_, 1, rfl, X.out⟩).mono ?_; rintro e wa ⟨rfl, hb⟩; rw [HNK.out])
    have B := Lib.hid (B.out.trans (hb.mono B.out.size))
    have N9 := Lib.hid (N9.out.later hb)
    have X := Lib.hid (X.out.later hb)
    clear hb
    refine hK.out _ _ ⟨N9.out.cell 0, N9.out.cell 1⟩ (fun hHeld => ?_)
    clear hK K
    refine wpAnyH_ready (rs := [3]) (by kernel_rfl) (by simp) ?_
    refine AllReadyH.cons rfl (fun K hK => ?_) AllReadyH.nil
    go_simp
    go_wp2_with (go_at_call 27; refine (spec_NetOk ⟨8, [y']⟩ _ _ _ ⟨_, 1, rfl, X.out⟩).mono ?_; rintro e wb ⟨rfl, hb⟩; rw [HNK.out])
    have B := Lib.hid (B.out.trans (hb.mono B.out.size))
    have N9 := Lib.hid (N9.out.later hb)
    have X := Lib.hid (X.out.later hb)
    clear hb
    refine hK.out _ _ ⟨N9.out.cell 0, N9.out.cell 1⟩ (fun hHeld => ?_)
    clear hK K
    refine wpAnyH_take (i := 4) (v := ?_) rfl (by kernel_rfl) (by kernel_rfl) (by kernel_rfl) (fun _ _ _ h => h) (Or.inl ⟨by rfl, ?_⟩) (by assumption) ?_
    rotate_left
    · intro V hSw
      (try dsimp only at hSw)
      go_simp
      (try with_reducible rfl)
    simp only [List.getElem_toArray, List.getElem_cons_succ, List.getElem_cons_zero, Act.put, List.setIfInBounds_toArray, List.set_cons_zero, List.set_cons_succ]
    refine wpAnyH_take (i := 5) (v := ?_) rfl (by kernel_rfl) (by kernel_rfl) (by kernel_rfl) (fun _ _ _ h => h) (Or.inl ⟨by rfl, ?_⟩) (by assumption) ?_
    rotate_left
    · intro V hSw
      (try dsimp only at hSw)
      go_simp
      (try with_reducible rfl)
    simp only [List.getElem_toArray, List.getElem_cons_succ, List.getElem_cons_zero, Act.put, List.setIfInBounds_toArray, List.set_cons_zero, List.set_cons_succ]
    refine wpAnyH_ready (rs := [6]) (by kernel_rfl) (by simp) ?_
    refine AllReadyH.cons rfl (fun K hK => ?_) AllReadyH.nil
    go_wp2_with (go_at_call 22; refine (laws_guOk _).mono ?_; rintro e wc ⟨rfl, hb⟩)
    have B := Lib.hid (B.out.trans (hb.mono B.out.size))
    have N9 := Lib.hid (N9.out.later hb)
    have X := Lib.hid (X.out.later hb)
    clear hb
    refine hK.out _ _ ⟨N9.out.cell 0, N9.out.cell 1⟩ (fun hHeld => ?_)
    clear hK K
    refine wpAnyH_take (i := 7) (v := ?_) rfl (by kernel_rfl) (by kernel_rfl) (by kernel_rfl) (fun _ _ _ h => h) (Or.inl ⟨by rfl, ?_⟩) (by assumption) ?_
    rotate_left
    · intro V hSw
      (try dsimp only at hSw)
      go_simp
      (try with_reducible rfl)
    simp only [List.getElem_toArray, List.getElem_cons_succ, List.getElem_cons_zero, Act.put, List.setIfInBounds_toArray, List.set_cons_zero, List.set_cons_succ]
    refine wpAnyH_take (i := 8) (v := ?_) rfl (by kernel_rfl) (by kernel_rfl) (by kernel_rfl) (fun _ _ _ h => h) (Or.inl ⟨by rfl, ?_⟩) (by assumption) ?_
    rotate_left
    · intro V hSw
      (try dsimp only at hSw)
      go_simp
      (try with_reducible rfl)
    simp only [List.getElem_toArray, List.getElem_cons_succ, List.getElem_cons_zero, Act.put, List.setIfInBounds_toArray, List.set_cons_zero, List.set_cons_succ]
    refine wpAnyH_done (by kernel_rfl) ?_ _
    clear hHeld
    go_wp2
    go_ret
    exact ⟨rfl, B.out⟩
  | true =>
  have ht : taskOk y' 8 1 = true := by
    have h1 := hnk
    unfold netOk at h1
    simp only [Bool.and_eq_true, List.all_eq_true] at h1
    exact h1.2.2 y' (by simp)
  have hf' := wayFit ht hdk
  rw [HY.out] at hf'
  have hf : WayFit y ds := ⟨hf'.s, hf'.n, hf'.h⟩
  have hsv := hf.s
  rw [HSP.out] at hsv
  have hol := hf.n
  obtain ⟨l1, l2, l3, l4⟩ := ways_law hf
  rw [HSP.out] at l2 l3 l4
  have L1 := Lib.hid l1
  have L2 := Lib.hid l2
  have L3 := Lib.hid l3
  have L4 := Lib.hid l4
  clear ht hf hf' l1 l2 l3 l4 hnk hdk N9 X
  have kT := fun i => T2.out.cell i
  go_wp2_with fail
  clear kT
  have hx0 := impl_SplTo y B1 e1 B2 e2 B3 e3 AD cD ds none w10 Q2.out DD.out (by omega)
  unfold taskV at hx0
  rw [HSP.out] at hx0
  refine hx0.mono ?_
  clear hx0
  rintro e w12 ⟨v, rfl, hv, hb⟩
  obtain ⟨A5, c5, rfl, og⟩ := OwnI.of_v hv
  have hsl := splTo_len y ds y.out.length
  have GT := Lib.hid (og.ints (by omega))
  have B := Lib.hid (B.out.trans (hb.mono B.out.size))
  have T2 := Lib.hid (T2.out.later hb)
  have GG := Lib.hid (GG.out.later hb)
  clear hb og hv DD Q2
  obtain ⟨tt, hto⟩ : ∃ tt, tt = splTo y ds y.out.length := ⟨_, rfl⟩
  rw [← hto] at L1 GT hsl ⊢
  clear hto
  have HN7 := W7.out
  obtain ⟨ws, hws⟩ : ∃ ws, ws = waysOf y := ⟨_, rfl⟩
  rw [← hws] at L1 L2 L3 L4 GG WL HN7 ⊢
  clear hws W7
  go_wp2
  go_loopg [9, 10] ws.length (fun gg s9 s10 wr => ∃ i : Nat, i ≤ ws.length ∧ ws.length - i ≤ gg ∧ s10 = .int .i64 i ∧ s9 = .bool ((ws.take i).any fun r => decide (r = tt)) ∧ Aside (∃ q, wr = w12.drewN q))
  case atStart => exact ⟨0, Nat.zero_le _, by omega, rfl, by simp, 0, rfl⟩
  case round =>
    obtain ⟨i, hi, hg, rfl, rfl, DW⟩ := hrel
    obtain ⟨q, rfl⟩ := DW.out
    have kT := fun i => T2.out.cell i
    by_cases hlt : i < ws.length
    · have hltz : (i : Int) < (ws.length : Int) := by omega
      have hi0 : (0 : Int) ≤ (i : Int) := by omega
      obtain ⟨G, eG, rfl, hG, hc, hr⟩ := GG.out.at_ hlt (WL.out i)
      have hc' : w12.cell? ⟨G, i, none⟩ = some (.slice (some ⟨bG i, 0, none⟩) (ws.getD i []).length eG) := hc
      have HI : Hid (Ints w12 w12.heap.size (some ⟨bG i, 0, none⟩) (ws.getD i [])) := hr
      have hrw : ws.getD i [] = ws[i] := by rw [List.getD_eq_getElem?_getD, List.getElem?_eq_getElem hlt]; rfl
      have hl2 := L2.out _ (List.getElem_mem hlt)
      have HA : ∀ b, (ws.take i).any (fun r => decide (r = tt)) = b → (ws.take (i + 1)).any (fun r => decide (r = tt)) = (b || decide (ws.getD i [] = tt)) := fun b hb => by
        rw [List.take_succ_eq_append_getElem hlt, List.any_append, hb, hrw]; simp
      have HAH := Lib.hid HA
      rw [← hrw] at hl2
      obtain ⟨r, hr0⟩ : ∃ r, r = ws.getD i [] := ⟨_, rfl⟩
      rw [← hr0] at hc' HI hl2 HAH
      have hll := WL.out i
      rw [← hr0] at hll
      generalize bG i = bg at hc' HI
      clear hc hr hrw HA hr0
      have hne0 : ((r.length : Int) == 0) = false := by rw [beq_eq_false_iff_ne]; omega
      have hQ : Calls Try.prog 19 #[.slice (some ⟨bg, 0, none⟩) r.length eG, .slice A5 tt.length c5] (w12.drewN q) (Same r tt (w12.drewN q)) := laws_guInts _ _ _ _ r tt (w12.drewN q) w12.heap.size HI.out GT.out
      have HQ := Lib.hid hQ
      clear hQ
      rcases hsv with hk | hk | hk
      · have hs1 : (sp == 1) = true := by simp [hk]
        have hs2 : (sp == 2) = false := by simp [hk]
        have hs3 : (sp == 3) = false := by simp [hk]
        have hrl : r.length = y.out.length := hl2.2.2 hk
        have hn1 : ((r.length : Int) != (y.out.length : Int)) = false := by rw [hrl]; simp
        clear hk hl2
        try clear hrl
        cases hhas : (ws.take i).any (fun r => decide (r = tt)) with
        | true =>
          have HT := Lib.hid (any_yes hhas)
          clear hhas
          go_wp2
          go_quiet (fail)
          go_wp2
          go_roundg (ws.length - (i + 1))
          case measure => omega
          case rel => exact ⟨i + 1, by omega, by omega, by go_num, by rw [HT.out], _, rfl⟩
        | false =>
          have HT := Lib.hid (HAH.out false hhas)
          clear hhas
          go_wp2_with (go_at_call 19; refine HQ.out.mono ?_; rintro e wz ⟨rfl, qz, rfl⟩; rw [World.drewN_drewN])
          go_quiet (fail)
          go_wp2
          go_roundg (ws.length - (i + 1))
          case measure => omega
          case rel => exact ⟨i + 1, by omega, by omega, by go_num, by rw [HT.out]; simp, _, rfl⟩
      · have hs1 : (sp == 1) = false := by simp [hk]
        have hs2 : (sp == 2) = true := by simp [hk]
        have hs3 : (sp == 3) = false := by simp [hk]
        have hrl : r.length = 1 := hl2.2.1 hk
        have hn1 : ((r.length : Int) != 1) = false := by rw [hrl]; simp
        clear hk hl2
        try clear hrl
        cases hhas : (ws.take i).any (fun r => decide (r = tt)) with
        | true =>
          have HT := Lib.hid (any_yes hhas)
          clear hhas
          go_wp2
          go_quiet (fail)
          go_wp2
          go_roundg (ws.length - (i + 1))
          case measure => omega
          case rel => exact ⟨i + 1, by omega, by omega, by go_num, by rw [HT.out], _, rfl⟩
        | false =>
          have HT := Lib.hid (HAH.out false hhas)
          clear hhas
          go_wp2_with (go_at_call 19; refine HQ.out.mono ?_; rintro e wz ⟨rfl, qz, rfl⟩; rw [World.drewN_drewN])
          go_quiet (fail)
          go_wp2
          go_roundg (ws.length - (i + 1))
          case measure => omega
          case rel => exact ⟨i + 1, by omega, by omega, by go_num, by rw [HT.out]; simp, _, rfl⟩
      · have hs1 : (sp == 1) = false := by simp [hk]
        have hs2 : (sp == 2) = false := by simp [hk]
        have hs3 : (sp == 3) = true := by simp [hk]
        clear hk hl2
        try clear hrl
        cases hhas : (ws.take i).any (fun r => decide (r = tt)) with
        | true =>
          have HT := Lib.hid (any_yes hhas)
          clear hhas
          go_wp2
          go_quiet (fail)
          go_wp2
          go_roundg (ws.length - (i + 1))
          case measure => omega
          case rel => exact ⟨i + 1, by omega, by omega, by go_num, by rw [HT.out], _, rfl⟩
        | false =>
          have HT := Lib.hid (HAH.out false hhas)
          clear hhas
          go_wp2_with (go_at_call 19; refine HQ.out.mono ?_; rintro e wz ⟨rfl, qz, rfl⟩; rw [World.drewN_drewN])
          go_quiet (fail)
          go_wp2
          go_roundg (ws.length - (i + 1))
          case measure => omega
          case rel => exact ⟨i + 1, by omega, by omega, by go_num, by rw [HT.out]; simp, _, rfl⟩
    · have hltz : ¬ (i : Int) < (ws.length : Int) := by omega
      have he : i = ws.length := by omega
      subst he
      have hhas : (ws.take ws.length).any (fun r => decide (r = tt)) = true := by
        rw [List.take_length, List.any_eq_true]
        exact ⟨tt, L1.out, by simp⟩
      rw [hhas]
      have hB := bdN B.out q
      have HB := Lib.hid hB
      clear hhas hB
      rcases hsv with hk | hk | hk
      · have hs1 : (sp != 1) = false := by simp [hk]
        have hs2 : (sp != 2) = true := by simp [hk]
        have hw1 : ((ws.length : Int) == 1) = true := by rw [L4.out hk]; rfl
        clear hk
        go_wp2
        go_ret
        exact ⟨rfl, HB.out⟩
      · have hs1 : (sp != 1) = true := by simp [hk]
        have hs2 : (sp != 2) = false := by simp [hk]
        have hw1 : ((ws.length : Int) == (y.out.length : Int)) = true := by rw [L3.out hk]; simp
        clear hk
        go_wp2
        go_ret
        exact ⟨rfl, HB.out⟩
      · have hs1 : (sp != 1) = true := by simp [hk]
        have hs2 : (sp != 2) = true := by simp [hk]
        clear hk
        go_wp2
        go_ret
        exact ⟨rfl, HB.out⟩
end Go.Proofs.Ytkkjljpokannkaa
