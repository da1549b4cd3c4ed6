/- The walk of FnEngNew: it returns true. -/
import Derived.Test.YtkkjljpokannkaaEngOk
import Derived.Test.YtkkjljpokannkaaGuHouse
import Derived.Test.YtkkjljpokannkaaDrawEng
import Derived.Test.YtkkjljpokannkaaDat
import Derived.Deep.RegionHeld3
namespace Go.Proofs.Ytkkjljpokannkaa
open Go.RowKit
set_option linter.unusedSimpArgs false
set_option linter.unusedVariables false

theorem engOk_nil (hp : List Int) : engOk [] hp = false := rfl
theorem eng_pos {ns : List GNet} {ps : List Int} (h : 0 < (engNets ns ps).length) : engOk ns ps = true := by
  cases hq : engOk ns ps with
  | true => rfl
  | false => rw [(eng_no hq).1] at h; simp at h

set_option maxRecDepth 100000 in
set_option maxHeartbeats 8000000 in
theorem walk_FnEngNew (A : Option Addr) (c : Nat) (xs : List Int) (w : World) (h : Code w w.heap.size A c xs) :
    Calls Try.prog 14 #[.slice A xs.length c] w fun e w' => e = .returned (.bool true) ∧ Below w.heap.size w w' := by
  have hlen := h.1.1
  have HC := Lib.hid h
  clear h
  by_cases hl : 1048576 < xs.length
  · have hlz : (1048576 : Int) < (xs.length : Int) := by omega
    go_enter Try.func14, Try.ntmps14
    go_wp2
    go_ret
    exact ⟨rfl, Below.refl _ _⟩
  have hlz : ¬ (1048576 : Int) < (xs.length : Int) := by omega
  go_enter Try.func14, Try.ntmps14
  go_wp2_with fail
  refine (spec_DrawEngNew A c xs w HC.out).mono ?_
  rintro e w1 ⟨AN, cN, ns, AP, cP, ps, rfl, hrow, hn4, _, hint, hp5, hb⟩
  have X := Lib.hid hrow
  have Y := Lib.hid hint
  have B := Lib.hid hb
  clear hrow hint hb
  go_wp2_with fail
  refine (impl_EngNew AN cN ns AP cP ps none w1 X.out Y.out).mono ?_
  rintro e w2 ⟨A5, c5, A6, c6, rfl, hr5, hr6, hb⟩
  obtain ⟨hn, hhn⟩ : ∃ hn, hn = engNets ns ps := ⟨_, rfl⟩
  obtain ⟨hp, hhp⟩ : ∃ hp, hp = engPpl ns ps := ⟨_, rfl⟩
  have HN := Lib.hid hhn
  have HPP := Lib.hid hhp
  rw [← hhn] at hr5 ⊢
  rw [← hhp] at hr6 ⊢
  clear hhn hhp
  have R5 := Lib.hid hr5
  have R6 := Lib.hid hr6.ints
  have X := Lib.hid (X.out.later hb)
  have Y := Lib.hid (Y.out.later hb)
  have B := Lib.hid (B.out.trans (hb.mono B.out.size))
  clear hr5 hr6 hb
  go_upto_region 5 with fail
  generalize hV : World.alloc w2 _ = w3
  have H5 : Hid (Bk w3 w2.heap.size 102 #[.slice A5 hn.length c5, .slice A6 hp.length c6, .slice none 0 0, .slice none 0 0]) := by show Bk _ _ _ _; rw [← hV]; exact Bk.new rfl
  have hb : Below w2.heap.size w2 w3 := by rw [← hV]; exact (Below.refl _ _).alloc (Nat.le_refl _) _
  have R5 := Lib.hid (R5.out.later hb)
  have R6 := Lib.hid (R6.out.later hb)
  have X := Lib.hid (X.out.later hb)
  have Y := Lib.hid (Y.out.later hb)
  have B := Lib.hid (B.out.trans (hb.mono B.out.size))
  clear hV hb
  have hbd : Below w3.heap.size w3 w3.drew := (Below.refl _ _).drew
  refine wp_region_held_drew (S := (fun V : World => V.cell? ⟨w2.heap.size, 0, none⟩ = some (.slice A5 hn.length c5) ∧ V.cell? ⟨w2.heap.size, 1, none⟩ = some (.slice A6 hp.length c6) ∧ V.cell? ⟨w2.heap.size, 2, none⟩ = some (.slice none 0 0) ∧ V.cell? ⟨w2.heap.size, 3, none⟩ = some (.slice none 0 0))) (by kernel_rfl) ⟨H5.out.cell 0, H5.out.cell 1, H5.out.cell 2, H5.out.cell 3⟩ (fun hHeld => ?_)
  have hb := hbd
  have H5 := Lib.hid (H5.out.later hb)
  have R5 := Lib.hid (R5.out.later hb)
  have R6 := Lib.hid (R6.out.later hb)
  have X := Lib.hid (X.out.later hb)
  have Y := Lib.hid (Y.out.later hb)
  have B := Lib.hid (B.out.trans (hb.mono B.out.size))
  generalize w3.drew = w4 at H5 R5 R6 X Y B hHeld ⊢
  clear hb hbd
  refine wpAnyH_take (i := 0) (v := ?_) rfl (by kernel_rfl) (by kernel_rfl) (by kernel_rfl) (fun _ _ _ h => h) (Or.inl ⟨by rfl, ?_⟩) (by assumption) ?_
  rotate_left
  · intro V hSw
    (try dsimp only at hSw)
    go_simp
    (try with_reducible rfl)
  simp only [List.getElem_toArray, List.getElem_cons_succ, List.getElem_cons_zero, Act.put, List.setIfInBounds_toArray, List.set_cons_zero, List.set_cons_succ]
  refine wpAnyH_take (i := 1) (v := ?_) rfl (by kernel_rfl) (by kernel_rfl) (by kernel_rfl) (fun _ _ _ h => h) (Or.inl ⟨by rfl, ?_⟩) (by assumption) ?_
  rotate_left
  · intro V hSw
    (try dsimp only at hSw)
    go_simp
    (try with_reducible rfl)
  simp only [List.getElem_toArray, List.getElem_cons_succ, List.getElem_cons_zero, Act.put, List.setIfInBounds_toArray, List.set_cons_zero, List.set_cons_succ]
  refine wpAnyH_take (i := 2) (v := ?_) rfl (by kernel_rfl) (by kernel_rfl) (by kernel_rfl) (fun _ _ _ h => h) (Or.inl ⟨by rfl, ?_⟩) (by assumption) ?_
  rotate_left
  · intro V hSw
    (try dsimp only at hSw)
    go_simp
    (try with_reducible rfl)
  simp only [List.getElem_toArray, List.getElem_cons_succ, List.getElem_cons_zero, Act.put, List.setIfInBounds_toArray, List.set_cons_zero, List.set_cons_succ]
  refine wpAnyH_ready (rs := [3]) (by kernel_rfl) (by simp) ?_
  refine AllReadyH.cons rfl (fun K hK => ?_) AllReadyH.nil
  go_simp
  go_wp2_with (go_at_call 80; refine (spec_EngNew AN cN ns AP cP ps none w4 X.out Y.out).mono ?_; rintro e w5 ⟨A7, c7, A8, c8, rfl, hr7, hr8, hb⟩; rw [← HN.out] at hr7 ⊢; rw [← HPP.out] at hr8 ⊢)
  have H5 := Lib.hid (H5.out.later hb)
  have R5 := Lib.hid (R5.out.later hb)
  have R6 := Lib.hid (R6.out.later hb)
  have X := Lib.hid (X.out.later hb)
  have Y := Lib.hid (Y.out.later hb)
  have B := Lib.hid (B.out.trans (hb.mono B.out.size))
  have R7 := Lib.hid hr7
  have R8 := Lib.hid hr8.ints
  clear hr7 hr8 hb
  refine hK.out _ _ ⟨H5.out.cell 0, H5.out.cell 1, H5.out.cell 2, H5.out.cell 3⟩ (fun hHeld => ?_)
  clear hK K
  refine wpAnyH_ready (rs := [4]) (by kernel_rfl) (by simp) ?_
  refine AllReadyH.cons rfl (fun K hK => ?_) AllReadyH.nil
  go_simp
  go_wp2_with (go_at_call 79; refine (laws_guHouse A5 A7 c5 c7 hn A6 A8 c6 c8 hp _ _ w5 R5.out R7.out R6.out R8.out).mono ?_; rintro e w6 ⟨rfl, hb⟩)
  have H5 := Lib.hid (H5.out.later hb)
  have R5 := Lib.hid (R5.out.later hb)
  have R6 := Lib.hid (R6.out.later hb)
  have X := Lib.hid (X.out.later hb)
  have Y := Lib.hid (Y.out.later hb)
  have B := Lib.hid (B.out.trans (hb.mono B.out.size))
  clear hb R7 R8
  refine hK.out _ _ ⟨H5.out.cell 0, H5.out.cell 1, H5.out.cell 2, H5.out.cell 3⟩ (fun hHeld => ?_)
  clear hK K
  refine wpAnyH_take (i := 5) (v := ?_) rfl (by kernel_rfl) (by kernel_rfl) (by kernel_rfl) (fun _ _ _ h => h) (Or.inl ⟨by rfl, ?_⟩) (by assumption) ?_
  rotate_left
  · intro V hSw
    (try dsimp only at hSw)
    go_simp
    (try with_reducible rfl)
  simp only [List.getElem_toArray, List.getElem_cons_succ, List.getElem_cons_zero, Act.put, List.setIfInBounds_toArray, List.set_cons_zero, List.set_cons_succ]
  refine wpAnyH_done (by kernel_rfl) ?_ _
  clear hHeld
  by_cases h0 : hn.length = 0
  · have hz : ((hn.length : Int) == 0) = true := by rw [h0]; rfl
    have hnil : hn = [] := List.eq_nil_of_length_eq_zero h0
    have HOK : Hid (engOk hn hp = false) := by show _ = _; rw [hnil]; exact engOk_nil hp
    clear h0 hnil
    have k5 := fun i => H5.out.cell i
    go_wp2_with fail
    clear k5
    refine (impl_EngOk A5 c5 hn A6 c6 hp _ w6 R5.out R6.out).mono ?_
    rintro e w7 ⟨rfl, hb⟩
    rw [HOK.out]
    have B := Lib.hid (B.out.trans (hb.mono B.out.size))
    clear hb
    go_wp2_with (go_at_call 22; refine (laws_guOk _).mono ?_; rintro e w10 ⟨rfl, hb⟩; have B := Lib.hid (B.out.trans (hb.mono B.out.size)); clear hb)
    go_ret
    exact ⟨rfl, B.out⟩
  have hz : ((hn.length : Int) == 0) = false := by rw [beq_eq_false_iff_ne]; omega
  have hok : engOk ns ps = true := eng_pos (by rw [← HN.out]; omega)
  have hnn : hn = ns := by rw [HN.out]; exact (eng_yes hok).1
  have hpp : hp = ps := by rw [HPP.out]; exact (eng_yes hok).2
  subst hnn
  subst hpp
  have HOK := Lib.hid hok
  clear hok h0 HN HPP
  have k5 := fun i => H5.out.cell i
  go_wp2
  clear k5
  go_loopg [6] hn.length (fun gg s6 wr => ∃ k : Nat, k ≤ hn.length ∧ hn.length - k ≤ gg ∧ s6 = .int .i64 k ∧ Aside (Below w6.heap.size w6 wr))
  case atStart => exact ⟨0, Nat.zero_le _, by omega, rfl, Below.refl _ _⟩
  case round =>
    obtain ⟨k, hk, hg, rfl, BW⟩ := hrel
    by_cases hlt : k < hn.length
    · have hltz : (k : Int) < (hn.length : Int) := by omega
      have hk0 : (0 : Int) ≤ (k : Int) := by omega
      obtain ⟨b, off, C1, i1, rfl, hb1, hr, t0, t1⟩ := net_at (R5.out.later BW.out) hlt
      obtain ⟨b', off', D1, j1, rfl, hb2, hr', u0, u1⟩ := net_at (X.out.later BW.out) hlt
      have HR := Lib.hid hr
      have HR' := Lib.hid hr'
      have H5' := Lib.hid (H5.out.later BW.out)
      clear hr hr'
      generalize hn[k] = y at HR HR' t0 t1 u0 u1
      go_wp2
      have hbd : Below wr.heap.size wr wr.drew := (Below.refl _ _).drew
      refine wp_region_held_drew (S := (fun V : World => V.cell? ⟨w2.heap.size, 0, none⟩ = some (.slice (some ⟨b, off, none⟩) hn.length c5) ∧ V.cell? ⟨b, off + k * 2, none⟩ = some (.int .i64 y.places) ∧ V.cell? ⟨b, off + k * 2 + 1, none⟩ = some (.slice C1 y.tasks.length i1) ∧ V.cell? ⟨b', off' + k * 2, none⟩ = some (.int .i64 y.places) ∧ V.cell? ⟨b', off' + k * 2 + 1, none⟩ = some (.slice D1 y.tasks.length j1))) (by kernel_rfl) ⟨H5'.out.cell 0, t0, t1, u0, u1⟩ (fun hHeld => ?_)
      have BV := Lib.hid (BW.out.trans (hbd.mono BW.out.size))
      have HR := Lib.hid (HR.out.later hbd)
      have HR' := Lib.hid (HR'.out.later hbd)
      have H5' := Lib.hid (H5'.out.later hbd)
      have Lb : b < wr.drew.heap.size := hb1
      have Lb' : b' < wr.drew.heap.size := hb2
      have TC : Hid (wr.drew.cell? ⟨w2.heap.size, 0, none⟩ = some (.slice (some ⟨b, off, none⟩) hn.length c5) ∧ wr.drew.cell? ⟨b, off + k * 2, none⟩ = some (.int .i64 y.places) ∧ wr.drew.cell? ⟨b, off + k * 2 + 1, none⟩ = some (.slice C1 y.tasks.length i1) ∧ wr.drew.cell? ⟨b', off' + k * 2, none⟩ = some (.int .i64 y.places) ∧ wr.drew.cell? ⟨b', off' + k * 2 + 1, none⟩ = some (.slice D1 y.tasks.length j1)) := hHeld
      generalize wr.drew = wd at BV HR HR' H5' Lb Lb' TC hHeld ⊢
      clear hbd t0 t1 u0 u1 hb1 hb2
      refine wpAnyH_take (i := 0) (v := ?_) rfl (by kernel_rfl) (by kernel_rfl) (by kernel_rfl) (fun _ _ _ h => h) (Or.inl ⟨by rfl, ?_⟩) (by assumption) ?_
      rotate_left
      · intro V hSw
        (try dsimp only at hSw)
        go_simp
        (try with_reducible rfl)
      simp only [List.getElem_toArray, List.getElem_cons_succ, List.getElem_cons_zero, Act.put, List.setIfInBounds_toArray, List.set_cons_zero, List.set_cons_succ]
      refine wpAnyH_take (i := 1) (v := ?_) rfl (by kernel_rfl) (by kernel_rfl) (by kernel_rfl) (fun _ _ _ h => h) (Or.inl ⟨by rfl, ?_⟩) (by assumption) ?_
      rotate_left
      · intro V hSw
        (try dsimp only at hSw)
        go_simp
        (try with_reducible rfl)
      simp only [List.getElem_toArray, List.getElem_cons_succ, List.getElem_cons_zero, Act.put, List.setIfInBounds_toArray, List.set_cons_zero, List.set_cons_succ]
      refine wpAnyH_take (i := 2) (v := ?_) rfl (by kernel_rfl) (by kernel_rfl) (by kernel_rfl) (fun _ _ _ h => h) (Or.inl ⟨by rfl, ?_⟩) (by assumption) ?_
      rotate_left
      · intro V hSw
        (try dsimp only at hSw)
        go_simp
        (try with_reducible rfl)
      simp only [List.getElem_toArray, List.getElem_cons_succ, List.getElem_cons_zero, Act.put, List.setIfInBounds_toArray, List.set_cons_zero, List.set_cons_succ]
      refine wpAnyH_take (i := 5) (v := ?_) rfl (by kernel_rfl) (by kernel_rfl) (by kernel_rfl) (fun _ _ _ h => h) (Or.inl ⟨by rfl, ?_⟩) (by assumption) ?_
      rotate_left
      · intro V hSw
        (try dsimp only at hSw)
        go_simp
        (try with_reducible rfl)
      simp only [List.getElem_toArray, List.getElem_cons_succ, List.getElem_cons_zero, Act.put, List.setIfInBounds_toArray, List.set_cons_zero, List.set_cons_succ]
      refine wpAnyH_take (i := 6) (v := ?_) rfl (by kernel_rfl) (by kernel_rfl) (by kernel_rfl) (fun _ _ _ h => h) (Or.inl ⟨by rfl, ?_⟩) (by assumption) ?_
      rotate_left
      · intro V hSw
        (try dsimp only at hSw)
        go_simp
        (try with_reducible rfl)
      simp only [List.getElem_toArray, List.getElem_cons_succ, List.getElem_cons_zero, Act.put, List.setIfInBounds_toArray, List.set_cons_zero, List.set_cons_succ]
      refine wpAnyH_take (i := 3) (v := ?_) rfl (by kernel_rfl) (by kernel_rfl) (by kernel_rfl) (fun _ _ _ h => h) (Or.inl ⟨by rfl, ?_⟩) (by assumption) ?_
      rotate_left
      · intro V hSw
        (try dsimp only at hSw)
        go_simp
        (try with_reducible rfl)
      simp only [List.getElem_toArray, List.getElem_cons_succ, List.getElem_cons_zero, Act.put, List.setIfInBounds_toArray, List.set_cons_zero, List.set_cons_succ]
      refine wpAnyH_take (i := 4) (v := ?_) rfl (by kernel_rfl) (by kernel_rfl) (by kernel_rfl) (fun _ _ _ h => h) (Or.inl ⟨by rfl, ?_⟩) (by assumption) ?_
      rotate_left
      · intro V hSw
        (try dsimp only at hSw)
        go_simp
        (try with_reducible rfl)
      simp only [List.getElem_toArray, List.getElem_cons_succ, List.getElem_cons_zero, Act.put, List.setIfInBounds_toArray, List.set_cons_zero, List.set_cons_succ]
      refine wpAnyH_take (i := 7) (v := ?_) rfl (by kernel_rfl) (by kernel_rfl) (by kernel_rfl) (fun _ _ _ h => h) (Or.inl ⟨by rfl, ?_⟩) (by assumption) ?_
      rotate_left
      · intro V hSw
        (try dsimp only at hSw)
        go_simp
        (try with_reducible rfl)
      simp only [List.getElem_toArray, List.getElem_cons_succ, List.getElem_cons_zero, Act.put, List.setIfInBounds_toArray, List.set_cons_zero, List.set_cons_succ]
      refine wpAnyH_take (i := 8) (v := ?_) rfl (by kernel_rfl) (by kernel_rfl) (by kernel_rfl) (fun _ _ _ h => h) (Or.inl ⟨by rfl, ?_⟩) (by assumption) ?_
      rotate_left
      · intro V hSw
        (try dsimp only at hSw)
        go_simp
        (try with_reducible rfl)
      simp only [List.getElem_toArray, List.getElem_cons_succ, List.getElem_cons_zero, Act.put, List.setIfInBounds_toArray, List.set_cons_zero, List.set_cons_succ]
      refine wpAnyH_ready (rs := [9]) (by kernel_rfl) (by simp) ?_
      refine AllReadyH.cons rfl (fun K hK => ?_) AllReadyH.nil
      go_simp
      go_wp2_with (go_at_call 82; refine (laws_guNet y C1 D1 i1 j1 _ _ wd HR.out HR'.out).mono ?_; rintro e w9 ⟨rfl, hb0⟩)
      have BV := Lib.hid (BV.out.trans (hb0.mono BV.out.size))
      refine hK.out _ _ ⟨(H5'.out.later hb0).cell 0, (hb0.cell (p := ⟨b, off + k * 2, none⟩) Lb).trans TC.out.2.1, (hb0.cell (p := ⟨b, off + k * 2 + 1, none⟩) Lb).trans TC.out.2.2.1, (hb0.cell (p := ⟨b', off' + k * 2, none⟩) Lb').trans TC.out.2.2.2.1, (hb0.cell (p := ⟨b', off' + k * 2 + 1, none⟩) Lb').trans TC.out.2.2.2.2⟩ (fun hHeld => ?_)
      clear hK K hb0 TC
      refine wpAnyH_take (i := 10) (v := ?_) rfl (by kernel_rfl) (by kernel_rfl) (by kernel_rfl) (fun _ _ _ h => h) (Or.inl ⟨by rfl, ?_⟩) (by assumption) ?_
      rotate_left
      · intro V hSw
        (try dsimp only at hSw)
        go_simp
        (try with_reducible rfl)
      simp only [List.getElem_toArray, List.getElem_cons_succ, List.getElem_cons_zero, Act.put, List.setIfInBounds_toArray, List.set_cons_zero, List.set_cons_succ]
      refine wpAnyH_done (by kernel_rfl) ?_ _
      clear hHeld
      go_wp2
      go_roundg (hn.length - (k + 1))
      case measure => omega
      case rel => exact ⟨k + 1, by omega, by omega, by go_num, BV.out⟩
    · have hltz : ¬ (k : Int) < (hn.length : Int) := by omega
      have H6 := Lib.hid (H5.out.later BW.out)
      have k5 := fun i => H6.out.cell i
      go_wp2_with fail
      clear k5
      refine (impl_EngOk A5 c5 hn A6 c6 hp _ wr (R5.out.later BW.out) (R6.out.later BW.out)).mono ?_
      rintro e w7 ⟨rfl, hb⟩
      rw [HOK.out]
      have H7 := Lib.hid (H6.out.later hb)
      have R7 := Lib.hid ((R6.out.later BW.out).later hb)
      have Y7 := Lib.hid ((Y.out.later BW.out).later hb)
      have B := Lib.hid ((B.out.trans (BW.out.mono B.out.size)).trans (hb.mono (B.out.trans (BW.out.mono B.out.size)).size))
      clear hb
      have k7 := fun i => H7.out.cell i
      go_wp2_with fail
      clear k7
      refine (laws_guInts A6 AP c6 cP hp hp w7 w7.heap.size R7.out Y7.out).mono ?_
      rintro e _ ⟨rfl, q1, rfl⟩
      have hd : decide (hp = hp) = true := by simp
      rw [hd]
      clear hd
      have hb : Below w7.heap.size w7 (w7.drewN q1) := bdN (Below.refl _ _) _
      have H8 := Lib.hid (H7.out.later hb)
      have B := Lib.hid (B.out.trans (hb.mono B.out.size))
      generalize w7.drewN q1 = w8 at H8 B ⊢
      clear hb
      have k8 := fun i => H8.out.cell i
      go_wp2
      go_ret
      exact ⟨rfl, B.out⟩
end Go.Proofs.Ytkkjljpokannkaa
