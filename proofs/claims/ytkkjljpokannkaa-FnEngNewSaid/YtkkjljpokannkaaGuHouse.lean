/- guHouse: houses of the same nets and people are found the same. -/
import Derived.Test.YtkkjljpokannkaaEngS
import Derived.Test.YtkkjljpokannkaaGuNet
import Derived.Deep.RegionHeld3
namespace Go.Proofs.Ytkkjljpokannkaa
open Go.RowKit
set_option linter.unusedSimpArgs false
set_option linter.unusedVariables false

set_option maxHeartbeats 1000000 in
theorem laws_guTree0 (w : World) : Calls Try.prog 156 #[.slice none 0 0, .slice none 0 0] w fun e w' => e = .returned (.bool true) ∧ Below w.heap.size w w' := by
  go_enter Try.func156, Try.ntmps156
  go_wp2
  go_loopg [5] 0 (fun gg s5 wr => s5 = .int .i64 0 ∧ Aside (w = wr))
  case atStart => exact ⟨rfl, rfl⟩
  case round =>
    obtain ⟨rfl, EW⟩ := hrel
    obtain rfl := EW.out
    go_wp2
    go_ret
    exact ⟨rfl, Below.refl _ _⟩

set_option maxRecDepth 100000 in
set_option maxHeartbeats 4000000 in
theorem laws_guHouse (A A' : Option Addr) (c c' : Nat) (ns : List GNet) (AP AP' : Option Addr) (cP cP' : Nat) (ps : List Int) (m m' : Option Nat) (w : World) (h : Rows netC m w w.heap.size A ns) (h' : Rows netC m' w w.heap.size A' ns) (hp : Ints w w.heap.size AP ps) (hp' : Ints w w.heap.size AP' ps) :
    Calls Try.prog 79 #[.agg #[.slice A ns.length c, .slice AP ps.length cP, .slice none 0 0, .slice none 0 0], .agg #[.slice A' ns.length c', .slice AP' ps.length cP', .slice none 0 0, .slice none 0 0]] w fun e w' => e = .returned (.bool true) ∧ Below w.heap.size w w' := by
  have nn := h.1
  have H := Lib.hid h
  have H' := Lib.hid h'
  have HP := Lib.hid hp
  have HP' := Lib.hid hp'
  clear h h' hp hp'
  have e0 : ((ns.length : Int) != (ns.length : Int)) = false := by simp
  go_enter Try.func79, Try.ntmps79
  go_wp2_with fail
  refine callsAt fun W hW => ?_
  have B : Hid (Below w.heap.size w W) := by show Below _ _ _; rw [hW]; go_grown
  have P : Hid (Bk W w.heap.size 102 #[.slice A ns.length c, .slice AP ps.length cP, .slice none 0 0, .slice none 0 0]) := by show Bk _ _ _ _; rw [hW]; exact (Bk.new rfl).alloc _
  have P' : Hid (Bk W (w.heap.size + 1) 102 #[.slice A' ns.length c', .slice AP' ps.length cP', .slice none 0 0, .slice none 0 0]) := by show Bk _ _ _ _; rw [hW]; exact Bk.new (by simp)
  clear hW
  refine (laws_guInts AP AP' cP cP' ps ps W W.heap.size (HP.out.later B.out) (HP'.out.later B.out)).mono ?_
  rintro e _ ⟨rfl, q1, rfl⟩
  have hd : decide (ps = ps) = true := by simp
  rw [hd]
  clear hd
  have hb : Below W.heap.size W (W.drewN q1) := bdN (Below.refl _ _) _
  have P := Lib.hid (P.out.later hb)
  have P' := Lib.hid (P'.out.later hb)
  have B := Lib.hid (B.out.trans (hb.mono B.out.size))
  generalize W.drewN q1 = w1 at P P' B ⊢
  clear hb
  have kP := fun i => P.out.cell i
  have kP' := fun i => P'.out.cell i
  go_wp2_with fail
  clear kP kP'
  refine (laws_guTree0 w1).mono ?_
  rintro e w2 ⟨rfl, hb⟩
  have P := Lib.hid (P.out.later hb)
  have P' := Lib.hid (P'.out.later hb)
  have B := Lib.hid (B.out.trans (hb.mono B.out.size))
  clear hb
  have kP := fun i => P.out.cell i
  have kP' := fun i => P'.out.cell i
  go_wp2
  clear kP kP'
  go_loopg [5] ns.length (fun gg s5 wr => ∃ k : Nat, k ≤ ns.length ∧ ns.length - k ≤ gg ∧ s5 = .int .i64 k ∧ Aside (Below w2.heap.size w2 wr))
  case atStart => exact ⟨0, Nat.zero_le _, by omega, rfl, Below.refl _ _⟩
  case round =>
    obtain ⟨k, hk, hg, rfl, BW⟩ := hrel
    have kP := fun i => (P.out.later BW.out).cell i
    have kP' := fun i => (P'.out.later BW.out).cell i
    by_cases hlt : k < ns.length
    · have hltz : (k : Int) < (ns.length : Int) := by omega
      have hk0 : (0 : Int) ≤ (k : Int) := by omega
      have BB := Lib.hid (B.out.trans (BW.out.mono B.out.size))
      obtain ⟨b, off, C1, i1, rfl, hb, hr, t0, t1⟩ := net_at (H.out.later BB.out) hlt
      obtain ⟨b', off', D1, j1, rfl, hb', hr', u0, u1⟩ := net_at (H'.out.later BB.out) hlt
      have HR := Lib.hid hr
      have HR' := Lib.hid hr'
      clear hr hr'
      generalize ns[k] = y at HR HR' t0 t1 u0 u1
      go_wp2
      have hbd : Below wr.heap.size wr wr.drew := (Below.refl _ _).drew
      refine wp_region_held_drew (S := (fun V : World => V.cell? ⟨w.heap.size, 0, none⟩ = some (.slice (some ⟨b, off, none⟩) ns.length c) ∧ V.cell? ⟨w.heap.size + 1, 0, none⟩ = some (.slice (some ⟨b', off', none⟩) ns.length c') ∧ V.cell? ⟨b, off + k * 2, none⟩ = some (.int .i64 y.places) ∧ V.cell? ⟨b, off + k * 2 + 1, none⟩ = some (.slice C1 y.tasks.length i1) ∧ V.cell? ⟨b', off' + k * 2, none⟩ = some (.int .i64 y.places) ∧ V.cell? ⟨b', off' + k * 2 + 1, none⟩ = some (.slice D1 y.tasks.length j1))) (by kernel_rfl) ⟨(P.out.later BW.out).cell 0, (P'.out.later BW.out).cell 0, t0, t1, u0, u1⟩ (fun hHeld => ?_)
      have BV := Lib.hid (BW.out.trans (hbd.mono BW.out.size))
      have HR : Hid (Rows taskC m wr.drew wr.drew.heap.size C1 y.tasks) := HR.out
      have HR' : Hid (Rows taskC m' wr.drew wr.drew.heap.size D1 y.tasks) := HR'.out
      have Lb : b < wr.drew.heap.size := hb
      have Lb' : b' < wr.drew.heap.size := hb'
      have TC : Hid (wr.drew.cell? ⟨w.heap.size, 0, none⟩ = some (.slice (some ⟨b, off, none⟩) ns.length c) ∧ wr.drew.cell? ⟨w.heap.size + 1, 0, none⟩ = some (.slice (some ⟨b', off', none⟩) ns.length c') ∧ wr.drew.cell? ⟨b, off + k * 2, none⟩ = some (.int .i64 y.places) ∧ wr.drew.cell? ⟨b, off + k * 2 + 1, none⟩ = some (.slice C1 y.tasks.length i1) ∧ wr.drew.cell? ⟨b', off' + k * 2, none⟩ = some (.int .i64 y.places) ∧ wr.drew.cell? ⟨b', off' + k * 2 + 1, none⟩ = some (.slice D1 y.tasks.length j1)) := hHeld
      generalize wr.drew = wd at BV HR HR' Lb Lb' TC hHeld ⊢
      clear hbd t0 t1 u0 u1 kP kP' hb hb'
      refine wpAnyH_take (i := 0) (v := ?_) rfl (by kernel_rfl) (by kernel_rfl) (by kernel_rfl) (fun _ _ _ h => h) (Or.inl ⟨by rfl, ?_⟩) (by assumption) ?_
      rotate_left
      · intro V hSw
        (try dsimp only at hSw)
        go_simp
        (try with_reducible rfl)
      simp only [List.getElem_toArray, List.getElem_cons_succ, List.getElem_cons_zero, Act.put, List.setIfInBounds_toArray, List.set_cons_zero, List.set_cons_succ]
      refine wpAnyH_take (i := 1) (v := ?_) rfl (by kernel_rfl) (by kernel_rfl) (by kernel_rfl) (fun _ _ _ h => h) (Or.inl ⟨by rfl, ?_⟩) (by assumption) ?_
      rotate_left
      · intro V hSw
        (try dsimp only at hSw)
        go_simp
        (try with_reducible rfl)
      simp only [List.getElem_toArray, List.getElem_cons_succ, List.getElem_cons_zero, Act.put, List.setIfInBounds_toArray, List.set_cons_zero, List.set_cons_succ]
      refine wpAnyH_take (i := 2) (v := ?_) rfl (by kernel_rfl) (by kernel_rfl) (by kernel_rfl) (fun _ _ _ h => h) (Or.inl ⟨by rfl, ?_⟩) (by assumption) ?_
      rotate_left
      · intro V hSw
        (try dsimp only at hSw)
        go_simp
        (try with_reducible rfl)
      simp only [List.getElem_toArray, List.getElem_cons_succ, List.getElem_cons_zero, Act.put, List.setIfInBounds_toArray, List.set_cons_zero, List.set_cons_succ]
      refine wpAnyH_take (i := 5) (v := ?_) rfl (by kernel_rfl) (by kernel_rfl) (by kernel_rfl) (fun _ _ _ h => h) (Or.inl ⟨by rfl, ?_⟩) (by assumption) ?_
      rotate_left
      · intro V hSw
        (try dsimp only at hSw)
        go_simp
        (try with_reducible rfl)
      simp only [List.getElem_toArray, List.getElem_cons_succ, List.getElem_cons_zero, Act.put, List.setIfInBounds_toArray, List.set_cons_zero, List.set_cons_succ]
      refine wpAnyH_take (i := 6) (v := ?_) rfl (by kernel_rfl) (by kernel_rfl) (by kernel_rfl) (fun _ _ _ h => h) (Or.inl ⟨by rfl, ?_⟩) (by assumption) ?_
      rotate_left
      · intro V hSw
        (try dsimp only at hSw)
        go_simp
        (try with_reducible rfl)
      simp only [List.getElem_toArray, List.getElem_cons_succ, List.getElem_cons_zero, Act.put, List.setIfInBounds_toArray, List.set_cons_zero, List.set_cons_succ]
      refine wpAnyH_take (i := 7) (v := ?_) rfl (by kernel_rfl) (by kernel_rfl) (by kernel_rfl) (fun _ _ _ h => h) (Or.inl ⟨by rfl, ?_⟩) (by assumption) ?_
      rotate_left
      · intro V hSw
        (try dsimp only at hSw)
        go_simp
        (try with_reducible rfl)
      simp only [List.getElem_toArray, List.getElem_cons_succ, List.getElem_cons_zero, Act.put, List.setIfInBounds_toArray, List.set_cons_zero, List.set_cons_succ]
      refine wpAnyH_take (i := 3) (v := ?_) rfl (by kernel_rfl) (by kernel_rfl) (by kernel_rfl) (fun _ _ _ h => h) (Or.inl ⟨by rfl, ?_⟩) (by assumption) ?_
      rotate_left
      · intro V hSw
        (try dsimp only at hSw)
        go_simp
        (try with_reducible rfl)
      simp only [List.getElem_toArray, List.getElem_cons_succ, List.getElem_cons_zero, Act.put, List.setIfInBounds_toArray, List.set_cons_zero, List.set_cons_succ]
      refine wpAnyH_take (i := 4) (v := ?_) rfl (by kernel_rfl) (by kernel_rfl) (by kernel_rfl) (fun _ _ _ h => h) (Or.inl ⟨by rfl, ?_⟩) (by assumption) ?_
      rotate_left
      · intro V hSw
        (try dsimp only at hSw)
        go_simp
        (try with_reducible rfl)
      simp only [List.getElem_toArray, List.getElem_cons_succ, List.getElem_cons_zero, Act.put, List.setIfInBounds_toArray, List.set_cons_zero, List.set_cons_succ]
      refine wpAnyH_take (i := 8) (v := ?_) rfl (by kernel_rfl) (by kernel_rfl) (by kernel_rfl) (fun _ _ _ h => h) (Or.inl ⟨by rfl, ?_⟩) (by assumption) ?_
      rotate_left
      · intro V hSw
        (try dsimp only at hSw)
        go_simp
        (try with_reducible rfl)
      simp only [List.getElem_toArray, List.getElem_cons_succ, List.getElem_cons_zero, Act.put, List.setIfInBounds_toArray, List.set_cons_zero, List.set_cons_succ]
      refine wpAnyH_take (i := 9) (v := ?_) rfl (by kernel_rfl) (by kernel_rfl) (by kernel_rfl) (fun _ _ _ h => h) (Or.inl ⟨by rfl, ?_⟩) (by assumption) ?_
      rotate_left
      · intro V hSw
        (try dsimp only at hSw)
        go_simp
        (try with_reducible rfl)
      simp only [List.getElem_toArray, List.getElem_cons_succ, List.getElem_cons_zero, Act.put, List.setIfInBounds_toArray, List.set_cons_zero, List.set_cons_succ]
      refine wpAnyH_ready (rs := [10]) (by kernel_rfl) (by simp) ?_
      refine AllReadyH.cons rfl (fun K hK => ?_) AllReadyH.nil
      go_simp
      go_wp2_with (go_at_call 82; refine (laws_guNet y C1 D1 i1 j1 m m' wd HR.out HR'.out).mono ?_; rintro e w7 ⟨rfl, hb0⟩)
      have BV := Lib.hid (BV.out.trans (hb0.mono BV.out.size))
      refine hK.out _ _ ⟨(P.out.later BV.out).cell 0, (P'.out.later BV.out).cell 0, (hb0.cell (p := ⟨b, off + k * 2, none⟩) Lb).trans TC.out.2.2.1, (hb0.cell (p := ⟨b, off + k * 2 + 1, none⟩) Lb).trans TC.out.2.2.2.1, (hb0.cell (p := ⟨b', off' + k * 2, none⟩) Lb').trans TC.out.2.2.2.2.1, (hb0.cell (p := ⟨b', off' + k * 2 + 1, none⟩) Lb').trans TC.out.2.2.2.2.2⟩ (fun hHeld => ?_)
      clear hK K hb0 TC
      refine wpAnyH_take (i := 11) (v := ?_) rfl (by kernel_rfl) (by kernel_rfl) (by kernel_rfl) (fun _ _ _ h => h) (Or.inl ⟨by rfl, ?_⟩) (by assumption) ?_
      rotate_left
      · intro V hSw
        (try dsimp only at hSw)
        go_simp
        (try with_reducible rfl)
      simp only [List.getElem_toArray, List.getElem_cons_succ, List.getElem_cons_zero, Act.put, List.setIfInBounds_toArray, List.set_cons_zero, List.set_cons_succ]
      refine wpAnyH_done (by kernel_rfl) ?_ _
      clear hHeld
      go_wp2
      go_roundg (ns.length - (k + 1))
      case measure => omega
      case rel => exact ⟨k + 1, by omega, by omega, by go_num, BV.out⟩
    · have hltz : ¬ (k : Int) < (ns.length : Int) := by omega
      go_wp2
      clear kP kP'
      go_loopg [6] 0 (fun gg s6 wt => s6 = .int .i64 0 ∧ Aside (wr = wt))
      case atStart => exact ⟨rfl, rfl⟩
      case round =>
        obtain ⟨rfl, EW⟩ := hrel
        obtain rfl := EW.out
        have kP := fun i => (P.out.later BW.out).cell i
        have kP' := fun i => (P'.out.later BW.out).cell i
        go_wp2
        go_ret
        exact ⟨rfl, B.out.trans (BW.out.mono B.out.size)⟩
end Go.Proofs.Ytkkjljpokannkaa
