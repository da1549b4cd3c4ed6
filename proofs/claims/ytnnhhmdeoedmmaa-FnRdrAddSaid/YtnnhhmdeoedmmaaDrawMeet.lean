/- Data turned so that a question holds: l20Meet. -/
import Derived.Test.YtnnhhmdeoedmmaaDrawData
import Derived.Test.YtnnhhmdeoedmmaaAddS
namespace Go.Proofs.Ytnnhhmdeoedmmaa
open Go.RowKit

theorem askOk_some {x : GAsk} (h : askOk x = true) (h0 : x.op ≠ 0) : 1 ≤ x.op ∧ x.op ≤ 3 ∧ -99 ≤ x.k ∧ x.k ≤ 99 := by
  unfold askOk at h
  rw [if_neg h0] at h
  simp [inB] at h
  omega

def MetD (xs : List Int) (lo : Nat) (w : World) (e : Ending) (w' : World) : Prop :=
  ∃ A c ys, e = .returned (.slice A (List.length (α := Int) ys) c) ∧ ys.length = xs.length ∧ Rows intC (some lo) w' w'.heap.size A ys ∧ Below w.heap.size w w'

set_option linter.unusedSimpArgs false in
set_option maxRecDepth 100000 in
set_option maxHeartbeats 2000000 in
theorem spec_l20Meet (A : Option Addr) (c : Nat) (xs : List Int) (x : GAsk) (lo : Nat) (w : World) (hx : Rows intC (some lo) w w.heap.size A xs) (hlo : lo ≤ w.heap.size) (hl : xs.length ≤ 1048576) :
    Calls Try.prog 79 #[.slice A xs.length c, .agg #[.int .i64 x.op, .int .i64 x.var, .int .i64 x.k]] w (MetD xs lo w) := by
  have HX := Lib.hid hx
  clear hx
  cases q1 : askOk x with
  | false =>
    go_enter Try.func79, Try.ntmps79
    go_wp2_with fail
    refine (spec_ExpOk x _).mono ?_
    rintro e w1 ⟨rfl, hb⟩
    rw [q1]
    have HB := Lib.hid (((Below.refl _ w).alloc (Nat.le_refl _) (.cells #[.int .i64 x.op, .int .i64 x.var, .int .i64 x.k] 39)).trans (hb.mono (by simp)))
    clear hb q1
    go_wp2
    go_ret
    exact ⟨A, c, xs, rfl, rfl, HX.out.later HB.out, HB.out⟩
  | true =>
    go_enter Try.func79, Try.ntmps79
    go_wp2_with fail
    refine callsAt fun W hW => ?_
    have b0 : Bk W w.heap.size 39 #[.int .i64 x.op, .int .i64 x.var, .int .i64 x.k] := by rw [hW]; exact Bk.new rfl
    have hB0 : Below w.heap.size w W := by rw [hW]; exact (Below.refl _ _).alloc (Nat.le_refl _) _
    have hWs : w.heap.size < W.heap.size := b0.lt
    clear hW
    refine (spec_ExpOk x W).mono ?_
    rintro e w1 ⟨rfl, hb⟩
    rw [q1]
    have HB := Lib.hid (hB0.trans (hb.mono hB0.size))
    have b1 := b0.later hb
    have h1 := b1.lt
    have k1 := fun i => b1.cell i
    have E1 := Lib.hid (AskS.of b1)
    clear hb b0 b1 hB0
    by_cases h0 : x.op = 0
    · have b0 : (x.op == 0) = true := by simp [h0]
      clear h0 q1
      go_wp2
      go_ret
      exact ⟨A, c, xs, rfl, rfl, HX.out.later HB.out, HB.out⟩
    · have b0 : (x.op == 0) = false := by simp [h0]
      obtain ⟨o1, o3, n1, n2⟩ := askOk_some q1 h0
      have hdrew : w1.drew.heap.size = w1.heap.size := rfl
      have HS : Hid ((fun V : World => V.cell? ⟨w.heap.size, 0, none⟩ = some (.int .i64 x.op) ∧ V.cell? ⟨w.heap.size, 1, none⟩ = some (.int .i64 x.var) ∧ V.cell? ⟨w.heap.size, 2, none⟩ = some (.int .i64 x.k)) w1.drew) := E1.out
      have HSA : Hid ((fun V : World => V.cell? ⟨w.heap.size, 0, none⟩ = some (.int .i64 x.op) ∧ V.cell? ⟨w.heap.size, 1, none⟩ = some (.int .i64 x.var) ∧ V.cell? ⟨w.heap.size, 2, none⟩ = some (.int .i64 x.k)) (w1.drew.alloc (.cells #[.int .i64 0, .int .i64 (-1), .int .i64 0, .int .i64 1] 3))) := AskS.low (x := x) HS.out ((Below.refl w1.drew.heap.size w1.drew).alloc (Nat.le_refl _) _) h1
      have HBA := Lib.hid (HB.out.drew.alloc HB.out.size (.cells #[.int .i64 0, .int .i64 (-1), .int .i64 0, .int .i64 1] 3))
      have HXA := Lib.hid (HX.out.later HBA.out)
      have hsA : w1.heap.size ≤ (w1.drew.alloc (.cells #[.int .i64 0, .int .i64 (-1), .int .i64 0, .int .i64 1] 3)).heap.size := by simp
      have HSZ := Lib.hid hsA
      obtain ⟨k, hk⟩ := Int.eq_ofNat_of_zero_le (a := x.op) (by omega)
      have hk4 : (k : Int) < 4 := by omega
      have hkz : (0 : Int) ≤ (k : Int) := by omega
      obtain ⟨z, hz, z1, z2⟩ : ∃ z : Int, ([.int .i64 0, .int .i64 (-1), .int .i64 0, .int .i64 1] : List Value)[k]? = some (.int .i64 z) ∧ -1 ≤ z ∧ z ≤ 1 := by
        rcases (by omega : k = 1 ∨ k = 2 ∨ k = 3) with rfl | rfl | rfl
        · exact ⟨-1, rfl, by omega, by omega⟩
        · exact ⟨0, rfl, by omega, by omega⟩
        · exact ⟨1, rfl, by omega, by omega⟩
      have HZ := Lib.hid hz
      clear h0 q1 hsA hdrew hz
      go_upto_region 3 with fail
      clear k1 b0
      rw [hk] at HS HSA
      refine wp_region_held_drew (S := fun V : World => V.cell? ⟨w.heap.size, 0, none⟩ = some (.int .i64 (k : Int)) ∧ V.cell? ⟨w.heap.size, 1, none⟩ = some (.int .i64 x.var) ∧ V.cell? ⟨w.heap.size, 2, none⟩ = some (.int .i64 x.k)) (by kernel_rfl) HS.out (fun hHeld => ?_)
      refine wpAnyH_take (i := 0) (v := ?_) rfl (by kernel_rfl) (by kernel_rfl) (by kernel_rfl) (fun _ _ _ h => h) (Or.inl ⟨by rfl, ?_⟩) (by assumption) ?_
      rotate_left
      · intro V hSw
        (try dsimp only at hSw)
        go_simp
        (try with_reducible rfl)
      simp only [Act.put, List.setIfInBounds_toArray, List.set_cons_zero, List.set_cons_succ]
      refine wpAnyH_take (i := 1) (v := ?_) rfl (by kernel_rfl) (by kernel_rfl) (by kernel_rfl) (fun _ _ _ h => h) (Or.inl ⟨by rfl, ?_⟩) (by assumption) ?_
      rotate_left
      · intro V hSw
        (try dsimp only at hSw)
        go_simp
        (try with_reducible rfl)
      simp only [Act.put, List.setIfInBounds_toArray, List.set_cons_zero, List.set_cons_succ]
      refine wpAnyH_take (i := 2) (v := ?_) rfl (by kernel_rfl) (by kernel_rfl) (by kernel_rfl) (fun _ _ _ h => h) (Or.inl ⟨by rfl, ?_⟩) (by assumption) ?_
      rotate_left
      · intro V hSw
        (try dsimp only at hSw)
        go_simp
        (try with_reducible rfl)
      simp only [Act.put, List.setIfInBounds_toArray, List.set_cons_zero, List.set_cons_succ]
      refine wpAnyH_take (i := 3) (v := ?_) rfl (by kernel_rfl) (by kernel_rfl) (by kernel_rfl) (fun _ _ _ h => h) (Or.inl ⟨by rfl, ?_⟩) (by assumption) ?_
      rotate_left
      · intro V hSw
        (try dsimp only at hSw)
        go_simp
        (try with_reducible rfl)
      simp only [Act.put, List.setIfInBounds_toArray, List.set_cons_zero, List.set_cons_succ]
      refine wpAnyH_take (i := 4) (v := ?_) rfl (by kernel_rfl) (by kernel_rfl) (by kernel_rfl) (fun _ _ _ h => h) (Or.inl ⟨by rfl, ?_⟩) (by assumption) ?_
      rotate_left
      · intro V hSw
        (try dsimp only at hSw)
        go_simp
        (try with_reducible rfl)
      simp only [Act.put, List.setIfInBounds_toArray, List.set_cons_zero, List.set_cons_succ]
      refine wpAnyH_take (i := 6) (v := ?_) rfl (by kernel_rfl) (by kernel_rfl) (by kernel_rfl) (fun _ _ _ h => h) (Or.inl ⟨by rfl, ?_⟩) (by assumption) ?_
      rotate_left
      · intro V hSw
        (try dsimp only at hSw)
        go_simp
        (try with_reducible rfl)
      simp only [Act.put, List.setIfInBounds_toArray, List.set_cons_zero, List.set_cons_succ]
      refine wpAnyH_take (i := 7) (v := ?_) rfl (by kernel_rfl) (by kernel_rfl) (by kernel_rfl) (fun _ _ _ h => h) (Or.inl ⟨by rfl, ?_⟩) (by assumption) ?_
      rotate_left
      · intro V hSw
        (try dsimp only at hSw)
        go_simp
        (try with_reducible rfl)
      simp only [Act.put, List.setIfInBounds_toArray, List.set_cons_zero, List.set_cons_succ]
      refine wpAnyH_ready (rs := [5]) (by kernel_rfl) (by simp) ?_
      refine AllReadyH.cons rfl (fun K hK => ?_) ?_
      rotate_left
      · exact AllReadyH.nil
      go_simp
      refine hK.out _ _ HSA.out (fun hHeld => ?_)
      clear hK K
      refine wpAnyH_take (i := 8) (v := ?_) rfl (by kernel_rfl) (by kernel_rfl) (by kernel_rfl) (fun _ _ _ h => h) (Or.inl ⟨by rfl, ?_⟩) (by assumption) ?_
      rotate_left
      · intro V hSw
        (try dsimp only at hSw)
        go_simp
        (try with_reducible rfl)
      simp only [Act.put, List.setIfInBounds_toArray, List.set_cons_zero, List.set_cons_succ]
      have hzz := HZ.out
      refine wpAnyH_ready (rs := [9]) (by kernel_rfl) (by simp) ?_
      refine AllReadyH.cons rfl (fun K hK => ?_) ?_
      rotate_left
      · exact AllReadyH.nil
      go_simp
      refine hK.out _ _ HSA.out (fun hHeld => ?_)
      clear hK K
      refine wpAnyH_take (i := 10) (v := ?_) rfl (by kernel_rfl) (by kernel_rfl) (by kernel_rfl) (fun _ _ _ h => h) (Or.inl ⟨by rfl, ?_⟩) (by assumption) ?_
      rotate_left
      · intro V hSw
        (try dsimp only at hSw)
        go_simp
        (try with_reducible rfl)
      simp only [Act.put, List.setIfInBounds_toArray, List.set_cons_zero, List.set_cons_succ]
      refine wpAnyH_ready (rs := [11]) (by kernel_rfl) (by simp) ?_
      refine AllReadyH.cons rfl (fun K hK => ?_) ?_
      rotate_left
      · exact AllReadyH.nil
      go_simp
      go_wp2_with (go_at_call 101; refine (spec_DatSet A c xs _ _ _ HXA.out.ints hl).mono ?_; rintro e w6 ⟨v6, ys, rfl, ho6, hl6, hb6⟩; have HS6 := Lib.hid (AskS.low (x := ⟨(k : Int), x.var, x.k⟩) HSA.out hb6 (by have := HSZ.out; omega)))
      refine hK.out _ _ HS6.out (fun hHeld => ?_)
      clear hK K
      refine wpAnyH_ready (rs := [12]) (by kernel_rfl) (by simp) ?_
      refine AllReadyH.cons rfl (fun K hK => ?_) ?_
      rotate_left
      · exact AllReadyH.nil
      go_simp
      refine hK.out _ _ HS6.out (fun hHeld => ?_)
      clear hK K
      refine wpAnyH_done (by kernel_rfl) ?_ _
      go_wp2
      go_ret
      obtain ⟨A2, c2, rfl, hrow⟩ := ho6.rows (by rw [hl6]; omega)
      exact ⟨A2, c2, ys, rfl, hl6, hrow.weak (Weaker.some (by have := HSZ.out; have := HB.out.size; omega)), HBA.out.trans (hb6.mono (by have := HSZ.out; have := HB.out.size; omega))⟩
end Go.Proofs.Ytnnhhmdeoedmmaa
