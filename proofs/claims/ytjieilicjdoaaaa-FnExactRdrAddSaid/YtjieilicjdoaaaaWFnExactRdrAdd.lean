/- The walk of FnExactRdrAdd: it returns true. -/
import Derived.Test.YtjieilicjdoaaaaAddX
import Derived.Test.YtjieilicjdoaaaaTreeX
import Derived.Test.YtjieilicjdoaaaaMarkRule
import Derived.Deep.QuietTactic
import Derived.Deep.RegionHeld3
namespace Go.Proofs.Ytjieilicjdoaaaa
open Go.RowKit
set_option linter.unusedSimpArgs false
set_option linter.unusedVariables false

theorem rdrAdd_len (t : List GRule) (d : List Int) (x : GAsk) (a : Int) : (rdrAdd t d x a).length ≤ t.length + 1 := by
  unfold rdrAdd added patched
  split
  · rw [List.length_append]
    split <;> simp
  · omega
theorem rdrAdd_stones {t : List GRule} {d : List Int} {x : GAsk} {a : Int} {n : Nat} (hs : ∀ r ∈ t, r.stone.length ≤ n) (hd : d.length ≤ n) : ∀ r ∈ rdrAdd t d x a, r.stone.length ≤ n := by
  unfold rdrAdd added
  split
  · intro r hr
    rcases List.mem_append.1 hr with h | h
    · unfold patched at h
      split at h
      · exact hs r h
      · rcases List.mem_or_eq_of_mem_set h with h | h
        · exact hs r h
        · subst h
          have hq : ∀ q : GRule, ∀ b n, (pointed q b n).stone = q.stone := fun q b n => by unfold pointed; split <;> rfl
          rw [hq]
          unfold rule
          rw [List.getD_eq_getElem?_getD]
          cases hg : t[(asked t d).toNat]? with
          | none => simp [rule0]
          | some q => exact hs q (List.mem_of_getElem? hg)
    · rw [List.mem_singleton] at h
      subst h
      exact hd
  · exact hs

set_option maxRecDepth 100000 in
set_option maxHeartbeats 8000000 in
theorem walk_FnExactRdrAdd (A0 : Option Addr) (c0 : Nat) (t : List GRule) (A1 : Option Addr) (c1 : Nat) (d : List Int) (v2 : Value) (x : GAsk) (a : Int) (w : World) (h0 : Rows ruleC none w w.heap.size A0 t) (h1 : Ints w w.heap.size A1 d) (h2 : ∃ cs : List Value, v2 = .agg cs.toArray ∧ askC.R none w w.heap.size x cs) (_ : -9223372036854775808 ≤ a ∧ a ≤ 9223372036854775807) :
    Calls Try.prog 3 #[.slice A0 t.length c0, .slice A1 d.length c1, v2, .int .i64 a] w fun e w' => e = .returned (.bool true) ∧ Below w.heap.size w w' := by
  obtain ⟨cs, rfl, hcs⟩ := h2
  obtain rfl : cs = x.cells := hcs
  have HT := Lib.hid h0
  have HD := Lib.hid h1
  have hdl := h1.1
  clear h0 h1
  show Calls Try.prog 3 #[.slice A0 t.length c0, .slice A1 d.length c1, .agg #[.int .i64 x.op, .int .i64 x.var, .int .i64 x.k], .int .i64 a] w _
  by_cases hld : d.length ≤ 1048576
  rotate_left
  · have hz : (1048576 : Int) < d.length := by omega
    go_enter Try.func3, Try.ntmps3
    go_wp2
    go_ret
    exact ⟨rfl, by go_grown⟩
  have hz : ¬ (1048576 : Int) < d.length := by omega
  go_enter Try.func3, Try.ntmps3
  go_wp2_with fail
  refine callsAt fun W hW => ?_
  have BE : Hid (Bk W w.heap.size 25 #[.int .i64 x.op, .int .i64 x.var, .int .i64 x.k]) := by show Bk _ _ _ _; rw [hW]; exact Bk.new rfl
  have B : Hid (Below w.heap.size w W) := by show Below _ _ _; rw [hW]; exact (Below.refl _ _).alloc (Nat.le_refl _) _
  clear hW
  refine (laws_szRdrNodeS A0 c0 t none W (HT.out.later B.out)).mono ?_
  rintro e w0 ⟨v, rfl, hv1, hv2, hv3, hb⟩
  have BE := Lib.hid (BE.out.later hb)
  have B := Lib.hid (B.out.trans (hb.mono B.out.size))
  clear hb
  by_cases hv : v < 0
  · clear hv3
    go_wp2
    go_ret
    exact ⟨rfl, B.out⟩
  obtain ⟨hl, hs⟩ := hv3 (by omega)
  have HS := Lib.hid hs
  have RL := Lib.hid (rdrAdd_len t d x a)
  have RSB := Lib.hid (rdrAdd_stones (d := d) (x := x) (a := a) hs hld)
  clear hs hv3
  go_upto_region 7 with fail
  have hdr := (Below.refl w0.heap.size w0).drew
  refine wp_region_held_drew (S := (fun V : World => V.cell? ⟨w.heap.size, 0, none⟩ = some (.int .i64 x.op) ∧ V.cell? ⟨w.heap.size, 1, none⟩ = some (.int .i64 x.var) ∧ V.cell? ⟨w.heap.size, 2, none⟩ = some (.int .i64 x.k))) (by kernel_rfl) ⟨BE.out.cell 0, BE.out.cell 1, BE.out.cell 2⟩ (fun hHeld => ?_)
  generalize w0.drew = v5 at hdr hHeld ⊢
  have BE := Lib.hid (BE.out.later hdr)
  have B := Lib.hid (B.out.trans (hdr.mono B.out.size))
  clear hdr
  refine wpAnyH_take (i := 0) (v := ?_) rfl (by kernel_rfl) (by kernel_rfl) (by kernel_rfl) (fun _ _ _ h => h) (Or.inl ⟨by rfl, ?_⟩) (by assumption) ?_
  rotate_left
  · intro V hSw
    (try dsimp only at hSw)
    go_simp
    (try with_reducible rfl)
  simp only [List.getElem_toArray, List.getElem_cons_succ, List.getElem_cons_zero, Act.put, List.setIfInBounds_toArray, List.set_cons_zero, List.set_cons_succ]
  refine wpAnyH_take (i := 2) (v := ?_) rfl (by kernel_rfl) (by kernel_rfl) (by kernel_rfl) (fun _ _ _ h => h) (Or.inl ⟨by rfl, ?_⟩) (by assumption) ?_
  rotate_left
  · intro V hSw
    (try dsimp only at hSw)
    go_simp
    (try with_reducible rfl)
  simp only [List.getElem_toArray, List.getElem_cons_succ, List.getElem_cons_zero, Act.put, List.setIfInBounds_toArray, List.set_cons_zero, List.set_cons_succ]
  refine wpAnyH_take (i := 4) (v := ?_) rfl (by kernel_rfl) (by kernel_rfl) (by kernel_rfl) (fun _ _ _ h => h) (Or.inl ⟨by rfl, ?_⟩) (by assumption) ?_
  rotate_left
  · intro V hSw
    (try dsimp only at hSw)
    go_simp
    (try with_reducible rfl)
  simp only [List.getElem_toArray, List.getElem_cons_succ, List.getElem_cons_zero, Act.put, List.setIfInBounds_toArray, List.set_cons_zero, List.set_cons_succ]
  refine wpAnyH_take (i := 6) (v := ?_) rfl (by kernel_rfl) (by kernel_rfl) (by kernel_rfl) (fun _ _ _ h => h) (Or.inl ⟨by rfl, ?_⟩) (by assumption) ?_
  rotate_left
  · intro V hSw
    (try dsimp only at hSw)
    go_simp
    (try with_reducible rfl)
  simp only [List.getElem_toArray, List.getElem_cons_succ, List.getElem_cons_zero, Act.put, List.setIfInBounds_toArray, List.set_cons_zero, List.set_cons_succ]
  refine wpAnyH_ready (rs := [1]) (by kernel_rfl) (by simp) ?_
  refine AllReadyH.cons rfl (fun K hK => ?_) AllReadyH.nil
  go_simp
  go_wp2_with (go_at_call 8; refine (toRules A0 c0 t none _ (HT.out.later B.out) hl HS.out).mono ?_; rintro e v1 ⟨gt7, hg7, rfl, hr7, hb⟩)
  have T7 := Lib.hid hr7
  have BE := Lib.hid (BE.out.later hb)
  have B := Lib.hid (B.out.trans (hb.mono B.out.size))
  clear hb hr7 hg7
  refine hK.out _ _ ⟨BE.out.cell 0, BE.out.cell 1, BE.out.cell 2⟩ (fun hHeld => ?_)
  clear hK K
  refine wpAnyH_ready (rs := [3]) (by kernel_rfl) (by simp) ?_
  refine AllReadyH.cons rfl (fun K hK => ?_) AllReadyH.nil
  go_simp
  go_wp2_with (go_at_call 9; refine (laws_toIntS A1 c1 d v1 w.heap.size B.out.size (HD.out.below B.out) hld).mono ?_; rintro e v2 ⟨rfl, hw, hb⟩)
  have D7 := Lib.hid (hw.ints hw.lt (by omega))
  have T7 := Lib.hid (T7.out.later hb)
  have BE := Lib.hid (BE.out.later hb)
  have B := Lib.hid (B.out.trans (hb.mono B.out.size))
  clear hb hw
  generalize v1.heap.size = gd7 at D7 ⊢
  refine hK.out _ _ ⟨BE.out.cell 0, BE.out.cell 1, BE.out.cell 2⟩ (fun hHeld => ?_)
  clear hK K
  refine wpAnyH_ready (rs := [5]) (by kernel_rfl) (by simp) ?_
  refine AllReadyH.cons rfl (fun K hK => ?_) AllReadyH.nil
  go_simp
  go_wp2_with (go_at_call 10; refine (laws_toExpAsk x v2).mono ?_; rintro e v3 ⟨rfl, hb⟩)
  have D7 := Lib.hid (D7.out.later hb)
  have T7 := Lib.hid (T7.out.later hb)
  have BE := Lib.hid (BE.out.later hb)
  have B := Lib.hid (B.out.trans (hb.mono B.out.size))
  clear hb
  refine hK.out _ _ ⟨BE.out.cell 0, BE.out.cell 1, BE.out.cell 2⟩ (fun hHeld => ?_)
  clear hK K
  refine wpAnyH_ready (rs := [7]) (by kernel_rfl) (by simp) ?_
  refine AllReadyH.cons rfl (fun K hK => ?_) AllReadyH.nil
  go_simp
  go_wp2_with (go_at_call 7; refine (spec_RdrAdd _ _ _ _ t d x a _ _ T7.out D7.out hl HS.out hld).mono ?_; rintro e v4 ⟨v0, rfl, how, hb⟩; obtain ⟨AW, cW, rfl, hrw⟩ := how.rows (by have := RL.out; omega))
  have W0 := Lib.hid hrw
  clear how hrw
  have BE := Lib.hid (BE.out.later hb)
  have B := Lib.hid (B.out.trans (hb.mono B.out.size))
  clear hb T7 D7
  refine hK.out _ _ ⟨BE.out.cell 0, BE.out.cell 1, BE.out.cell 2⟩ (fun hHeld => ?_)
  clear hK K
  refine wpAnyH_take (i := 8) (v := ?_) rfl (by kernel_rfl) (by kernel_rfl) (by kernel_rfl) (fun _ _ _ h => h) (Or.inl ⟨by rfl, ?_⟩) (by assumption) ?_
  rotate_left
  · intro V hSw
    (try dsimp only at hSw)
    go_simp
    (try with_reducible rfl)
  simp only [List.getElem_toArray, List.getElem_cons_succ, List.getElem_cons_zero, Act.put, List.setIfInBounds_toArray, List.set_cons_zero, List.set_cons_succ]
  refine wpAnyH_take (i := 9) (v := ?_) rfl (by kernel_rfl) (by kernel_rfl) (by kernel_rfl) (fun _ _ _ h => h) (Or.inl ⟨by rfl, ?_⟩) (by assumption) ?_
  rotate_left
  · intro V hSw
    (try dsimp only at hSw)
    go_simp
    (try with_reducible rfl)
  simp only [List.getElem_toArray, List.getElem_cons_succ, List.getElem_cons_zero, Act.put, List.setIfInBounds_toArray, List.set_cons_zero, List.set_cons_succ]
  refine wpAnyH_take (i := 10) (v := ?_) rfl (by kernel_rfl) (by kernel_rfl) (by kernel_rfl) (fun _ _ _ h => h) (Or.inl ⟨by rfl, ?_⟩) (by assumption) ?_
  rotate_left
  · intro V hSw
    (try dsimp only at hSw)
    go_simp
    (try with_reducible rfl)
  simp only [List.getElem_toArray, List.getElem_cons_succ, List.getElem_cons_zero, Act.put, List.setIfInBounds_toArray, List.set_cons_zero, List.set_cons_succ]
  refine wpAnyH_take (i := 11) (v := ?_) rfl (by kernel_rfl) (by kernel_rfl) (by kernel_rfl) (fun _ _ _ h => h) (Or.inl ⟨by rfl, ?_⟩) (by assumption) ?_
  rotate_left
  · intro V hSw
    (try dsimp only at hSw)
    go_simp
    (try with_reducible rfl)
  simp only [List.getElem_toArray, List.getElem_cons_succ, List.getElem_cons_zero, Act.put, List.setIfInBounds_toArray, List.set_cons_zero, List.set_cons_succ]
  refine wpAnyH_take (i := 12) (v := ?_) rfl (by kernel_rfl) (by kernel_rfl) (by kernel_rfl) (fun _ _ _ h => h) (Or.inl ⟨by rfl, ?_⟩) (by assumption) ?_
  rotate_left
  · intro V hSw
    (try dsimp only at hSw)
    go_simp
    (try with_reducible rfl)
  simp only [List.getElem_toArray, List.getElem_cons_succ, List.getElem_cons_zero, Act.put, List.setIfInBounds_toArray, List.set_cons_zero, List.set_cons_succ]
  refine wpAnyH_done (by kernel_rfl) ?_ _
  clear hHeld
  -- the copies that are handed to the program, and its answer
  have KW : Hid (Below v4.heap.size v4 v4) := Below.refl _ _
  have WDS := Lib.hid B.out.size
  have WB := Lib.hid B.out
  have BLT := Lib.hid BE.out.lt
  generalize hcb : canAdd t d x a = cb
  have hcc : (cb != cb) = false := by cases cb <;> rfl
  go_wp2_with fail
  refine (laws_toRdrNodeS A0 c0 t none _ (HT.out.later B.out) hl HS.out).mono ?_
  rintro e w4 ⟨g4, hg4, rfl, hf4, hb⟩
  have KW := Lib.hid (KW.out.trans hb)
  have BE := Lib.hid (BE.out.later hb)
  have B := Lib.hid (B.out.trans (hb.mono B.out.size))
  have M := Lib.hid (TreeAt.of_filled hf4)
  have T4 := Lib.hid (hf4.done (by omega))
  have l4 := hf4.lt
  clear hf4 hb
  go_wp2_with fail
  refine (laws_toIntS A1 c1 d _ w.heap.size B.out.size (HD.out.below B.out) hld).mono ?_
  rintro e w5 ⟨rfl, hw5, hb⟩
  have KW := Lib.hid (KW.out.trans (hb.mono KW.out.size))
  have BE := Lib.hid (BE.out.later hb)
  have B := Lib.hid (B.out.trans (hb.mono B.out.size))
  have M := Lib.hid (M.out.later hb l4 (Nat.le_refl _))
  have T4 := Lib.hid (T4.out.later hb)
  have D5 := Lib.hid hw5
  have d5 := hw5.lt
  have s45 := hb.size
  clear hw5 hb
  have kE := fun i => BE.out.cell i
  go_wp2_with fail
  clear kE
  refine (laws_toExpAsk x w5).mono ?_
  rintro e w6 ⟨rfl, hb⟩
  have KW := Lib.hid (KW.out.trans (hb.mono KW.out.size))
  have BE := Lib.hid (BE.out.later hb)
  have B := Lib.hid (B.out.trans (hb.mono B.out.size))
  have M := Lib.hid (M.out.later hb (by omega) s45)
  have T4 := Lib.hid (T4.out.later hb)
  have D5 := Lib.hid (D5.out.later hb)
  have s56 := hb.size
  clear hb
  go_wp2_with fail
  refine (impl_RdrAddX (some ⟨g4, 0, none⟩) (some ⟨w4.heap.size, 0, none⟩) _ _ t d x a _ w6 T4.out (D5.out.ints D5.out.lt (by omega)) hl HS.out hld).mono ?_
  rintro e w7 ⟨v1, tz, rfl, hz1, how, hbk, hb⟩
  rw [hcb]
  have KW := Lib.hid (KW.out.trans (hb.mono KW.out.size))
  have BE := Lib.hid (BE.out.later hb)
  have B := Lib.hid (B.out.trans (hb.mono B.out.size))
  have M := Lib.hid (M.out.later hb (by omega) (by omega))
  have T4 := Lib.hid (T4.out.later hb)
  have D5 := Lib.hid (D5.out.later hb)
  have s67 := hb.size
  have tzl : tz.length = (rdrAdd t d x a).length := by rw [← hz1, List.length_map]
  have ZS : Hid (∀ p ∈ tz, p.1.stone.length ≤ 1048576) := fun p hp => RSB.out p.1 (by rw [← hz1]; exact List.mem_map_of_mem hp)
  have hoc := ownX_own how ZS.out
  rw [hz1] at hoc
  obtain ⟨AG, cG, rfl, hrg⟩ := hoc.rows (by have := RL.out; omega)
  have GR := Lib.hid hrg
  have hX : TX w7 w6.heap.size AG (rdrAdd t d x a).length (blkAt tz) (fun j => rint (rulX tz j)) (fun j => (rulX tz j).stone) := by
    rw [← tzl] at how ⊢
    exact TX.of_own how
  obtain ⟨bf, ff, xf, hTX, hINJ, hXL⟩ : ∃ (bf : Nat → Nat) (ff : Nat → Nat → Int) (xf : Nat → List Int), TX w7 w6.heap.size AG (rdrAdd t d x a).length bf ff xf ∧ (∀ i i', i < (rdrAdd t d x a).length → i' < (rdrAdd t d x a).length → bf i = bf i' → i = i') ∧ ∀ i, (xf i).length ≤ 1048576 := by
    refine ⟨_, _, _, hX, ?_, fun i => ?_⟩
    · rw [← tzl]
      exact hbk.inj
    · show ((rulX tz i).stone).length ≤ 1048576
      unfold rulX
      rw [List.getD_eq_getElem?_getD]
      cases hg : tz[i]? with
      | none => simp [rule0]
      | some q => exact ZS.out q (List.mem_of_getElem? hg)
  have TX0 := Lib.hid hTX
  have INJ := Lib.hid hINJ
  have XL := Lib.hid hXL
  have hrl := RL.out
  have KS : Hid (w7.heap.size ≤ w7.heap.size) := Nat.le_refl _
  clear hb how hbk hrg hz1 hoc hX hTX hINJ hXL tzl ZS
  go_wp2_with fail
  refine (laws_eqRdrNodeS AG AW cG cW (rdrAdd t d x a) _ _ w7 GR.out ((W0.out.below KW.out).more KW.out.size)).mono ?_
  rintro e w8 ⟨rfl, hb⟩
  have KW := Lib.hid (KW.out.trans (hb.mono KW.out.size))
  have BE := Lib.hid (BE.out.later hb)
  have B := Lib.hid (B.out.trans (hb.mono B.out.size))
  have M := Lib.hid (M.out.later hb (by have := KS.out; omega) (by have := KS.out; omega))
  have KS := Lib.hid (Nat.le_trans KS.out hb.size)
  have T4 := Lib.hid (T4.out.later hb)
  have D5 := Lib.hid (D5.out.later hb)
  have GR := Lib.hid (GR.out.later hb)
  have TX0 := Lib.hid (TX0.out.later hb)
  clear hb
  -- they are as they were
  go_wp2_with fail
  refine (toRules A0 c0 t none _ (HT.out.later B.out) hl HS.out).mono ?_
  rintro e w9 ⟨g9, hg9, rfl, hr9, hb⟩
  have R9 := Lib.hid hr9
  have KW := Lib.hid (KW.out.trans (hb.mono KW.out.size))
  have BE := Lib.hid (BE.out.later hb)
  have B := Lib.hid (B.out.trans (hb.mono B.out.size))
  have M := Lib.hid (M.out.later hb (by have := KS.out; omega) (by have := KS.out; omega))
  have KS := Lib.hid (Nat.le_trans KS.out hb.size)
  have T4 := Lib.hid (T4.out.later hb)
  have D5 := Lib.hid (D5.out.later hb)
  have GR := Lib.hid (GR.out.later hb)
  have TX0 := Lib.hid (TX0.out.later hb)
  clear hb hr9 hg9
  go_wp2_with fail
  refine (laws_eqRdrNodeS _ _ _ _ t _ _ _ T4.out R9.out).mono ?_
  rintro e w10 ⟨rfl, hb⟩
  have KW := Lib.hid (KW.out.trans (hb.mono KW.out.size))
  have BE := Lib.hid (BE.out.later hb)
  have B := Lib.hid (B.out.trans (hb.mono B.out.size))
  have M := Lib.hid (M.out.later hb (by have := KS.out; omega) (by have := KS.out; omega))
  have KS := Lib.hid (Nat.le_trans KS.out hb.size)
  have T4 := Lib.hid (T4.out.later hb)
  have D5 := Lib.hid (D5.out.later hb)
  have GR := Lib.hid (GR.out.later hb)
  have TX0 := Lib.hid (TX0.out.later hb)
  clear hb R9
  go_wp2_with fail
  refine (laws_toIntS A1 c1 d _ w.heap.size B.out.size (HD.out.below B.out) hld).mono ?_
  rintro e w11 ⟨rfl, hw11, hb⟩
  have E11 := Lib.hid (hw11.ints hw11.lt (by omega))
  have KW := Lib.hid (KW.out.trans (hb.mono KW.out.size))
  have BE := Lib.hid (BE.out.later hb)
  have B := Lib.hid (B.out.trans (hb.mono B.out.size))
  have M := Lib.hid (M.out.later hb (by have := KS.out; omega) (by have := KS.out; omega))
  have KS := Lib.hid (Nat.le_trans KS.out hb.size)
  have T4 := Lib.hid (T4.out.later hb)
  have D5 := Lib.hid (D5.out.later hb)
  have GR := Lib.hid (GR.out.later hb)
  have TX0 := Lib.hid (TX0.out.later hb)
  clear hb hw11
  go_wp2_with fail
  refine (laws_eqIntS _ _ _ _ d d _ w11.heap.size (D5.out.ints D5.out.lt (by omega)) E11.out).mono ?_
  rintro e _ ⟨rfl, q1, rfl⟩
  have hb : Below w11.heap.size w11 (w11.drewN q1) := bdN (Below.refl _ _) _
  have hdd : decide (d = d) = true := by simp
  rw [hdd]
  clear E11 hdd
  generalize w11.drewN q1 = w12 at hb ⊢
  have KW := Lib.hid (KW.out.trans (hb.mono KW.out.size))
  have BE := Lib.hid (BE.out.later hb)
  have B := Lib.hid (B.out.trans (hb.mono B.out.size))
  have M := Lib.hid (M.out.later hb (by have := KS.out; omega) (by have := KS.out; omega))
  have KS := Lib.hid (Nat.le_trans KS.out hb.size)
  have T4 := Lib.hid (T4.out.later hb)
  have D5 := Lib.hid (D5.out.later hb)
  have GR := Lib.hid (GR.out.later hb)
  have TX0 := Lib.hid (TX0.out.later hb)
  have s12 : w7.heap.size ≤ w12.heap.size := KS.out
  clear hb T4
  -- the copies are marked
  go_wp2_with fail
  refine (laws_markRdrNodeS g4 _ t 1 w12 v4.heap.size w4.heap.size M.out hg4 l4 hl HS.out (by omega) (by omega)).mono ?_
  rintro e w13 ⟨⟨k13, rfl, hk0, hk1⟩, in13⟩
  have KW := Lib.hid (KW.out.trans (in13.below (Nat.le_refl _)))
  have BE : Hid (Bk w13 w.heap.size 25 #[.int .i64 x.op, .int .i64 x.var, .int .i64 x.k]) := (in13.block _ (.inl BLT.out)).trans BE.out
  have GR : Hid (Rows ruleC (some w6.heap.size) w13 w13.heap.size AG (rdrAdd t d x a)) := by show Rows _ _ _ _ _ _; rw [in13.size]; exact GR.out.keep fun b hb hl => in13.block b (.inr (by have := hl _ rfl; omega))
  have TX0 := Lib.hid (TX0.out.inside in13 (by omega))
  have D13 : Hid (OwnI w13 w4.heap.size (some ⟨w4.heap.size, 0, none⟩) d) := fun _ => ⟨_, rfl, Nat.le_refl _, D5.out.keep (in13.block _ (.inr (Nat.le_refl _)))⟩
  have s13 := in13.size
  clear in13 M D5
  go_wp2_with fail
  refine (laws_markIntS_own (some ⟨w4.heap.size, 0, none⟩) _ d k13 w13 w4.heap.size (w4.heap.size + 1) D13.out (fun _ g hg => by cases hg; omega) (by omega) (by omega) (by omega)).mono ?_
  rintro e w14 ⟨rfl, _, in14⟩
  have KW := Lib.hid (KW.out.trans (in14.below (by omega)))
  have BE : Hid (Bk w14 w.heap.size 25 #[.int .i64 x.op, .int .i64 x.var, .int .i64 x.k]) := (in14.block _ (.inl (by have := BLT.out; omega))).trans BE.out
  have GR : Hid (Rows ruleC (some w6.heap.size) w14 w14.heap.size AG (rdrAdd t d x a)) := by show Rows _ _ _ _ _ _; rw [in14.size]; exact GR.out.keep fun b hb hl => in14.block b (.inr (by have := hl _ rfl; omega))
  have TX0 := Lib.hid (TX0.out.inside in14 (by omega))
  have s14 := in14.size
  have q14 : ¬ (k13 + (d.length : Int) < 0) := by omega
  clear in14 D13
  go_wp2_with fail
  refine (laws_eqRdrNodeS AG AW cG cW (rdrAdd t d x a) _ _ w14 GR.out ((W0.out.below KW.out).more KW.out.size)).mono ?_
  rintro e w15 ⟨rfl, hb⟩
  have KW := Lib.hid (KW.out.trans (hb.mono KW.out.size))
  have BE := Lib.hid (BE.out.later hb)
  have TX0 := Lib.hid (TX0.out.later hb)
  have s15 := hb.size
  clear hb GR
  -- the answer is marked, and asked for its marks
  go_wp2_with fail
  refine (laws_markRdrNodeX AG cG (rdrAdd t d x a).length bf ff xf w6.heap.size w15 TX0.out INJ.out (by omega) XL.out).mono ?_
  rintro e w16 ⟨rfl, htx, in16⟩
  have TX1 := Lib.hid htx
  have KW := Lib.hid (KW.out.trans (in16.below (by omega)))
  have BE : Hid (Bk w16 w.heap.size 25 #[.int .i64 x.op, .int .i64 x.var, .int .i64 x.k]) := (in16.block _ (.inl (by have := BLT.out; omega))).trans BE.out
  have hcl := cntX_le xf XL.out (rdrAdd t d x a).length
  clear htx in16 TX0
  go_wp2_with fail
  refine (laws_heldRdrNodeX AG cG (rdrAdd t d x a).length bf ff xf w6.heap.size w16 TX1.out (by omega) XL.out).mono ?_
  rintro e w' ⟨rfl, rfl⟩
  obtain ⟨ct, hct⟩ : ∃ ct, ct = cntX xf (rdrAdd t d x a).length := ⟨_, rfl⟩
  rw [← hct] at hcl ⊢
  have HCT := Lib.hid hct.symm
  clear hct
  have q17 : ¬ (1 + (ct : Int) < 0) := by omega
  have q18 : ((1 + (ct : Int)) != (1 + (ct : Int))) = false := by simp
  have B := Lib.hid (WB.out.trans (KW.out.mono WDS.out))
  -- once more
  go_upto_region 30 with fail
  have hdr := (Below.refl w16.heap.size w16).drew
  refine wp_region_held_drew (S := (fun V : World => V.cell? ⟨w.heap.size, 0, none⟩ = some (.int .i64 x.op) ∧ V.cell? ⟨w.heap.size, 1, none⟩ = some (.int .i64 x.var) ∧ V.cell? ⟨w.heap.size, 2, none⟩ = some (.int .i64 x.k))) (by kernel_rfl) ⟨BE.out.cell 0, BE.out.cell 1, BE.out.cell 2⟩ (fun hHeld => ?_)
  generalize w16.drew = v10 at hdr hHeld ⊢
  have BE := Lib.hid (BE.out.later hdr)
  have B := Lib.hid (B.out.trans (hdr.mono B.out.size))
  have KW := Lib.hid (KW.out.trans (hdr.mono KW.out.size))
  have TX1 := Lib.hid (TX1.out.later hdr)
  clear hdr
  refine wpAnyH_take (i := 0) (v := ?_) rfl (by kernel_rfl) (by kernel_rfl) (by kernel_rfl) (fun _ _ _ h => h) (Or.inl ⟨by rfl, ?_⟩) (by assumption) ?_
  rotate_left
  · intro V hSw
    (try dsimp only at hSw)
    go_simp
    (try with_reducible rfl)
  simp only [List.getElem_toArray, List.getElem_cons_succ, List.getElem_cons_zero, Act.put, List.setIfInBounds_toArray, List.set_cons_zero, List.set_cons_succ]
  refine wpAnyH_take (i := 2) (v := ?_) rfl (by kernel_rfl) (by kernel_rfl) (by kernel_rfl) (fun _ _ _ h => h) (Or.inl ⟨by rfl, ?_⟩) (by assumption) ?_
  rotate_left
  · intro V hSw
    (try dsimp only at hSw)
    go_simp
    (try with_reducible rfl)
  simp only [List.getElem_toArray, List.getElem_cons_succ, List.getElem_cons_zero, Act.put, List.setIfInBounds_toArray, List.set_cons_zero, List.set_cons_succ]
  refine wpAnyH_take (i := 4) (v := ?_) rfl (by kernel_rfl) (by kernel_rfl) (by kernel_rfl) (fun _ _ _ h => h) (Or.inl ⟨by rfl, ?_⟩) (by assumption) ?_
  rotate_left
  · intro V hSw
    (try dsimp only at hSw)
    go_simp
    (try with_reducible rfl)
  simp only [List.getElem_toArray, List.getElem_cons_succ, List.getElem_cons_zero, Act.put, List.setIfInBounds_toArray, List.set_cons_zero, List.set_cons_succ]
  refine wpAnyH_take (i := 6) (v := ?_) rfl (by kernel_rfl) (by kernel_rfl) (by kernel_rfl) (fun _ _ _ h => h) (Or.inl ⟨by rfl, ?_⟩) (by assumption) ?_
  rotate_left
  · intro V hSw
    (try dsimp only at hSw)
    go_simp
    (try with_reducible rfl)
  simp only [List.getElem_toArray, List.getElem_cons_succ, List.getElem_cons_zero, Act.put, List.setIfInBounds_toArray, List.set_cons_zero, List.set_cons_succ]
  refine wpAnyH_ready (rs := [1]) (by kernel_rfl) (by simp) ?_
  refine AllReadyH.cons rfl (fun K hK => ?_) AllReadyH.nil
  go_simp
  go_wp2_with (go_at_call 8; refine (toRules A0 c0 t none _ (HT.out.later B.out) hl HS.out).mono ?_; rintro e v6 ⟨gt30, hg30, rfl, hr30, hb⟩)
  have T30 := Lib.hid hr30
  have BE := Lib.hid (BE.out.later hb)
  have B := Lib.hid (B.out.trans (hb.mono B.out.size))
  have KW := Lib.hid (KW.out.trans (hb.mono KW.out.size))
  have TX1 := Lib.hid (TX1.out.later hb)
  clear hb hr30 hg30
  refine hK.out _ _ ⟨BE.out.cell 0, BE.out.cell 1, BE.out.cell 2⟩ (fun hHeld => ?_)
  clear hK K
  refine wpAnyH_ready (rs := [3]) (by kernel_rfl) (by simp) ?_
  refine AllReadyH.cons rfl (fun K hK => ?_) AllReadyH.nil
  go_simp
  go_wp2_with (go_at_call 9; refine (laws_toIntS A1 c1 d v6 w.heap.size B.out.size (HD.out.below B.out) hld).mono ?_; rintro e v7 ⟨rfl, hw, hb⟩)
  have D30 := Lib.hid (hw.ints hw.lt (by omega))
  have T30 := Lib.hid (T30.out.later hb)
  have BE := Lib.hid (BE.out.later hb)
  have B := Lib.hid (B.out.trans (hb.mono B.out.size))
  have KW := Lib.hid (KW.out.trans (hb.mono KW.out.size))
  have TX1 := Lib.hid (TX1.out.later hb)
  clear hb hw
  generalize v6.heap.size = gd30 at D30 ⊢
  refine hK.out _ _ ⟨BE.out.cell 0, BE.out.cell 1, BE.out.cell 2⟩ (fun hHeld => ?_)
  clear hK K
  refine wpAnyH_ready (rs := [5]) (by kernel_rfl) (by simp) ?_
  refine AllReadyH.cons rfl (fun K hK => ?_) AllReadyH.nil
  go_simp
  go_wp2_with (go_at_call 10; refine (laws_toExpAsk x v7).mono ?_; rintro e v8 ⟨rfl, hb⟩)
  have D30 := Lib.hid (D30.out.later hb)
  have T30 := Lib.hid (T30.out.later hb)
  have BE := Lib.hid (BE.out.later hb)
  have B := Lib.hid (B.out.trans (hb.mono B.out.size))
  have KW := Lib.hid (KW.out.trans (hb.mono KW.out.size))
  have TX1 := Lib.hid (TX1.out.later hb)
  clear hb
  refine hK.out _ _ ⟨BE.out.cell 0, BE.out.cell 1, BE.out.cell 2⟩ (fun hHeld => ?_)
  clear hK K
  refine wpAnyH_ready (rs := [7]) (by kernel_rfl) (by simp) ?_
  refine AllReadyH.cons rfl (fun K hK => ?_) AllReadyH.nil
  go_simp
  go_wp2_with (go_at_call 11; refine (impl_RdrAddX _ _ _ _ t d x a _ _ T30.out D30.out hl HS.out hld).mono ?_; rintro e v9 ⟨v1, tz2, rfl, hz, how, hbk, hb⟩; have hoc := ownX_own how (fun p hp => RSB.out p.1 (by rw [← hz]; exact List.mem_map_of_mem hp)); rw [hz] at hoc; obtain ⟨AH, cH, rfl, hrw⟩ := hoc.rows (by have := RL.out; omega))
  try rw [hcb]
  have H0 := Lib.hid hrw
  clear how hrw hbk hz hoc
  have BE := Lib.hid (BE.out.later hb)
  have B := Lib.hid (B.out.trans (hb.mono B.out.size))
  have KW := Lib.hid (KW.out.trans (hb.mono KW.out.size))
  have TX1 := Lib.hid (TX1.out.later hb)
  clear hb T30 D30
  refine hK.out _ _ ⟨BE.out.cell 0, BE.out.cell 1, BE.out.cell 2⟩ (fun hHeld => ?_)
  clear hK K
  refine wpAnyH_take (i := 8) (v := ?_) rfl (by kernel_rfl) (by kernel_rfl) (by kernel_rfl) (fun _ _ _ h => h) (Or.inl ⟨by rfl, ?_⟩) (by assumption) ?_
  rotate_left
  · intro V hSw
    (try dsimp only at hSw)
    go_simp
    (try with_reducible rfl)
  simp only [List.getElem_toArray, List.getElem_cons_succ, List.getElem_cons_zero, Act.put, List.setIfInBounds_toArray, List.set_cons_zero, List.set_cons_succ]
  refine wpAnyH_take (i := 9) (v := ?_) rfl (by kernel_rfl) (by kernel_rfl) (by kernel_rfl) (fun _ _ _ h => h) (Or.inl ⟨by rfl, ?_⟩) (by assumption) ?_
  rotate_left
  · intro V hSw
    (try dsimp only at hSw)
    go_simp
    (try with_reducible rfl)
  simp only [List.getElem_toArray, List.getElem_cons_succ, List.getElem_cons_zero, Act.put, List.setIfInBounds_toArray, List.set_cons_zero, List.set_cons_succ]
  refine wpAnyH_take (i := 10) (v := ?_) rfl (by kernel_rfl) (by kernel_rfl) (by kernel_rfl) (fun _ _ _ h => h) (Or.inl ⟨by rfl, ?_⟩) (by assumption) ?_
  rotate_left
  · intro V hSw
    (try dsimp only at hSw)
    go_simp
    (try with_reducible rfl)
  simp only [List.getElem_toArray, List.getElem_cons_succ, List.getElem_cons_zero, Act.put, List.setIfInBounds_toArray, List.set_cons_zero, List.set_cons_succ]
  refine wpAnyH_take (i := 11) (v := ?_) rfl (by kernel_rfl) (by kernel_rfl) (by kernel_rfl) (fun _ _ _ h => h) (Or.inl ⟨by rfl, ?_⟩) (by assumption) ?_
  rotate_left
  · intro V hSw
    (try dsimp only at hSw)
    go_simp
    (try with_reducible rfl)
  simp only [List.getElem_toArray, List.getElem_cons_succ, List.getElem_cons_zero, Act.put, List.setIfInBounds_toArray, List.set_cons_zero, List.set_cons_succ]
  refine wpAnyH_take (i := 12) (v := ?_) rfl (by kernel_rfl) (by kernel_rfl) (by kernel_rfl) (fun _ _ _ h => h) (Or.inl ⟨by rfl, ?_⟩) (by assumption) ?_
  rotate_left
  · intro V hSw
    (try dsimp only at hSw)
    go_simp
    (try with_reducible rfl)
  simp only [List.getElem_toArray, List.getElem_cons_succ, List.getElem_cons_zero, Act.put, List.setIfInBounds_toArray, List.set_cons_zero, List.set_cons_succ]
  refine wpAnyH_done (by kernel_rfl) ?_ _
  clear hHeld
  go_wp2_with fail
  refine (laws_eqRdrNodeS AH AW cH cW (rdrAdd t d x a) _ _ _ H0.out ((W0.out.below KW.out).more KW.out.size)).mono ?_
  rintro e w19 ⟨rfl, hb⟩
  have TX1 := Lib.hid (TX1.out.later hb)
  have B := Lib.hid (B.out.trans (hb.mono B.out.size))
  clear hb
  go_wp2_with fail
  refine (laws_heldRdrNodeX AG cG (rdrAdd t d x a).length bf ff xf w6.heap.size w19 TX1.out (by omega) XL.out).mono ?_
  rintro e w' ⟨rfl, rfl⟩
  rw [HCT.out]
  go_wp2
  go_ret
  exact ⟨rfl, B.out⟩
end Go.Proofs.Ytjieilicjdoaaaa
