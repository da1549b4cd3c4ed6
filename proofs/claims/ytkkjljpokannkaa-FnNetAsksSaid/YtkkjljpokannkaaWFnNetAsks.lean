/- The walk of FnNetAsks: it returns true. -/
import Derived.Test.YtkkjljpokannkaaDrawSnd
import Derived.Test.YtkkjljpokannkaaAsksL
import Derived.Test.YtkkjljpokannkaaSortL
import Derived.Test.YtkkjljpokannkaaDat
import Derived.Deep.RegionHeld3
namespace Go.Proofs.Ytkkjljpokannkaa
open Go.RowKit
set_option linter.unusedSimpArgs false
set_option linter.unusedVariables false

set_option maxRecDepth 100000 in
set_option maxHeartbeats 4000000 in
theorem walk_FnNetAsks_of (HS : SortLaw) (HCL : CompactLaw) (A : Option Addr) (c : Nat) (xs : List Int) (w : World) (h : Code w w.heap.size A c xs) :
    Calls Try.prog 12 #[.slice A xs.length c] w fun e w' => e = .returned (.bool true) ∧ Below w.heap.size w w' := by
  have hlen := h.1.1
  have HC := Lib.hid h
  have HSH := Lib.hid HS
  have HCH := Lib.hid HCL
  clear h HS HCL
  by_cases hl : 1048576 < xs.length
  · have hlz : (1048576 : Int) < (xs.length : Int) := by omega
    go_enter Try.func12, Try.ntmps12
    go_wp2
    go_ret
    exact ⟨rfl, Below.refl _ _⟩
  have hlz : ¬ (1048576 : Int) < (xs.length : Int) := by omega
  go_enter Try.func12, Try.ntmps12
  go_wp2_with fail
  refine (spec_DrawNetAsks A c xs w HC.out).mono ?_
  rintro e w1 ⟨x, g, c0, rfl, hrow, hok, hb⟩
  have X := Lib.hid hrow
  have B := Lib.hid hb
  have hx6 := hok.2.1
  clear hrow hok hb
  go_wp2_with fail
  refine callsAt fun V hV => ?_
  have N : Hid (Bk V w1.heap.size 37 #[.int .i64 x.places, .slice (some ⟨g, 0, none⟩) x.tasks.length c0]) := by show Bk _ _ _ _; rw [hV]; exact Bk.new rfl
  have hb : Below w1.heap.size w1 V := by rw [hV]; exact (Below.refl _ _).alloc (Nat.le_refl _) _
  have X := Lib.hid (X.out.later hb)
  have B := Lib.hid (B.out.trans (hb.mono B.out.size))
  clear hV hb
  refine (impl_NetAsks HSH.out HCH.out x (some ⟨g, 0, none⟩) c0 none V X.out).mono ?_
  rintro e w2 ⟨G0, cg, rfl, og, hb⟩
  have N := Lib.hid (N.out.later hb)
  have X := Lib.hid (X.out.later hb)
  have B := Lib.hid (B.out.trans (hb.mono B.out.size))
  have hfl : (asksOf x).length ≤ 3 := by unfold asksOf; split; exact personsTo_len _ _; simp
  have G := Lib.hid (og.ints (by omega))
  clear hb og HSH HCH
  have kN := fun i => N.out.cell i
  go_wp2_with fail
  clear kN
  refine (spec_NetAsks x (some ⟨g, 0, none⟩) c0 none w2 X.out).mono ?_
  rintro e w3 ⟨v3, rfl, hv3, hb⟩
  obtain ⟨G', cg', rfl, og⟩ := OwnI.of_v hv3
  have N := Lib.hid (N.out.later hb)
  have X := Lib.hid (X.out.later hb)
  have B := Lib.hid (B.out.trans (hb.mono B.out.size))
  have G := Lib.hid (G.out.later hb)
  have H3 := Lib.hid (og.ints (by omega))
  clear hb hv3 og
  go_wp2_with fail
  refine (laws_guInts _ _ _ _ (asksOf x) (asksOf x) w3 w3.heap.size G.out H3.out).mono ?_
  rintro e _ ⟨rfl, q1, rfl⟩
  have hd1 : decide (asksOf x = asksOf x) = true := by simp
  rw [hd1]
  clear hd1 H3
  have hb : Below w3.heap.size w3 (w3.drewN q1) := bdN (Below.refl _ _) _
  generalize w3.drewN q1 = w4 at hb ⊢
  have N := Lib.hid (N.out.later hb)
  have X := Lib.hid (X.out.later hb)
  have B := Lib.hid (B.out.trans (hb.mono B.out.size))
  have G := Lib.hid (G.out.later hb)
  clear hb
  have kN := fun i => N.out.cell i
  go_wp2_with fail
  clear kN
  refine (spec_NetOk x _ _ _ ⟨_, c0, rfl, X.out⟩).mono ?_
  rintro e w5 ⟨rfl, hb⟩
  have N := Lib.hid (N.out.later hb)
  have X := Lib.hid (X.out.later hb)
  have B := Lib.hid (B.out.trans (hb.mono B.out.size))
  have G := Lib.hid (G.out.later hb)
  clear hb
  cases hnk : netOk x with
  | false =>
    have hF0 : asksOf x = [] := by rw [asksOf, hnk]; rfl
    clear hnk
    rw [hF0]
    go_wp2_with (go_at_call 22; refine (laws_guOk _).mono ?_; rintro e w10 ⟨rfl, hb⟩; have B := Lib.hid (B.out.trans (hb.mono B.out.size)); clear hb)
    go_ret
    exact ⟨rfl, B.out⟩
  | true =>
  have HL := asks_len hnk
  have HP := asks_pos hnk
  have HUP := Lib.hid (asks_up hnk)
  have HIN := Lib.hid (asks_in (x := x))
  have HHAS := Lib.hid (asks_has hnk)
  clear hnk
  generalize asksOf x = F at G HL HP HUP HIN HHAS hfl
  go_wp2
  go_loopg [5] x.tasks.length (fun gg s5 wr => ∃ k : Nat, k ≤ x.tasks.length ∧ x.tasks.length - k ≤ gg ∧ s5 = .int .i64 k ∧ Aside (w5 = wr))
  case atStart => exact ⟨0, Nat.zero_le _, by omega, rfl, rfl⟩
  case round =>
    obtain ⟨k, hk, hg, rfl, EW⟩ := hrel
    obtain rfl := EW.out
    have kN := fun i => N.out.cell i
    by_cases hlt : k < x.tasks.length
    · have hltz : (k : Int) < (x.tasks.length : Int) := by omega
      obtain ⟨b, off, C1, e1, C2, e2, C3, e3, hA, _, _, _, _, _, _, _, t5, _, _, _⟩ := task_at X.out hlt
      cases hA
      simp only [Nat.zero_add] at t5
      have HK := Lib.hid (HHAS.out k hlt)
      generalize x.tasks[k].role = ro at t5 HK
      go_wp2_with fail
      refine (laws_guHas G0 cg F ro _ _ G.out).mono ?_
      rintro e w' ⟨rfl, rfl⟩
      rw [HK.out]
      go_wp2
      go_roundg (x.tasks.length - (k + 1))
      case measure => omega
      case rel => exact ⟨k + 1, by omega, by omega, by go_num, rfl⟩
    · have hltz : ¬ (k : Int) < (x.tasks.length : Int) := by omega
      go_wp2
      clear kN
      go_loopg [6] F.length (fun gg s6 wr => ∃ i : Nat, i ≤ F.length ∧ F.length - i ≤ gg ∧ s6 = .int .i64 i ∧ Aside (Below w5.heap.size w5 wr))
      case atStart => exact ⟨0, Nat.zero_le _, by omega, rfl, Below.refl _ _⟩
      case round =>
        obtain ⟨i, hi, hgi, rfl, EV⟩ := hrel
        by_cases hil : i < F.length
        · have hilz : (i : Int) < (F.length : Int) := by omega
          obtain ⟨b, off, rfl, hbl, hc⟩ := (G.out.later EV.out).at_ hil
          have hin := HIN.out _ (List.getElem_mem hil)
          by_cases hi0 : 0 < i
          · have hi1 : i - 1 < F.length := by omega
            obtain ⟨b1, off1, hA1, hb1, hcp⟩ := (G.out.later EV.out).at_ hi1
            cases hA1
            have hup := List.pairwise_iff_getElem.1 HUP.out (i - 1) i hi1 hil (by omega)
            have hup2 : decide (F[i] ≤ F[i - 1]) = false := by simp; omega
            have hiz : (0 : Int) < (i : Int) := by omega
            obtain ⟨j, hj⟩ : ∃ j, j = i - 1 := ⟨_, rfl⟩
            generalize F[i] = zr at hc hin hup hup2
            generalize F[i - 1] = zp at hcp hup hup2
            rw [← hj] at hcp
            have hwr : IntKind.i64.wrap ((i : Int) - 1) = (j : Int) := by rw [IntKind.wrap_i64]; omega
            have hjz0 : (0 : Int) ≤ (j : Int) := by omega
            have hjz1 : (j : Int) < (F.length : Int) := by omega
            clear hup hj
            go_wp2
            have hbd : Below wr.heap.size wr wr.drew := (Below.refl _ _).drew
            refine wp_region_held_drew (S := (fun V : World => V.cell? ⟨b, off + j, none⟩ = some (.int .i64 zp) ∧ V.cell? ⟨b, off + i, none⟩ = some (.int .i64 zr))) (by kernel_rfl) ⟨hcp, hc⟩ (fun hHeld => ?_)
            have EV := Lib.hid (EV.out.trans (hbd.mono EV.out.size))
            have HCC : Hid (wr.drew.cell? ⟨b, off + j, none⟩ = some (.int .i64 zp) ∧ wr.drew.cell? ⟨b, off + i, none⟩ = some (.int .i64 zr)) := ⟨hcp, hc⟩
            have EV0 : Hid (b < wr.drew.heap.size) := hbl
            generalize wr.drew = wd at EV hHeld HCC EV0 ⊢
            clear hbd hbl
            refine wpAnyH_take (i := 0) (v := ?_) rfl (by kernel_rfl) (by kernel_rfl) (by kernel_rfl) (fun _ _ _ h => h) (Or.inl ⟨by rfl, ?_⟩) (by assumption) ?_
            rotate_left
            · intro V hSw
              (try dsimp only at hSw)
              go_simp
              (try with_reducible rfl)
            simp only [List.getElem_toArray, List.getElem_cons_succ, List.getElem_cons_zero, Act.put, List.setIfInBounds_toArray, List.set_cons_zero, List.set_cons_succ]
            refine wpAnyH_take (i := 1) (v := ?_) rfl (by kernel_rfl) (by kernel_rfl) (by kernel_rfl) (fun _ _ _ h => h) (Or.inl ⟨by rfl, ?_⟩) (by assumption) ?_
            rotate_left
            · intro V hSw
              (try dsimp only at hSw)
              go_simp
              (try with_reducible rfl)
            simp only [List.getElem_toArray, List.getElem_cons_succ, List.getElem_cons_zero, Act.put, List.setIfInBounds_toArray, List.set_cons_zero, List.set_cons_succ]
            refine wpAnyH_take (i := 2) (v := ?_) rfl (by kernel_rfl) (by kernel_rfl) (by kernel_rfl) (fun _ _ _ h => h) (Or.inl ⟨by rfl, ?_⟩) (by assumption) ?_
            rotate_left
            · intro V hSw
              (try dsimp only at hSw)
              go_simp
              (try with_reducible rfl)
            simp only [List.getElem_toArray, List.getElem_cons_succ, List.getElem_cons_zero, Act.put, List.setIfInBounds_toArray, List.set_cons_zero, List.set_cons_succ]
            refine wpAnyH_take (i := 3) (v := ?_) rfl (by kernel_rfl) (by kernel_rfl) (by kernel_rfl) (fun _ _ _ h => h) (Or.inl ⟨by rfl, ?_⟩) (by assumption) ?_
            rotate_left
            · intro V hSw
              (try dsimp only at hSw)
              go_simp
              (try with_reducible rfl)
            simp only [List.getElem_toArray, List.getElem_cons_succ, List.getElem_cons_zero, Act.put, List.setIfInBounds_toArray, List.set_cons_zero, List.set_cons_succ]
            refine wpAnyH_take (i := 4) (v := ?_) rfl (by kernel_rfl) (by kernel_rfl) (by kernel_rfl) (fun _ _ _ h => h) (Or.inl ⟨by rfl, ?_⟩) (by assumption) ?_
            rotate_left
            · intro V hSw
              (try dsimp only at hSw)
              go_simp
              (try with_reducible rfl)
            simp only [List.getElem_toArray, List.getElem_cons_succ, List.getElem_cons_zero, Act.put, List.setIfInBounds_toArray, List.set_cons_zero, List.set_cons_succ]
            refine wpAnyH_take (i := 5) (v := ?_) rfl (by kernel_rfl) (by kernel_rfl) (by kernel_rfl) (fun _ _ _ h => h) (Or.inl ⟨by rfl, ?_⟩) (by assumption) ?_
            rotate_left
            · intro V hSw
              (try dsimp only at hSw)
              go_simp
              (try with_reducible rfl)
            simp only [List.getElem_toArray, List.getElem_cons_succ, List.getElem_cons_zero, Act.put, List.setIfInBounds_toArray, List.set_cons_zero, List.set_cons_succ]
            refine wpAnyH_take (i := 6) (v := ?_) rfl (by kernel_rfl) (by kernel_rfl) (by kernel_rfl) (fun _ _ _ h => h) (Or.inl ⟨by rfl, ?_⟩) (by assumption) ?_
            rotate_left
            · intro V hSw
              (try dsimp only at hSw)
              go_simp
              (try with_reducible rfl)
            simp only [List.getElem_toArray, List.getElem_cons_succ, List.getElem_cons_zero, Act.put, List.setIfInBounds_toArray, List.set_cons_zero, List.set_cons_succ]
            refine wpAnyH_take (i := 7) (v := ?_) rfl (by kernel_rfl) (by kernel_rfl) (by kernel_rfl) (fun _ _ _ h => h) (Or.inl ⟨by rfl, ?_⟩) (by assumption) ?_
            rotate_left
            · intro V hSw
              (try dsimp only at hSw)
              go_simp
              (try with_reducible rfl)
            simp only [List.getElem_toArray, List.getElem_cons_succ, List.getElem_cons_zero, Act.put, List.setIfInBounds_toArray, List.set_cons_zero, List.set_cons_succ]
            refine wpAnyH_take (i := 8) (v := ?_) rfl (by kernel_rfl) (by kernel_rfl) (by kernel_rfl) (fun _ _ _ h => h) (Or.inl ⟨by rfl, ?_⟩) (by assumption) ?_
            rotate_left
            · intro V hSw
              (try dsimp only at hSw)
              go_simp
              (try with_reducible rfl)
            simp only [List.getElem_toArray, List.getElem_cons_succ, List.getElem_cons_zero, Act.put, List.setIfInBounds_toArray, List.set_cons_zero, List.set_cons_succ]
            refine wpAnyH_take (i := 9) (v := ?_) rfl (by kernel_rfl) (by kernel_rfl) (by kernel_rfl) (fun _ _ _ h => h) (Or.inl ⟨by rfl, ?_⟩) (by assumption) ?_
            rotate_left
            · intro V hSw
              (try dsimp only at hSw)
              go_simp
              (try with_reducible rfl)
            simp only [List.getElem_toArray, List.getElem_cons_succ, List.getElem_cons_zero, Act.put, List.setIfInBounds_toArray, List.set_cons_zero, List.set_cons_succ]
            refine wpAnyH_take (i := 10) (v := ?_) rfl (by kernel_rfl) (by kernel_rfl) (by kernel_rfl) (fun _ _ _ h => h) (Or.inl ⟨by rfl, ?_⟩) (by assumption) ?_
            rotate_left
            · intro V hSw
              (try dsimp only at hSw)
              go_simp
              (try with_reducible rfl)
            simp only [List.getElem_toArray, List.getElem_cons_succ, List.getElem_cons_zero, Act.put, List.setIfInBounds_toArray, List.set_cons_zero, List.set_cons_succ]
            refine wpAnyH_take (i := 11) (v := ?_) rfl (by kernel_rfl) (by kernel_rfl) (by kernel_rfl) (fun _ _ _ h => h) (Or.inl ⟨by rfl, ?_⟩) (by assumption) ?_
            rotate_left
            · intro V hSw
              (try dsimp only at hSw)
              go_simp
              (try with_reducible rfl)
            simp only [List.getElem_toArray, List.getElem_cons_succ, List.getElem_cons_zero, Act.put, List.setIfInBounds_toArray, List.set_cons_zero, List.set_cons_succ]
            refine wpAnyH_take (i := 12) (v := ?_) rfl (by kernel_rfl) (by kernel_rfl) (by kernel_rfl) (fun _ _ _ h => h) (Or.inl ⟨by rfl, ?_⟩) (by assumption) ?_
            rotate_left
            · intro V hSw
              (try dsimp only at hSw)
              go_simp
              (try with_reducible rfl)
            simp only [List.getElem_toArray, List.getElem_cons_succ, List.getElem_cons_zero, Act.put, List.setIfInBounds_toArray, List.set_cons_zero, List.set_cons_succ]
            refine wpAnyH_take (i := 13) (v := ?_) rfl (by kernel_rfl) (by kernel_rfl) (by kernel_rfl) (fun _ _ _ h => h) (Or.inl ⟨by rfl, ?_⟩) (by assumption) ?_
            rotate_left
            · intro V hSw
              (try dsimp only at hSw)
              go_simp
              (try with_reducible rfl)
            simp only [List.getElem_toArray, List.getElem_cons_succ, List.getElem_cons_zero, Act.put, List.setIfInBounds_toArray, List.set_cons_zero, List.set_cons_succ]
            refine wpAnyH_take (i := 14) (v := ?_) rfl (by kernel_rfl) (by kernel_rfl) (by kernel_rfl) (fun _ _ _ h => h) (Or.inl ⟨by rfl, ?_⟩) (by assumption) ?_
            rotate_left
            · intro V hSw
              (try dsimp only at hSw)
              go_simp
              (try with_reducible rfl)
            simp only [List.getElem_toArray, List.getElem_cons_succ, List.getElem_cons_zero, Act.put, List.setIfInBounds_toArray, List.set_cons_zero, List.set_cons_succ]
            refine wpAnyH_take (i := 16) (v := ?_) rfl (by kernel_rfl) (by kernel_rfl) (by kernel_rfl) (fun _ _ _ h => h) (Or.inl ⟨by rfl, ?_⟩) (by assumption) ?_
            rotate_left
            · intro V hSw
              (try dsimp only at hSw)
              go_simp
              (try with_reducible rfl)
            simp only [List.getElem_toArray, List.getElem_cons_succ, List.getElem_cons_zero, Act.put, List.setIfInBounds_toArray, List.set_cons_zero, List.set_cons_succ]
            refine wpAnyH_take (i := 17) (v := ?_) rfl (by kernel_rfl) (by kernel_rfl) (by kernel_rfl) (fun _ _ _ h => h) (Or.inl ⟨by rfl, ?_⟩) (by assumption) ?_
            rotate_left
            · intro V hSw
              (try dsimp only at hSw)
              go_simp
              (try with_reducible rfl)
            simp only [List.getElem_toArray, List.getElem_cons_succ, List.getElem_cons_zero, Act.put, List.setIfInBounds_toArray, List.set_cons_zero, List.set_cons_succ]
            refine wpAnyH_take (i := 18) (v := ?_) rfl (by kernel_rfl) (by kernel_rfl) (by kernel_rfl) (fun _ _ _ h => h) (Or.inl ⟨by rfl, ?_⟩) (by assumption) ?_
            rotate_left
            · intro V hSw
              (try dsimp only at hSw)
              go_simp
              (try with_reducible rfl)
            simp only [List.getElem_toArray, List.getElem_cons_succ, List.getElem_cons_zero, Act.put, List.setIfInBounds_toArray, List.set_cons_zero, List.set_cons_succ]
            refine wpAnyH_take (i := 19) (v := ?_) rfl (by kernel_rfl) (by kernel_rfl) (by kernel_rfl) (fun _ _ _ h => h) (Or.inl ⟨by rfl, ?_⟩) (by assumption) ?_
            rotate_left
            · intro V hSw
              (try dsimp only at hSw)
              go_simp
              (try with_reducible rfl)
            simp only [List.getElem_toArray, List.getElem_cons_succ, List.getElem_cons_zero, Act.put, List.setIfInBounds_toArray, List.set_cons_zero, List.set_cons_succ]
            refine wpAnyH_ready (rs := [15]) (by kernel_rfl) (by simp) ?_
            refine AllReadyH.cons rfl (fun K hK => ?_) AllReadyH.nil
            go_simp
            obtain ⟨w6, hV⟩ : ∃ V, V = World.alloc wd (.cells #[.int .i64 7] 3) := ⟨_, rfl⟩
            have hb : Below wd.heap.size wd w6 := by rw [hV]; exact (Below.refl _ _).alloc (Nat.le_refl _) _
            have L7 : Hid (Wr w6 wd.heap.size 3 (iv [7])) := by show Wr _ _ _ _; rw [hV]; exact Wr.new wd 3 #[.int .i64 7]
            rw [← hV]
            have EV := Lib.hid (EV.out.trans (hb.mono EV.out.size))
            have HCC : Hid (w6.cell? ⟨b, off + j, none⟩ = some (.int .i64 zp) ∧ w6.cell? ⟨b, off + i, none⟩ = some (.int .i64 zr)) := ⟨(hb.cell (p := ⟨b, off + j, none⟩) EV0.out).trans HCC.out.1, (hb.cell (p := ⟨b, off + i, none⟩) EV0.out).trans HCC.out.2⟩
            have EV0 := Lib.hid (Nat.lt_of_lt_of_le EV0.out hb.size)
            clear hV hb
            refine hK.out _ _ HCC.out (fun hHeld => ?_)
            clear hK K
            refine wpAnyH_ready (rs := [20]) (by kernel_rfl) (by simp) ?_
            refine AllReadyH.cons rfl (fun K hK => ?_) AllReadyH.nil
            go_simp
            go_wp2_with (go_at_call 52; refine (impl_PplHas (some ⟨wd.heap.size, 0, none⟩) 1 [7] 1 zr w6 (L7.out.ints L7.out.lt (by simp))).mono ?_; rintro e w7 ⟨rfl, hb⟩; rw [has7 zr hin.1 hin.2])
            have EV := Lib.hid (EV.out.trans (hb.mono EV.out.size))
            have HCC : Hid (w7.cell? ⟨b, off + j, none⟩ = some (.int .i64 zp) ∧ w7.cell? ⟨b, off + i, none⟩ = some (.int .i64 zr)) := ⟨(hb.cell (p := ⟨b, off + j, none⟩) EV0.out).trans HCC.out.1, (hb.cell (p := ⟨b, off + i, none⟩) EV0.out).trans HCC.out.2⟩
            have EV0 := Lib.hid (Nat.lt_of_lt_of_le EV0.out hb.size)
            clear hb
            refine hK.out _ _ HCC.out (fun hHeld => ?_)
            clear hK K
            refine wpAnyH_take (i := 21) (v := ?_) rfl (by kernel_rfl) (by kernel_rfl) (by kernel_rfl) (fun _ _ _ h => h) (Or.inl ⟨by rfl, ?_⟩) (by assumption) ?_
            rotate_left
            · intro V hSw
              (try dsimp only at hSw)
              go_simp
              (try with_reducible rfl)
            simp only [List.getElem_toArray, List.getElem_cons_succ, List.getElem_cons_zero, Act.put, List.setIfInBounds_toArray, List.set_cons_zero, List.set_cons_succ]
            refine wpAnyH_take (i := 22) (v := ?_) rfl (by kernel_rfl) (by kernel_rfl) (by kernel_rfl) (fun _ _ _ h => h) (Or.inl ⟨by rfl, ?_⟩) (by assumption) ?_
            rotate_left
            · intro V hSw
              (try dsimp only at hSw)
              go_simp
              (try with_reducible rfl)
            simp only [List.getElem_toArray, List.getElem_cons_succ, List.getElem_cons_zero, Act.put, List.setIfInBounds_toArray, List.set_cons_zero, List.set_cons_succ]
            refine wpAnyH_done (by kernel_rfl) ?_ _
            clear hHeld
            go_wp2
            go_roundg (F.length - (i + 1))
            case measure => omega
            case rel => exact ⟨i + 1, by omega, by omega, by go_num, EV.out⟩
          · have hi00 : i = 0 := by omega
            subst hi00
            have hiz : ¬ (0 : Int) < ((0 : Nat) : Int) := by omega
            generalize F[0] = zr at hc hin
            rw [Nat.add_zero] at hc
            go_wp2
            have hbd : Below wr.heap.size wr wr.drew := (Below.refl _ _).drew
            refine wp_region_held_drew (S := (fun V : World => V.cell? ⟨b, off, none⟩ = some (.int .i64 zr))) (by kernel_rfl) hc (fun hHeld => ?_)
            have EV := Lib.hid (EV.out.trans (hbd.mono EV.out.size))
            have HCC : Hid (wr.drew.cell? ⟨b, off, none⟩ = some (.int .i64 zr)) := hc
            have EV0 : Hid (b < wr.drew.heap.size) := hbl
            generalize wr.drew = wd at EV hHeld HCC EV0 ⊢
            clear hbd hbl
            refine wpAnyH_take (i := 0) (v := ?_) rfl (by kernel_rfl) (by kernel_rfl) (by kernel_rfl) (fun _ _ _ h => h) (Or.inl ⟨by rfl, ?_⟩) (by assumption) ?_
            rotate_left
            · intro V hSw
              (try dsimp only at hSw)
              go_simp
              (try with_reducible rfl)
            simp only [List.getElem_toArray, List.getElem_cons_succ, List.getElem_cons_zero, Act.put, List.setIfInBounds_toArray, List.set_cons_zero, List.set_cons_succ]
            refine wpAnyH_take (i := 1) (v := ?_) rfl (by kernel_rfl) (by kernel_rfl) (by kernel_rfl) (fun _ _ _ h => h) (Or.inl ⟨by rfl, ?_⟩) (by assumption) ?_
            rotate_left
            · intro V hSw
              (try dsimp only at hSw)
              go_simp
              (try with_reducible rfl)
            simp only [List.getElem_toArray, List.getElem_cons_succ, List.getElem_cons_zero, Act.put, List.setIfInBounds_toArray, List.set_cons_zero, List.set_cons_succ]
            refine wpAnyH_take (i := 2) (v := ?_) rfl (by kernel_rfl) (by kernel_rfl) (by kernel_rfl) (fun _ _ _ h => h) (Or.inl ⟨by rfl, ?_⟩) (by assumption) ?_
            rotate_left
            · intro V hSw
              (try dsimp only at hSw)
              go_simp
              (try with_reducible rfl)
            simp only [List.getElem_toArray, List.getElem_cons_succ, List.getElem_cons_zero, Act.put, List.setIfInBounds_toArray, List.set_cons_zero, List.set_cons_succ]
            refine wpAnyH_take (i := 3) (v := undef) rfl (by kernel_rfl) (by kernel_rfl) (by kernel_rfl) (fun _ _ _ h => h) (Or.inr ⟨by rfl, rfl⟩) (by assumption) ?_
            simp only [List.getElem_toArray, List.getElem_cons_succ, List.getElem_cons_zero, Act.put, List.setIfInBounds_toArray, List.set_cons_zero, List.set_cons_succ]
            refine wpAnyH_take (i := 4) (v := undef) rfl (by kernel_rfl) (by kernel_rfl) (by kernel_rfl) (fun _ _ _ h => h) (Or.inr ⟨by rfl, rfl⟩) (by assumption) ?_
            simp only [List.getElem_toArray, List.getElem_cons_succ, List.getElem_cons_zero, Act.put, List.setIfInBounds_toArray, List.set_cons_zero, List.set_cons_succ]
            refine wpAnyH_take (i := 5) (v := undef) rfl (by kernel_rfl) (by kernel_rfl) (by kernel_rfl) (fun _ _ _ h => h) (Or.inr ⟨by rfl, rfl⟩) (by assumption) ?_
            simp only [List.getElem_toArray, List.getElem_cons_succ, List.getElem_cons_zero, Act.put, List.setIfInBounds_toArray, List.set_cons_zero, List.set_cons_succ]
            refine wpAnyH_take (i := 6) (v := undef) rfl (by kernel_rfl) (by kernel_rfl) (by kernel_rfl) (fun _ _ _ h => h) (Or.inr ⟨by rfl, rfl⟩) (by assumption) ?_
            simp only [List.getElem_toArray, List.getElem_cons_succ, List.getElem_cons_zero, Act.put, List.setIfInBounds_toArray, List.set_cons_zero, List.set_cons_succ]
            refine wpAnyH_take (i := 7) (v := undef) rfl (by kernel_rfl) (by kernel_rfl) (by kernel_rfl) (fun _ _ _ h => h) (Or.inr ⟨by rfl, rfl⟩) (by assumption) ?_
            simp only [List.getElem_toArray, List.getElem_cons_succ, List.getElem_cons_zero, Act.put, List.setIfInBounds_toArray, List.set_cons_zero, List.set_cons_succ]
            refine wpAnyH_take (i := 8) (v := undef) rfl (by kernel_rfl) (by kernel_rfl) (by kernel_rfl) (fun _ _ _ h => h) (Or.inr ⟨by rfl, rfl⟩) (by assumption) ?_
            simp only [List.getElem_toArray, List.getElem_cons_succ, List.getElem_cons_zero, Act.put, List.setIfInBounds_toArray, List.set_cons_zero, List.set_cons_succ]
            refine wpAnyH_take (i := 9) (v := undef) rfl (by kernel_rfl) (by kernel_rfl) (by kernel_rfl) (fun _ _ _ h => h) (Or.inr ⟨by rfl, rfl⟩) (by assumption) ?_
            simp only [List.getElem_toArray, List.getElem_cons_succ, List.getElem_cons_zero, Act.put, List.setIfInBounds_toArray, List.set_cons_zero, List.set_cons_succ]
            refine wpAnyH_take (i := 10) (v := undef) rfl (by kernel_rfl) (by kernel_rfl) (by kernel_rfl) (fun _ _ _ h => h) (Or.inr ⟨by rfl, rfl⟩) (by assumption) ?_
            simp only [List.getElem_toArray, List.getElem_cons_succ, List.getElem_cons_zero, Act.put, List.setIfInBounds_toArray, List.set_cons_zero, List.set_cons_succ]
            refine wpAnyH_take (i := 11) (v := undef) rfl (by kernel_rfl) (by kernel_rfl) (by kernel_rfl) (fun _ _ _ h => h) (Or.inr ⟨by rfl, rfl⟩) (by assumption) ?_
            simp only [List.getElem_toArray, List.getElem_cons_succ, List.getElem_cons_zero, Act.put, List.setIfInBounds_toArray, List.set_cons_zero, List.set_cons_succ]
            refine wpAnyH_take (i := 12) (v := undef) rfl (by kernel_rfl) (by kernel_rfl) (by kernel_rfl) (fun _ _ _ h => h) (Or.inr ⟨by rfl, rfl⟩) (by assumption) ?_
            simp only [List.getElem_toArray, List.getElem_cons_succ, List.getElem_cons_zero, Act.put, List.setIfInBounds_toArray, List.set_cons_zero, List.set_cons_succ]
            refine wpAnyH_take (i := 13) (v := ?_) rfl (by kernel_rfl) (by kernel_rfl) (by kernel_rfl) (fun _ _ _ h => h) (Or.inl ⟨by rfl, ?_⟩) (by assumption) ?_
            rotate_left
            · intro V hSw
              (try dsimp only at hSw)
              go_simp
              (try with_reducible rfl)
            simp only [List.getElem_toArray, List.getElem_cons_succ, List.getElem_cons_zero, Act.put, List.setIfInBounds_toArray, List.set_cons_zero, List.set_cons_succ]
            refine wpAnyH_take (i := 14) (v := ?_) rfl (by kernel_rfl) (by kernel_rfl) (by kernel_rfl) (fun _ _ _ h => h) (Or.inl ⟨by rfl, ?_⟩) (by assumption) ?_
            rotate_left
            · intro V hSw
              (try dsimp only at hSw)
              go_simp
              (try with_reducible rfl)
            simp only [List.getElem_toArray, List.getElem_cons_succ, List.getElem_cons_zero, Act.put, List.setIfInBounds_toArray, List.set_cons_zero, List.set_cons_succ]
            refine wpAnyH_take (i := 16) (v := ?_) rfl (by kernel_rfl) (by kernel_rfl) (by kernel_rfl) (fun _ _ _ h => h) (Or.inl ⟨by rfl, ?_⟩) (by assumption) ?_
            rotate_left
            · intro V hSw
              (try dsimp only at hSw)
              go_simp
              (try with_reducible rfl)
            simp only [List.getElem_toArray, List.getElem_cons_succ, List.getElem_cons_zero, Act.put, List.setIfInBounds_toArray, List.set_cons_zero, List.set_cons_succ]
            refine wpAnyH_take (i := 17) (v := ?_) rfl (by kernel_rfl) (by kernel_rfl) (by kernel_rfl) (fun _ _ _ h => h) (Or.inl ⟨by rfl, ?_⟩) (by assumption) ?_
            rotate_left
            · intro V hSw
              (try dsimp only at hSw)
              go_simp
              (try with_reducible rfl)
            simp only [List.getElem_toArray, List.getElem_cons_succ, List.getElem_cons_zero, Act.put, List.setIfInBounds_toArray, List.set_cons_zero, List.set_cons_succ]
            refine wpAnyH_take (i := 18) (v := ?_) rfl (by kernel_rfl) (by kernel_rfl) (by kernel_rfl) (fun _ _ _ h => h) (Or.inl ⟨by rfl, ?_⟩) (by assumption) ?_
            rotate_left
            · intro V hSw
              (try dsimp only at hSw)
              go_simp
              (try with_reducible rfl)
            simp only [List.getElem_toArray, List.getElem_cons_succ, List.getElem_cons_zero, Act.put, List.setIfInBounds_toArray, List.set_cons_zero, List.set_cons_succ]
            refine wpAnyH_take (i := 19) (v := ?_) rfl (by kernel_rfl) (by kernel_rfl) (by kernel_rfl) (fun _ _ _ h => h) (Or.inl ⟨by rfl, ?_⟩) (by assumption) ?_
            rotate_left
            · intro V hSw
              (try dsimp only at hSw)
              go_simp
              (try with_reducible rfl)
            simp only [List.getElem_toArray, List.getElem_cons_succ, List.getElem_cons_zero, Act.put, List.setIfInBounds_toArray, List.set_cons_zero, List.set_cons_succ]
            refine wpAnyH_ready (rs := [15]) (by kernel_rfl) (by simp) ?_
            refine AllReadyH.cons rfl (fun K hK => ?_) AllReadyH.nil
            go_simp
            obtain ⟨w6, hV⟩ : ∃ V, V = World.alloc wd (.cells #[.int .i64 7] 3) := ⟨_, rfl⟩
            have hb : Below wd.heap.size wd w6 := by rw [hV]; exact (Below.refl _ _).alloc (Nat.le_refl _) _
            have L7 : Hid (Wr w6 wd.heap.size 3 (iv [7])) := by show Wr _ _ _ _; rw [hV]; exact Wr.new wd 3 #[.int .i64 7]
            rw [← hV]
            have EV := Lib.hid (EV.out.trans (hb.mono EV.out.size))
            have HCC : Hid (w6.cell? ⟨b, off, none⟩ = some (.int .i64 zr)) := (hb.cell (p := ⟨b, off, none⟩) EV0.out).trans HCC.out
            have EV0 := Lib.hid (Nat.lt_of_lt_of_le EV0.out hb.size)
            clear hV hb
            refine hK.out _ _ HCC.out (fun hHeld => ?_)
            clear hK K
            refine wpAnyH_ready (rs := [20]) (by kernel_rfl) (by simp) ?_
            refine AllReadyH.cons rfl (fun K hK => ?_) AllReadyH.nil
            go_simp
            go_wp2_with (go_at_call 52; refine (impl_PplHas (some ⟨wd.heap.size, 0, none⟩) 1 [7] 1 zr w6 (L7.out.ints L7.out.lt (by simp))).mono ?_; rintro e w7 ⟨rfl, hb⟩; rw [has7 zr hin.1 hin.2])
            have EV := Lib.hid (EV.out.trans (hb.mono EV.out.size))
            have HCC : Hid (w7.cell? ⟨b, off, none⟩ = some (.int .i64 zr)) := (hb.cell (p := ⟨b, off, none⟩) EV0.out).trans HCC.out
            have EV0 := Lib.hid (Nat.lt_of_lt_of_le EV0.out hb.size)
            clear hb
            refine hK.out _ _ HCC.out (fun hHeld => ?_)
            clear hK K
            refine wpAnyH_take (i := 21) (v := ?_) rfl (by kernel_rfl) (by kernel_rfl) (by kernel_rfl) (fun _ _ _ h => h) (Or.inl ⟨by rfl, ?_⟩) (by assumption) ?_
            rotate_left
            · intro V hSw
              (try dsimp only at hSw)
              go_simp
              (try with_reducible rfl)
            simp only [List.getElem_toArray, List.getElem_cons_succ, List.getElem_cons_zero, Act.put, List.setIfInBounds_toArray, List.set_cons_zero, List.set_cons_succ]
            refine wpAnyH_take (i := 22) (v := ?_) rfl (by kernel_rfl) (by kernel_rfl) (by kernel_rfl) (fun _ _ _ h => h) (Or.inl ⟨by rfl, ?_⟩) (by assumption) ?_
            rotate_left
            · intro V hSw
              (try dsimp only at hSw)
              go_simp
              (try with_reducible rfl)
            simp only [List.getElem_toArray, List.getElem_cons_succ, List.getElem_cons_zero, Act.put, List.setIfInBounds_toArray, List.set_cons_zero, List.set_cons_succ]
            refine wpAnyH_done (by kernel_rfl) ?_ _
            clear hHeld
            go_wp2
            go_roundg (F.length - (0 + 1))
            case measure => omega
            case rel => exact ⟨0 + 1, by omega, by omega, by go_num, EV.out⟩
        · have hilz : ¬ (i : Int) < (F.length : Int) := by omega
          have hF1 : (1 : Int) ≤ (F.length : Int) := by omega
          have hF2 : (F.length : Int) ≤ (x.tasks.length : Int) := by omega
          have kN := fun i => (N.out.later EV.out).cell i
          have BB := Lib.hid (B.out.trans (EV.out.mono B.out.size))
          go_wp2
          go_ret
          exact ⟨rfl, BB.out⟩
theorem walk_FnNetAsks (A : Option Addr) (c : Nat) (xs : List Int) (w : World) (h : Code w w.heap.size A c xs) :
    Calls Try.prog 12 #[.slice A xs.length c] w fun e w' => e = .returned (.bool true) ∧ Below w.heap.size w w' := walk_FnNetAsks_of sortLaw compactLaw A c xs w h
end Go.Proofs.Ytkkjljpokannkaa
