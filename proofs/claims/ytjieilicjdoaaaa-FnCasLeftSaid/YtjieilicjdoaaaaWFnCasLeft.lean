/- The walk of FnCasLeft: it returns true. -/
import Derived.Test.YtjieilicjdoaaaaGLeft
import Derived.Test.YtjieilicjdoaaaaGNet
import Derived.Deep.QuietTactic
import Derived.Deep.RegionHeld3
namespace Go.Proofs.Ytjieilicjdoaaaa
open Go.RowKit
open List renaming getElem_toArray → sA, getElem_cons_succ → sB, getElem_cons_zero → sC, setIfInBounds_toArray → sD, set_cons_zero → sE, set_cons_succ → sF
set_option linter.unusedSimpArgs false
set_option linter.unusedVariables false

set_option maxRecDepth 100000 in
set_option maxHeartbeats 4000000 in
theorem walk_FnCasLeft (A : Option Addr) (c : Nat) (xs : List Int) (w : World) (h : Code w w.heap.size A c xs) :
  Calls Try.prog 4 #[.slice A xs.length c] w fun e w' => e = .returned (.bool true) ∧ Below w.heap.size w w' := by
 have hlen := h.1.1
 have HC := Lib.hid h
 clear h
 by_cases hl : 1048576 < xs.length
 ·
  have hlz : (1048576 : Int) < (xs.length : Int) := by omega
  go_enter Try.func4, Try.ntmps4
  go_wp2
  go_ret
  exact ⟨rfl, Below.refl _ _⟩
 have hlz : ¬ (1048576 : Int) < (xs.length : Int) := by omega
 go_enter Try.func4, Try.ntmps4
 go_wp2_with fail
 refine (spec_DrawCasLeft A c xs w HC.out).mono ?_
 rintro e w1 ⟨y, D1, j1, D2, j2, D3, j3, D4, j4, rfl, hm, hd, hml, hdl, hb⟩
 have M := Lib.hid hm
 have B := Lib.hid hb
 clear hm hd hb
 go_wp2_with fail
 refine callsAt fun W hW => ?_
 have hbW : Below w1.heap.size w1 W := by rw [hW]; exact (Below.refl _ _).alloc (Nat.le_refl _) _
 have P : Hid (Bk W w1.heap.size 43 (caseCells y D1 j1 D2 j2 D3 j3 D4 j4)) := by show Bk _ _ _ _; rw [hW]; exact Bk.new rfl
 have M := Lib.hid (M.out.later hbW)
 have B := Lib.hid (B.out.trans (hbW.mono B.out.size))
 clear hW hbW
 refine (impl_CasLeft y D1 D2 D3 D4 j1 j2 j3 j4 none W M.out).mono ?_
 rintro e w2 ⟨rfl, hb⟩
 have P := Lib.hid (P.out.later hb)
 have M := Lib.hid (M.out.later hb)
 have B := Lib.hid (B.out.trans (hb.mono B.out.size))
 clear hb
 have kP := fun i => P.out.cell i
 go_wp2_with fail
 clear kP
 refine (spec_CasLeft y D1 D2 D3 D4 j1 j2 j3 j4 none w2 M.out).mono ?_
 rintro e w3 ⟨rfl, hb⟩
 have P := Lib.hid (P.out.later hb)
 have M := Lib.hid (M.out.later hb)
 have B := Lib.hid (B.out.trans (hb.mono B.out.size))
 clear hb
 obtain ⟨n, hn⟩ : ∃ n, n = leftTo y.marks y.marks.length := ⟨_, rfl⟩
 rw [← hn]
 have HN := Lib.hid hn
 clear hn
 have hnn : (n != n) = false := by simp
 have kP := fun i => P.out.cell i
 by_cases h2 : y.marks.length < 2
 ·
  have h2z : (y.marks.length : Int) < 2 := by omega
  have EQ := Lib.hid (left_few y.marks h2)
  go_wp2_with fail
  refine (impl_MrkSumW D1 j1 y.marks w3 w3.heap.size M.out.ints).mono ?_
  rintro e w4 ⟨rfl, rfl⟩
  have heq : (n == sumTo y.marks y.marks.length) = true := by rw [← EQ.out, HN.out]; simp
  go_wp2_with (go_at_call 21; refine (laws_guOk _).mono ?_; rintro e w10 ⟨rfl, hb⟩; have B := Lib.hid (B.out.trans (hb.mono B.out.size)); clear hb)
  go_ret
  exact ⟨rfl, B.out⟩
 ·
  have h2z : ¬ (y.marks.length : Int) < 2 := by omega
  have h1z : (1 : Int) < (y.marks.length : Int) := by omega
  have EQ := Lib.hid (left_most y.marks y.marks.length (by omega))
  go_upto_region 9 with fail
  clear kP hnn
  obtain ⟨b, off, rfl, hb, hc⟩ := M.out.ints.at_ (show 1 < y.marks.length by omega)
  have X1 := Lib.hid hc
  have hx : y.marks.getD 1 0 = y.marks[1] := by rw [List.getD_eq_getElem?_getD, List.getElem?_eq_getElem (by omega)]; rfl
  generalize y.marks[1] = x1 at hx X1
  clear hc
  have hdr := (Below.refl w3.heap.size w3).drew
  refine wp_region_held_drew (S := (fun V : World => V.cell? ⟨w1.heap.size, 1, none⟩ = some (.slice (some ⟨b, off, none⟩) y.marks.length j1) ∧ V.cell? ⟨b, off + 1, none⟩ = some (.int .i64 x1))) (by kernel_rfl) ⟨P.out.cell 1, X1.out⟩ (fun hHeld => ?_)
  generalize w3.drew = w4 at hdr hHeld ⊢
  have P := Lib.hid (P.out.later hdr)
  have M := Lib.hid (M.out.later hdr)
  have X1 : Hid (w4.cell? ⟨b, off + 1, none⟩ = some (.int .i64 x1)) := (hdr.cell (p := ⟨b, off + 1, none⟩) hb).trans X1.out
  have B := Lib.hid (B.out.trans (hdr.mono B.out.size))
  clear hdr
  refine tk (i := 0) (v := ?_) rfl (.inl ⟨by rfl, ?_⟩) ?_
  rotate_left
  ·
   intro V hSw; (try dsimp only at hSw); go_simp; (try with_reducible rfl)
  simp only [sA, sB, sC, Act.put, sD, sE, sF]
  refine tk (i := 1) (v := ?_) rfl (.inl ⟨by rfl, ?_⟩) ?_
  rotate_left
  ·
   intro V hSw; (try dsimp only at hSw); go_simp; (try with_reducible rfl)
  simp only [sA, sB, sC, Act.put, sD, sE, sF]
  refine tk (i := 2) (v := ?_) rfl (.inl ⟨by rfl, ?_⟩) ?_
  rotate_left
  ·
   intro V hSw; (try dsimp only at hSw); go_simp; (try with_reducible rfl)
  simp only [sA, sB, sC, Act.put, sD, sE, sF]
  refine tk (i := 4) (v := ?_) rfl (.inl ⟨by rfl, ?_⟩) ?_
  rotate_left
  ·
   intro V hSw; (try dsimp only at hSw); go_simp; (try with_reducible rfl)
  simp only [sA, sB, sC, Act.put, sD, sE, sF]
  refine tk (i := 5) (v := ?_) rfl (.inl ⟨by rfl, ?_⟩) ?_
  rotate_left
  ·
   intro V hSw; (try dsimp only at hSw); go_simp; (try with_reducible rfl)
  simp only [sA, sB, sC, Act.put, sD, sE, sF]
  refine tk (i := 6) (v := .pointer (some ⟨b, off + 1, none⟩)) rfl (.inl ⟨by rfl, ?_⟩) ?_
  ·
   intro V hSw; (try dsimp only at hSw); go_simp; (try with_reducible rfl)
  simp only [sA, sB, sC, Act.put, sD, sE, sF]
  refine tk (i := 7) (v := ?_) rfl (.inl ⟨by rfl, ?_⟩) ?_
  rotate_left
  ·
   intro V hSw; (try dsimp only at hSw); go_simp; (try with_reducible rfl)
  simp only [sA, sB, sC, Act.put, sD, sE, sF]
  refine wpAnyH_ready (rs := [3]) (by kernel_rfl) (by simp) ?_
  refine AllReadyH.cons rfl (fun K hK => ?_) AllReadyH.nil
  go_simp
  go_wp2_with (go_at_call 20; refine (impl_MrkSumW (some ⟨b, off, none⟩) j1 y.marks w4 w4.heap.size M.out.ints).mono ?_; rintro e w5 ⟨rfl, rfl⟩)
  refine hK.out _ _ ⟨P.out.cell 1, X1.out⟩ (fun hHeld => ?_)
  clear hK K
  refine tk (i := 8) (v := ?_) rfl (.inl ⟨by rfl, ?_⟩) ?_
  rotate_left
  ·
   intro V hSw; (try dsimp only at hSw); go_simp; (try with_reducible rfl)
  simp only [sA, sB, sC, Act.put, sD, sE, sF]
  refine tk (i := 9) (v := ?_) rfl (.inl ⟨by rfl, ?_⟩) ?_
  rotate_left
  ·
   intro V hSw; (try dsimp only at hSw); go_simp; (try with_reducible rfl)
  simp only [sA, sB, sC, Act.put, sD, sE, sF]
  rw [show (n == IntKind.i64.wrap (sumTo y.marks y.marks.length - x1)) = true from by
   rw [HN.out, EQ.out, hx, IntKind.wrap_i64]
   simp [wrap64]]
  refine tk (i := 10) (v := ?_) rfl (.inl ⟨by rfl, ?_⟩) ?_
  rotate_left
  ·
   intro V hSw; (try dsimp only at hSw); go_simp; (try with_reducible rfl)
  simp only [sA, sB, sC, Act.put, sD, sE, sF]
  refine wpAnyH_ready (rs := [11]) (by kernel_rfl) (by simp) ?_
  refine AllReadyH.cons rfl (fun K hK => ?_) AllReadyH.nil
  go_simp
  generalize hV : World.alloc w4 _ = w5
  have hb5 : Below w4.heap.size w4 w5 := by rw [← hV]; exact (Below.refl _ _).alloc (Nat.le_refl _) _
  have L : Hid (Wr w5 w4.heap.size 3 (iv [2, 3])) := by show Wr _ _ _ _; rw [← hV]; exact Wr.new w4 3 #[.int .i64 2, .int .i64 3]
  have P := Lib.hid (P.out.later hb5)
  have X1 : Hid (w5.cell? ⟨b, off + 1, none⟩ = some (.int .i64 x1)) := (hb5.cell (p := ⟨b, off + 1, none⟩) (by have := M.out.ints; obtain ⟨b', o', hA, hB, _⟩ := this.2 (by omega); cases hA; exact hB)).trans X1.out
  have M := Lib.hid (M.out.later hb5)
  have B := Lib.hid (B.out.trans (hb5.mono B.out.size))
  clear hV
  generalize w4.heap.size = gl at L ⊢
  refine hK.out _ _ ⟨P.out.cell 1, X1.out⟩ (fun hHeld => ?_)
  clear hK K
  refine tk (i := 12) (v := ?_) rfl (.inl ⟨by rfl, ?_⟩) ?_
  rotate_left
  ·
   intro V hSw; (try dsimp only at hSw); go_simp; (try with_reducible rfl)
  simp only [sA, sB, sC, Act.put, sD, sE, sF]
  refine wpAnyH_ready (rs := [13]) (by kernel_rfl) (by simp) ?_
  refine AllReadyH.cons rfl (fun K hK => ?_) AllReadyH.nil
  go_simp
  go_wp2_with (go_at_call 18; refine (impl_CasLeft ⟨0, [2, 3], [], [], []⟩ (some ⟨gl, 0, none⟩) none none none 2 0 0 0 (some 0) w5 (wr_rows L.out (Nat.zero_le _) (by simp))).mono ?_; rintro e w6 ⟨rfl, hb6⟩)
  have P := Lib.hid (P.out.later hb6)
  have X1 : Hid (w6.cell? ⟨b, off + 1, none⟩ = some (.int .i64 x1)) := (hb6.cell (p := ⟨b, off + 1, none⟩) (by have := M.out.ints; obtain ⟨b', o', hA, hB, _⟩ := this.2 (by omega); cases hA; exact hB)).trans X1.out
  have B := Lib.hid (B.out.trans (hb6.mono B.out.size))
  clear hb6
  rw [show leftTo [2, 3] 2 = 2 from by simp [leftTo, wrap64]]
  refine hK.out _ _ ⟨P.out.cell 1, X1.out⟩ (fun hHeld => ?_)
  clear hK K
  refine tk (i := 14) (v := ?_) rfl (.inl ⟨by rfl, ?_⟩) ?_
  rotate_left
  ·
   intro V hSw; (try dsimp only at hSw); go_simp; (try with_reducible rfl)
  simp only [sA, sB, sC, Act.put, sD, sE, sF]
  refine tk (i := 15) (v := ?_) rfl (.inl ⟨by rfl, ?_⟩) ?_
  rotate_left
  ·
   intro V hSw; (try dsimp only at hSw); go_simp; (try with_reducible rfl)
  simp only [sA, sB, sC, Act.put, sD, sE, sF]
  refine tk (i := 16) (v := ?_) rfl (.inl ⟨by rfl, ?_⟩) ?_
  rotate_left
  ·
   intro V hSw; (try dsimp only at hSw); go_simp; (try with_reducible rfl)
  simp only [sA, sB, sC, Act.put, sD, sE, sF]
  refine wpAnyH_done (by kernel_rfl) ?_ _
  clear hHeld
  go_wp2
  go_ret
  exact ⟨rfl, B.out⟩
end Go.Proofs.Ytjieilicjdoaaaa
