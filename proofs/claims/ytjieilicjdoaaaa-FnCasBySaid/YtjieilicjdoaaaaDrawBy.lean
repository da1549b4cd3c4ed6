/- A case and somebody drawn: DrawCasBy. -/
import Derived.Test.YtjieilicjdoaaaaGLeft
import Derived.Deep.QuietTactic
import Derived.Deep.RegionHeld3
namespace Go.Proofs.Ytjieilicjdoaaaa
open Go.RowKit
open List renaming getElem_toArray → sA, getElem_cons_succ → sB, getElem_cons_zero → sC, setIfInBounds_toArray → sD, set_cons_zero → sE, set_cons_succ → sF
set_option linter.unusedSimpArgs false
set_option linter.unusedVariables false

set_option maxRecDepth 100000 in
set_option maxHeartbeats 4000000 in
theorem spec_DrawCasBy (A : Option Addr) (c : Nat) (xs : List Int) (w : World) (h : Code w w.heap.size A c xs) :
  Calls Try.prog 22 #[.slice A xs.length c] w fun e w' => ∃ (y : GCase) (D1 : Option Addr) (j1 : Nat) (D2 : Option Addr) (j2 : Nat) (D3 : Option Addr) (j3 : Nat) (D4 : Option Addr) (j4 : Nat) (who : Int),
   e = .returned (.tuple #[.agg (caseCells y D1 j1 D2 j2 D3 j3 D4 j4), .int .i64 who]) ∧ DrawnY y D1 D4 w w' := by
 have HC := Lib.hid h
 clear h
 go_enter Try.func22, Try.ntmps22
 go_wp2_with fail
 refine callsAt fun W hW => ?_
 have bN : Bk W w.heap.size 43 #[.int .i64 0, .slice none 0 0, .slice none 0 0, .slice none 0 0, .slice none 0 0] := by rw [hW]; exact Bk.new rfl
 have hB : Below w.heap.size w W := by rw [hW]; exact (Below.refl _ _).alloc (Nat.le_refl _) _
 have hWs : w.heap.size < W.heap.size := by rw [hW]; simp
 have HC1 : Hid (Code W W.heap.size A c xs) := by show Code _ _ _ _ _; exact HC.out.later hB
 clear hW
 refine (l20Open A c xs W HC1.out).mono ?_
 rintro e w1 ⟨rfl, hr1, hb1⟩
 have N1 := Lib.hid (bN.later hb1)
 have B1 := Lib.hid (hB.trans (hb1.mono hB.size))
 have R1 := Lib.hid hr1
 have hRl := hr1.lt
 clear hr1 hb1 bN hB
 go_wp2_with fail
 refine (l21Case _ _ 9 _ R1.out (by omega) (by omega)).mono ?_
 rintro e w2 ⟨na, nA, nn, ncc, Pe, y, D1, j1, D2, j2, D3, j3, D4, j4, rfl, hmk, hdd, hml, hdl, hr2, ht2⟩
 have N2 := Lib.hid (N1.out.turned ht2 (by omega))
 have B2 := Lib.hid (turned_below B1.out ht2 (by omega) (Nat.le_refl _))
 have M2 := Lib.hid hmk
 have D2' := Lib.hid hdd
 have R2 := Lib.hid hr2
 have z2 := ht2.size
 clear hmk hdd hr2 ht2
 generalize W.heap.size = RB at *
 go_upto_region 3 with fail
 generalize hW3 : (World.alloc (World.alloc w2 _) _) = w3
 have hb3 : Below w2.heap.size w2 w3 := by rw [← hW3]; exact ((Below.refl _ _).alloc (Nat.le_refl _) _).alloc (by simp) _
 have bC : Hid (Bk w3 (w2.heap.size + 1) 43 (caseCells y D1 j1 D2 j2 D3 j3 D4 j4)) := by show Bk _ _ _ _; rw [← hW3]; exact Bk.new (by simp)
 have N3 := Lib.hid (N2.out.later hb3)
 have B3 := Lib.hid (B2.out.trans (hb3.mono (by omega)))
 have M3 := Lib.hid (M2.out.later hb3)
 have D3' := Lib.hid (D2'.out.later hb3)
 have R3 := Lib.hid (R2.out.grown hb3)
 clear hW3 hb3 N2 B2 M2 D2' R2
 have hdr := (Below.refl w3.heap.size w3).drew
 refine wp_region_held_drew (S := (fun V : World => V.cell? ⟨w2.heap.size + 1, 0, none⟩ = some (.int .i64 y.state) ∧ V.cell? ⟨w2.heap.size + 1, 1, none⟩ = some (.slice D1 y.marks.length j1) ∧ V.cell? ⟨w2.heap.size + 1, 2, none⟩ = some (.slice D2 y.busy.length j2) ∧ V.cell? ⟨w2.heap.size + 1, 3, none⟩ = some (.slice D3 y.data.length j3) ∧ V.cell? ⟨w2.heap.size + 1, 4, none⟩ = some (.slice D4 y.did.length j4))) (by kernel_rfl) ⟨bC.out.cell 0, bC.out.cell 1, bC.out.cell 2, bC.out.cell 3, bC.out.cell 4⟩ (fun hHeld => ?_)
 generalize w3.drew = w4 at hdr hHeld ⊢
 have bC := Lib.hid (bC.out.later hdr)
 have N3 := Lib.hid (N3.out.later hdr)
 have B3 := Lib.hid (B3.out.trans (hdr.mono B3.out.size))
 have M3 := Lib.hid (M3.out.later hdr)
 have D3' := Lib.hid (D3'.out.later hdr)
 have R3 := Lib.hid (R3.out.grown hdr)
 clear hdr
 refine tk (i := 0) (v := ?_) rfl (.inl ⟨by rfl, ?_⟩) ?_
 rotate_left
 ·
  intro V hSw; (try dsimp only at hSw); go_simp; (try with_reducible rfl)
 simp only [sA, sB, sC, Act.put, sD, sE, sF]
 refine tk (i := 1) (v := ?_) rfl (.inl ⟨by rfl, ?_⟩) ?_
 rotate_left
 ·
  intro V hSw; (try dsimp only at hSw); go_simp; (try with_reducible rfl)
 simp only [sA, sB, sC, Act.put, sD, sE, sF]
 refine wpAnyH_ready (rs := [2]) (by kernel_rfl) (by simp) ?_
 refine AllReadyH.cons rfl (fun K hK => ?_) AllReadyH.nil
 go_simp
 go_wp2_with (go_at_call 47; refine (l20Rd_pick RB _ 6 _ R3.out (by omega) (by omega)).mono ?_; rintro e w5 ⟨who, rfl, _, _, _, hr, ht⟩)
 have bC := Lib.hid (bC.out.turned ht (by omega))
 have N3 := Lib.hid (N3.out.turned ht (by omega))
 have B3 := Lib.hid (turned_below B3.out ht (by omega) (Nat.le_refl _))
 have M3 : Hid (Rows intC (some (w.heap.size + 1)) w5 w5.heap.size D1 y.marks) := (rowsT M3.out ht (by omega)).weak (Weaker.some (by omega))
 have D3' : Hid (Rows didC (some (w.heap.size + 1)) w5 w5.heap.size D4 y.did) := (rowsT D3'.out ht (by omega)).weak (Weaker.some (by omega))
 clear hr ht
 refine hK.out _ _ ⟨bC.out.cell 0, bC.out.cell 1, bC.out.cell 2, bC.out.cell 3, bC.out.cell 4⟩ (fun hHeld => ?_)
 clear hK K
 refine wpAnyH_ready (rs := [3]) (by kernel_rfl) (by simp) ?_
 refine AllReadyH.cons rfl (fun K hK => ?_) AllReadyH.nil
 have kN := fun i => N3.out.cell i
 have fN := fun i => N3.out.frozen i
 go_simp
 generalize hV : World.setCell (World.setCell (World.setCell (World.setCell (World.setCell w5 _ _) _ _) _ _) _ _) _ _ = V
 have bV : Hid (Bk V w.heap.size 43 (caseCells y D1 j1 D2 j2 D3 j3 D4 j4)) := by show Bk _ _ _ _; rw [← hV]; exact (put5 N3.out).1
 have hk : Kept (w.heap.size + 1) w5 V := by rw [← hV]; exact (put5 N3.out).2.1 _ (Nat.lt_succ_self _)
 have tV : Hid (Below w.heap.size w V) := by show Below _ _ _; rw [← hV]; exact (put5 N3.out).2.2.1 _ _ (Nat.le_refl _) B3.out
 have hbl : V.heap[w2.heap.size + 1]? = w5.heap[w2.heap.size + 1]? := by rw [← hV]; exact (put5 N3.out).2.2.2 _ (by omega)
 have bC : Hid (Bk V (w2.heap.size + 1) 43 _) := hbl.trans bC.out
 have M3 := Lib.hid (rows_kept M3.out hk)
 have D3' := Lib.hid (rows_kept D3'.out hk)
 clear hV hk hbl kN fN
 refine hK.out _ _ ⟨bC.out.cell 0, bC.out.cell 1, bC.out.cell 2, bC.out.cell 3, bC.out.cell 4⟩ (fun hHeld => ?_)
 clear hK K
 refine tk (i := 4) (v := ?_) rfl (.inl ⟨by rfl, ?_⟩) ?_
 rotate_left
 ·
  intro V hSw; (try dsimp only at hSw); go_simp; (try with_reducible rfl)
 simp only [sA, sB, sC, Act.put, sD, sE, sF]
 refine wpAnyH_done (by kernel_rfl) ?_ _
 clear hHeld
 have k1 := fun i => bV.out.cell i
 go_wp2
 refine bodyPost_ret (v := .tuple #[.agg (caseCells y D1 j1 D2 j2 D3 j3 D4 j4), .int .i64 who]) (by simp [results, Try.results22, go_sem, k1]) rfl ?_
 exact ⟨y, D1, j1, D2, j2, D3, j3, D4, j4, who, rfl, M3.out.weak (Weaker.none _), D3'.out.weak (Weaker.none _), hml, hdl, tV.out⟩
end Go.Proofs.Ytjieilicjdoaaaa
