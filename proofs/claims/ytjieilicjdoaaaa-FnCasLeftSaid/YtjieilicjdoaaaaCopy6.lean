/- A case copied by the reference: l6Copy. -/
import Derived.Test.YtjieilicjdoaaaaCopy6A
namespace Go.Proofs.Ytjieilicjdoaaaa
open Go.RowKit
open List renaming getElem_toArray → sA, getElem_cons_succ → sB, getElem_cons_zero → sC, setIfInBounds_toArray → sD, set_cons_zero → sE, set_cons_succ → sF
set_option linter.unusedSimpArgs false
set_option linter.unusedVariables false

/-- A case in memory of the call's own: each slice may be written, and what is under way lies apart from the others. -/
structure OwnCase (w : World) (base : Nat) (V1 V2 V3 V4 : Value) (y : GCase) : Prop where
 marks : OwnC intC 3 w base V1 y.marks
 busy : OwnC itemC 111 w base V2 y.busy
 data : OwnC intC 3 w base V3 y.data
 did : OwnC didC 53 w base V4 y.did
 s12 : V1.ownBlock ≠ V2.ownBlock
 s14 : V1.ownBlock ≠ V4.ownBlock
 s23 : V2.ownBlock ≠ V3.ownBlock
 s24 : V2.ownBlock ≠ V4.ownBlock
/-- What copying a case leaves. -/
def GivesCopy (y : GCase) (w : World) (e : Ending) (w' : World) : Prop :=
 ∃ (D1 D2 D3 D4 : Option Addr) (j1 j2 j3 j4 : Nat), e = .returned (.agg (caseCells y D1 j1 D2 j2 D3 j3 D4 j4)) ∧
  OwnCase w' w.heap.size (.slice D1 y.marks.length j1) (.slice D2 y.busy.length j2) (.slice D3 y.data.length j3) (.slice D4 y.did.length j4) y ∧ Below w.heap.size w w'
theorem ownC_low {α : Type} {C : Cod α} {e : TypeId} {w : World} {base base' : Nat} {v : Value} {xs : List α} (h : OwnC C e w base v xs) (hb : base' ≤ base) : OwnC C e w base' v xs := by
 obtain ⟨css, h1, h2, h3⟩ := h
 refine ⟨css, h1, fun j cs hj => ?_, h3.1, ?_⟩
 ·
  obtain ⟨x, lo, B, a1, a2, a3⟩ := h2 j cs hj
  exact ⟨x, lo, B, a1, by omega, a3⟩
 ·
  rcases h3.2 with hn | ⟨g, cap, cur, hv, hg, rest⟩
  ·
   exact .inl hn
  ·
   exact .inr ⟨g, cap, cur, hv, by omega, rest⟩

set_option maxRecDepth 100000 in
set_option maxHeartbeats 4000000 in
theorem spec_l6Copy (y : GCase) (A1 : Option Addr) (c1 : Nat) (A2 : Option Addr) (c2 : Nat) (A3 : Option Addr) (c3 : Nat) (A4 : Option Addr) (c4 : Nat) (m : Option Nat) (w : World)
  (h1 : Rows intC m w w.heap.size A1 y.marks) (h2 : Rows itemC m w w.heap.size A2 y.busy) (h3 : Rows intC m w w.heap.size A3 y.data) (h4 : Rows didC m w w.heap.size A4 y.did)
  (l1 : y.marks.length ≤ 1000) (l2 : y.busy.length ≤ 1000) (l3 : y.data.length ≤ 1000) (l4 : y.did.length ≤ 1000) :
  Calls Try.prog 77 #[.agg (caseCells y A1 c1 A2 c2 A3 c3 A4 c4)] w (GivesCopy y w) := by
 have R1 := Lib.hid h1
 have R2 := Lib.hid h2
 have R3 := Lib.hid h3
 have R4 := Lib.hid h4
 clear h1 h2 h3 h4
 go_enter Try.func77, Try.ntmps77
 go_upto_region 1 with fail
 generalize hV : World.alloc (World.alloc w _) _ = w1
 have P0 : Hid (Bk w1 w.heap.size 43 (caseCells y A1 c1 A2 c2 A3 c3 A4 c4)) := by show Bk _ _ _ _; rw [← hV]; exact (Bk.new rfl).alloc _
 have Z0 : Hid (Bk w1 (w.heap.size + 1) 43 #[.int .i64 0, .slice none 0 0, .slice none 0 0, .slice none 0 0, .slice none 0 0]) := by show Bk _ _ _ _; rw [← hV]; exact Bk.new (by simp)
 have B : Hid (Below w.heap.size w w1) := by show Below _ _ _; rw [← hV]; exact ((Below.refl _ _).alloc (Nat.le_refl _) _).alloc (by simp) _
 have z1 : w1.heap.size = w.heap.size + 1 + 1 := by rw [← hV]; simp
 clear hV
 have hdr : Below w1.heap.size w1 w1.drew := (Below.refl _ _).drew
 have k0 := fun i => P0.out.cell i
 refine wp_region_held_drew (S := fun V : World => V.cell? ⟨w.heap.size, 0, none⟩ = some (.int .i64 y.state) ∧ V.cell? ⟨w.heap.size, 1, none⟩ = some (.slice A1 y.marks.length c1) ∧ V.cell? ⟨w.heap.size, 2, none⟩ = some (.slice A2 y.busy.length c2) ∧ V.cell? ⟨w.heap.size, 3, none⟩ = some (.slice A3 y.data.length c3) ∧ V.cell? ⟨w.heap.size, 4, none⟩ = some (.slice A4 y.did.length c4)) (by kernel_rfl) ⟨k0 0, k0 1, k0 2, k0 3, k0 4⟩ (fun hHeld => ?_)
 clear k0
 have Z0 := Lib.hid (Z0.out.later hdr)
 have P0 := Lib.hid (P0.out.later hdr)
 have zd : w1.drew.heap.size = w1.heap.size := rfl
 have B := Lib.hid (B.out.trans (hdr.mono B.out.size))
 generalize w1.drew = wd at Z0 P0 B zd hHeld ⊢
 clear hdr
 refine tk (i := 0) (v := ?_) rfl (.inl ⟨by rfl, ?_⟩) ?_
 rotate_left
 ·
  intro V hSw; (try dsimp only at hSw); go_simp; (try with_reducible rfl)
 simp only [sA, sB, sC, Act.put, sD, sE, sF]
 refine tk (i := 1) (v := ?_) rfl (.inl ⟨by rfl, ?_⟩) ?_
 rotate_left
 ·
  intro V hSw; (try dsimp only at hSw); go_simp; (try with_reducible rfl)
 simp only [sA, sB, sC, Act.put, sD, sE, sF]
 refine tk (i := 3) (v := ?_) rfl (.inl ⟨by rfl, ?_⟩) ?_
 rotate_left
 ·
  intro V hSw; (try dsimp only at hSw); go_simp; (try with_reducible rfl)
 simp only [sA, sB, sC, Act.put, sD, sE, sF]
 refine tk (i := 4) (v := ?_) rfl (.inl ⟨by rfl, ?_⟩) ?_
 rotate_left
 ·
  intro V hSw; (try dsimp only at hSw); go_simp; (try with_reducible rfl)
 simp only [sA, sB, sC, Act.put, sD, sE, sF]
 refine tk (i := 7) (v := ?_) rfl (.inl ⟨by rfl, ?_⟩) ?_
 rotate_left
 ·
  intro V hSw; (try dsimp only at hSw); go_simp; (try with_reducible rfl)
 simp only [sA, sB, sC, Act.put, sD, sE, sF]
 refine tk (i := 8) (v := ?_) rfl (.inl ⟨by rfl, ?_⟩) ?_
 rotate_left
 ·
  intro V hSw; (try dsimp only at hSw); go_simp; (try with_reducible rfl)
 simp only [sA, sB, sC, Act.put, sD, sE, sF]
 refine tk (i := 11) (v := ?_) rfl (.inl ⟨by rfl, ?_⟩) ?_
 rotate_left
 ·
  intro V hSw; (try dsimp only at hSw); go_simp; (try with_reducible rfl)
 simp only [sA, sB, sC, Act.put, sD, sE, sF]
 refine tk (i := 12) (v := ?_) rfl (.inl ⟨by rfl, ?_⟩) ?_
 rotate_left
 ·
  intro V hSw; (try dsimp only at hSw); go_simp; (try with_reducible rfl)
 simp only [sA, sB, sC, Act.put, sD, sE, sF]
 refine tk (i := 15) (v := ?_) rfl (.inl ⟨by rfl, ?_⟩) ?_
 rotate_left
 ·
  intro V hSw; (try dsimp only at hSw); go_simp; (try with_reducible rfl)
 simp only [sA, sB, sC, Act.put, sD, sE, sF]
 refine tk (i := 16) (v := ?_) rfl (.inl ⟨by rfl, ?_⟩) ?_
 rotate_left
 ·
  intro V hSw; (try dsimp only at hSw); go_simp; (try with_reducible rfl)
 simp only [sA, sB, sC, Act.put, sD, sE, sF]
 refine cp6_0_0 _ (by kernel_rfl) _ _ (by intro _ _ d _ _ h; cases d <;> exact h) ?_ (R1.out.later B.out) l1 (R2.out.later B.out) l2 (R3.out.later B.out) l3 (R4.out.later B.out) l4 (Z := w.heap.size + 1) ?_ Z0.out (Below.refl _ _) _ (by kernel_rfl)
 rotate_left
 ·
  intro V hb
  have PV : Bk V w.heap.size 43 (caseCells y A1 c1 A2 c2 A3 c3 A4 c4) := (hb.block _ (by omega)).trans P0.out
  exact ⟨PV.cell 0, PV.cell 1, PV.cell 2, PV.cell 3, PV.cell 4⟩
 intro m3 m4 m5 m6 m7 m8 m9 m10 m11 m12 m13 m14 m15 m16 m17 m18 m19 m20 m21 w7 D1 D2 D3 D4 j1 j2 j3 j4 hbk o1 o2 o3 o4 d12 d14 d23 d24 hbe hsz
 have HO1 := Lib.hid o1
 have HO2 := Lib.hid o2
 have HO3 := Lib.hid o3
 have HO4 := Lib.hid o4
 have H12 := Lib.hid d12
 have H14 := Lib.hid d14
 have H23 := Lib.hid d23
 have H24 := Lib.hid d24
 have HBE := Lib.hid hbe
 clear o1 o2 o3 o4 d12 d14 d23 d24 hbe
 have k1 := fun i => hbk.cell i
 go_wp2
 refine bodyPost_ret (v := .agg (caseCells y D1 j1 D2 j2 D3 j3 D4 j4)) (by simp [results, Try.results77, go_sem, k1]) rfl ?_
 exact ⟨D1, D2, D3, D4, j1, j2, j3, j4, rfl, ⟨ownC_low HO1.out (by omega), ownC_low HO2.out (by omega), ownC_low HO3.out (by omega), ownC_low HO4.out (by omega), H12.out, H14.out, H23.out, H24.out⟩, B.out.trans (HBE.out.mono (by omega))⟩
end Go.Proofs.Ytjieilicjdoaaaa
