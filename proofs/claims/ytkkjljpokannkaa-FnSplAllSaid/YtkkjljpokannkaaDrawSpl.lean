/- A task drawn, and data: DrawSplTo, DrawSplAll. -/
import Derived.Test.YtkkjljpokannkaaDrawSnd
import Derived.Test.YtkkjljpokannkaaStep6
import Derived.Test.YtkkjljpokannkaaDrawData
import Derived.Deep.RegionHeld3
namespace Go.Proofs.Ytkkjljpokannkaa
open Go.RowKit
set_option linter.unusedSimpArgs false
set_option linter.unusedVariables false

theorem rows_turnedS {α : Type} {C : Cod α} {lo R : Nat} {w w' : World} {A : Option Addr} {xs : List α} (h : Rows C (some lo) w w.heap.size A xs) (ht : Turned R w w') (hR : R < lo) : Rows C (some lo) w' w'.heap.size A xs :=
  (h.keep fun b hb hl => ht.block b hb (by have := hl _ rfl; omega)).more ht.size
/-- The world V is w but for block g, which holds the cells cs. -/
structure PutS (w V : World) (g : Nat) (t : TypeId) (cs : Array Value) : Prop where
  bk : Bk V g t cs
  block : ∀ b, b ≠ g → V.heap[b]? = w.heap[b]?
  size : V.heap.size = w.heap.size
  os : V.os = w.os
  tape : V.tape = w.tape
  output : V.output = w.output
theorem PutS.refl {w : World} {g : Nat} {t : TypeId} {cs : Array Value} (h : Bk w g t cs) : PutS w w g t cs := ⟨h, fun _ _ => rfl, rfl, rfl, rfl, rfl⟩
theorem PutS.set {w V : World} {g : Nat} {t : TypeId} {cs cs' : Array Value} (h : PutS w V g t cs) (i : Nat) (u : Value) (hc : cs.setIfInBounds i u = cs') : PutS w (V.setCell ⟨g, i, none⟩ u) g t cs' :=
  ⟨by rw [← hc]; exact h.bk.set i u, fun b hb => (Below.heap_setCell V ⟨g, i, none⟩ u b hb).trans (h.block b hb), by rw [← h.size]; simp [World.setCell], h.os, h.tape, h.output⟩
theorem task_put {w : World} {g : Nat} {t : TypeId} {a0 a1 a2 a3 a4 a5 a6 a7 a8 b0 b1 b2 b3 b4 b5 b6 b7 b8 : Value} (h : Bk w g t #[a0, a1, a2, a3, a4, a5, a6, a7, a8]) :
    PutS w (World.setCell (World.setCell (World.setCell (World.setCell (World.setCell (World.setCell (World.setCell (World.setCell (World.setCell w ⟨g, 0, none⟩ b0) ⟨g, 1, none⟩ b1) ⟨g, 2, none⟩ b2) ⟨g, 3, none⟩ b3) ⟨g, 4, none⟩ b4) ⟨g, 5, none⟩ b5) ⟨g, 6, none⟩ b6) ⟨g, 7, none⟩ b7) ⟨g, 8, none⟩ b8) g t #[b0, b1, b2, b3, b4, b5, b6, b7, b8] := by
  have h0 : PutS w (World.setCell w ⟨g, 0, none⟩ b0) g t #[b0, a1, a2, a3, a4, a5, a6, a7, a8] := PutS.set (PutS.refl h) 0 b0 rfl
  have h1 : PutS w (World.setCell (World.setCell w ⟨g, 0, none⟩ b0) ⟨g, 1, none⟩ b1) g t #[b0, b1, a2, a3, a4, a5, a6, a7, a8] := PutS.set h0 1 b1 rfl
  have h2 : PutS w (World.setCell (World.setCell (World.setCell w ⟨g, 0, none⟩ b0) ⟨g, 1, none⟩ b1) ⟨g, 2, none⟩ b2) g t #[b0, b1, b2, a3, a4, a5, a6, a7, a8] := PutS.set h1 2 b2 rfl
  have h3 : PutS w (World.setCell (World.setCell (World.setCell (World.setCell w ⟨g, 0, none⟩ b0) ⟨g, 1, none⟩ b1) ⟨g, 2, none⟩ b2) ⟨g, 3, none⟩ b3) g t #[b0, b1, b2, b3, a4, a5, a6, a7, a8] := PutS.set h2 3 b3 rfl
  have h4 : PutS w (World.setCell (World.setCell (World.setCell (World.setCell (World.setCell w ⟨g, 0, none⟩ b0) ⟨g, 1, none⟩ b1) ⟨g, 2, none⟩ b2) ⟨g, 3, none⟩ b3) ⟨g, 4, none⟩ b4) g t #[b0, b1, b2, b3, b4, a5, a6, a7, a8] := PutS.set h3 4 b4 rfl
  have h5 : PutS w (World.setCell (World.setCell (World.setCell (World.setCell (World.setCell (World.setCell w ⟨g, 0, none⟩ b0) ⟨g, 1, none⟩ b1) ⟨g, 2, none⟩ b2) ⟨g, 3, none⟩ b3) ⟨g, 4, none⟩ b4) ⟨g, 5, none⟩ b5) g t #[b0, b1, b2, b3, b4, b5, a6, a7, a8] := PutS.set h4 5 b5 rfl
  have h6 : PutS w (World.setCell (World.setCell (World.setCell (World.setCell (World.setCell (World.setCell (World.setCell w ⟨g, 0, none⟩ b0) ⟨g, 1, none⟩ b1) ⟨g, 2, none⟩ b2) ⟨g, 3, none⟩ b3) ⟨g, 4, none⟩ b4) ⟨g, 5, none⟩ b5) ⟨g, 6, none⟩ b6) g t #[b0, b1, b2, b3, b4, b5, b6, a7, a8] := PutS.set h5 6 b6 rfl
  have h7 : PutS w (World.setCell (World.setCell (World.setCell (World.setCell (World.setCell (World.setCell (World.setCell (World.setCell w ⟨g, 0, none⟩ b0) ⟨g, 1, none⟩ b1) ⟨g, 2, none⟩ b2) ⟨g, 3, none⟩ b3) ⟨g, 4, none⟩ b4) ⟨g, 5, none⟩ b5) ⟨g, 6, none⟩ b6) ⟨g, 7, none⟩ b7) g t #[b0, b1, b2, b3, b4, b5, b6, b7, a8] := PutS.set h6 7 b7 rfl
  have h8 : PutS w (World.setCell (World.setCell (World.setCell (World.setCell (World.setCell (World.setCell (World.setCell (World.setCell (World.setCell w ⟨g, 0, none⟩ b0) ⟨g, 1, none⟩ b1) ⟨g, 2, none⟩ b2) ⟨g, 3, none⟩ b3) ⟨g, 4, none⟩ b4) ⟨g, 5, none⟩ b5) ⟨g, 6, none⟩ b6) ⟨g, 7, none⟩ b7) ⟨g, 8, none⟩ b8) g t #[b0, b1, b2, b3, b4, b5, b6, b7, b8] := PutS.set h7 8 b8 rfl
  exact h8
abbrev taskW (x : GTask) (A1 : Option Addr) (c1 : Nat) (A2 : Option Addr) (c2 : Nat) (A3 : Option Addr) (c3 : Nat) : Array Value := #[.int .i64 x.join, .int .i64 x.split, .slice A1 x.inn.length c1, .slice A2 x.out.length c2, .slice A3 x.clear.length c3, .int .i64 x.role, .int .i64 x.apart, .int .i64 x.all, .int .i64 x.need]
/-- What drawing a task and data leaves, seen from outside. -/
def DrawnSp (w : World) (e : Ending) (w' : World) : Prop :=
  ∃ (y : GTask) (A1 : Option Addr) (c1 : Nat) (A2 : Option Addr) (c2 : Nat) (A3 : Option Addr) (c3 : Nat) (AD : Option Addr) (cD : Nat) (ds : List Int),
    e = .returned (.tuple #[.agg (taskW y A1 c1 A2 c2 A3 c3), .slice AD ds.length cD]) ∧
    Rows intC (some w.heap.size) w' w'.heap.size A1 y.inn ∧ Rows flowC (some w.heap.size) w' w'.heap.size A2 y.out ∧ Rows intC (some w.heap.size) w' w'.heap.size A3 y.clear ∧ Ints w' w'.heap.size AD ds ∧ ds.length ≤ 4 ∧ Below w.heap.size w w'
/-- What drawing a task leaves, seen from outside. -/
def DrawnT (w : World) (e : Ending) (w' : World) : Prop :=
  ∃ (y : GTask) (A1 : Option Addr) (c1 : Nat) (A2 : Option Addr) (c2 : Nat) (A3 : Option Addr) (c3 : Nat),
    e = .returned (.agg (taskW y A1 c1 A2 c2 A3 c3)) ∧
    Rows intC none w' w'.heap.size A1 y.inn ∧ Rows flowC none w' w'.heap.size A2 y.out ∧ Rows intC none w' w'.heap.size A3 y.clear ∧ Below w.heap.size w w'

set_option maxRecDepth 100000 in
set_option maxHeartbeats 4000000 in
theorem spec_DrawSplTo (A : Option Addr) (c : Nat) (xs : List Int) (w : World) (h : Code w w.heap.size A c xs) :
    Calls Try.prog 38 #[.slice A xs.length c] w (DrawnSp w) := by
  have HC := Lib.hid h
  clear h
  go_enter Try.func38, Try.ntmps38
  go_wp2_with fail
  refine callsAt fun W hW => ?_
  have bN : Bk W w.heap.size 42 #[.int .i64 0, .int .i64 0, .slice none 0 0, .slice none 0 0, .slice none 0 0, .int .i64 0, .int .i64 0, .int .i64 0, .int .i64 0] := by rw [hW]; exact Bk.new rfl
  have hB : Below w.heap.size w W := by rw [hW]; exact (Below.refl _ _).alloc (Nat.le_refl _) _
  have hWs : w.heap.size < W.heap.size := by rw [hW]; simp
  have HC1 : Hid (Code W W.heap.size A c xs) := by show Code _ _ _ _ _; exact HC.out.later hB
  clear hW
  refine (l20Open A c xs W HC1.out).mono ?_
  rintro e w1 ⟨rfl, hr1, hb1⟩
  have N := Lib.hid (bN.later hb1)
  have B := Lib.hid (hB.trans (hb1.mono hB.size))
  have R := Lib.hid hr1
  have hRl := hr1.lt
  clear hr1 hb1 bN hB
  go_wp2_with fail
  refine (l20AnyNet _ _ 9 _ R.out (by omega) (by omega)).mono ?_
  rintro e w2 ⟨x, g, c2, rfl, hng, hok, hr2, ht2⟩
  have N := Lib.hid (N.out.turned ht2 (by omega))
  have B := Lib.hid (turned_below B.out ht2 (by omega) (Nat.le_refl _))
  have G := Lib.hid (hng.low (by omega : W.heap.size + 1 ≤ w1.heap.size))
  have HOK := Lib.hid hok
  have R := Lib.hid hr2
  obtain ⟨hx1, hx6, hx0, hx9, _⟩ := hok
  have hgl := hng.1
  have hl2 := ht2.size
  have hRl2 := hr2.lt
  clear hng hr2 ht2
  go_upto_region 3 with fail
  generalize hV : World.alloc w2 _ = w3
  have E : Hid (Bk w3 w2.heap.size 37 #[.int .i64 x.places, .slice (some ⟨g, 0, none⟩) x.tasks.length c2]) := by show Bk _ _ _ _; rw [← hV]; exact Bk.new rfl
  have hb : Below w2.heap.size w2 w3 := by rw [← hV]; exact (Below.refl _ _).alloc (Nat.le_refl _) _
  have N := Lib.hid (N.out.later hb)
  have B := Lib.hid (B.out.trans (hb.mono B.out.size))
  have G := Lib.hid (G.out.later hb)
  have R := Lib.hid (R.out.low hb hRl2)
  have z3 := hb.size
  have y3 := E.out.lt
  clear hV hb
  have hdr := (Below.refl w3.heap.size w3).drew
  refine wp_region_held_drew (S := (fun V : World => V.cell? ⟨w2.heap.size, 0, none⟩ = some (.int .i64 x.places) ∧ V.cell? ⟨w2.heap.size, 1, none⟩ = some (.slice (some ⟨g, 0, none⟩) x.tasks.length c2))) (by kernel_rfl) ⟨E.out.cell 0, E.out.cell 1⟩ (fun hHeld => ?_)
  generalize w3.drew = w4 at hdr hHeld ⊢
  have E := Lib.hid (E.out.later hdr)
  have N := Lib.hid (N.out.later hdr)
  have B := Lib.hid (B.out.trans (hdr.mono B.out.size))
  have G := Lib.hid (G.out.later hdr)
  have R := Lib.hid (R.out.low hdr (by omega))
  have z4 := hdr.size
  clear hdr
  refine wpAnyH_take (i := 0) (v := ?_) rfl (by kernel_rfl) (by kernel_rfl) (by kernel_rfl) (fun _ _ _ h => h) (Or.inl ⟨by rfl, ?_⟩) (by assumption) ?_
  rotate_left
  · intro V hSw
    (try dsimp only at hSw)
    go_simp
    (try with_reducible rfl)
  simp only [List.getElem_toArray, List.getElem_cons_succ, List.getElem_cons_zero, Act.put, List.setIfInBounds_toArray, List.set_cons_zero, List.set_cons_succ]
  refine wpAnyH_take (i := 1) (v := ?_) rfl (by kernel_rfl) (by kernel_rfl) (by kernel_rfl) (fun _ _ _ h => h) (Or.inl ⟨by rfl, ?_⟩) (by assumption) ?_
  rotate_left
  · intro V hSw
    (try dsimp only at hSw)
    go_simp
    (try with_reducible rfl)
  simp only [List.getElem_toArray, List.getElem_cons_succ, List.getElem_cons_zero, Act.put, List.setIfInBounds_toArray, List.set_cons_zero, List.set_cons_succ]
  refine wpAnyH_take (i := 2) (v := ?_) rfl (by kernel_rfl) (by kernel_rfl) (by kernel_rfl) (fun _ _ _ h => h) (Or.inl ⟨by rfl, ?_⟩) (by assumption) ?_
  rotate_left
  · intro V hSw
    (try dsimp only at hSw)
    go_simp
    (try with_reducible rfl)
  simp only [List.getElem_toArray, List.getElem_cons_succ, List.getElem_cons_zero, Act.put, List.setIfInBounds_toArray, List.set_cons_zero, List.set_cons_succ]
  refine wpAnyH_take (i := 3) (v := ?_) rfl (by kernel_rfl) (by kernel_rfl) (by kernel_rfl) (fun _ _ _ h => h) (Or.inl ⟨by rfl, ?_⟩) (by assumption) ?_
  rotate_left
  · intro V hSw
    (try dsimp only at hSw)
    go_simp
    (try with_reducible rfl)
  simp only [List.getElem_toArray, List.getElem_cons_succ, List.getElem_cons_zero, Act.put, List.setIfInBounds_toArray, List.set_cons_zero, List.set_cons_succ]
  refine wpAnyH_take (i := 4) (v := ?_) rfl (by kernel_rfl) (by kernel_rfl) (by kernel_rfl) (fun _ _ _ h => h) (Or.inl ⟨by rfl, ?_⟩) (by assumption) ?_
  rotate_left
  · intro V hSw
    (try dsimp only at hSw)
    go_simp
    (try with_reducible rfl)
  simp only [List.getElem_toArray, List.getElem_cons_succ, List.getElem_cons_zero, Act.put, List.setIfInBounds_toArray, List.set_cons_zero, List.set_cons_succ]
  refine wpAnyH_take (i := 5) (v := ?_) rfl (by kernel_rfl) (by kernel_rfl) (by kernel_rfl) (fun _ _ _ h => h) (Or.inl ⟨by rfl, ?_⟩) (by assumption) ?_
  rotate_left
  · intro V hSw
    (try dsimp only at hSw)
    go_simp
    (try with_reducible rfl)
  simp only [List.getElem_toArray, List.getElem_cons_succ, List.getElem_cons_zero, Act.put, List.setIfInBounds_toArray, List.set_cons_zero, List.set_cons_succ]
  refine wpAnyH_take (i := 9) (v := ?_) rfl (by kernel_rfl) (by kernel_rfl) (by kernel_rfl) (fun _ _ _ h => h) (Or.inl ⟨by rfl, ?_⟩) (by assumption) ?_
  rotate_left
  · intro V hSw
    (try dsimp only at hSw)
    go_simp
    (try with_reducible rfl)
  simp only [List.getElem_toArray, List.getElem_cons_succ, List.getElem_cons_zero, Act.put, List.setIfInBounds_toArray, List.set_cons_zero, List.set_cons_succ]
  refine wpAnyH_ready (rs := [6]) (by kernel_rfl) (by simp) ?_
  refine AllReadyH.cons rfl (fun K hK => ?_) ?_
  rotate_left
  · exact AllReadyH.nil
  go_simp
  go_wp2_with (go_at_call 116; refine (l20Rd_pick W.heap.size _ (x.tasks.length : Int) _ R.out (by omega) (by omega)).mono ?_; rintro e w6 ⟨v6, rfl, hv60, hv61, _, hr6, ht6⟩; obtain ⟨j, rfl⟩ := Int.eq_ofNat_of_zero_le hv60)
  have N := Lib.hid (N.out.turned ht6 (by omega))
  have E := Lib.hid (E.out.turned ht6 (by omega))
  have B := Lib.hid (turned_below B.out ht6 (by omega) (Nat.le_refl _))
  have G := Lib.hid (G.out.turned ht6 (by omega))
  have zw6 := ht6.size
  have R := Lib.hid hr6
  have hj : j < x.tasks.length := by have := hv61 (by omega); omega
  clear hr6 ht6 hv61 hv60
  refine hK.out _ _ ⟨E.out.cell 0, E.out.cell 1⟩ (fun hHeld => ?_)
  clear hK K
  obtain ⟨cs, ⟨B1, e1, B2, e2, B3, e3, hcs, r1, r2, r3⟩, hcell⟩ := G.out.2.2 j hj
  subst hcs
  generalize x.tasks[j] = y at r1 r2 r3 hcell
  have HCE := Lib.hid hcell
  have HS : Hid (w6.cell? ⟨g, j * 9, none⟩ = some (.int .i64 y.join) ∧ w6.cell? ⟨g, j * 9 + 1, none⟩ = some (.int .i64 y.split) ∧ w6.cell? ⟨g, j * 9 + 2, none⟩ = some (.slice B1 y.inn.length e1) ∧ w6.cell? ⟨g, j * 9 + 3, none⟩ = some (.slice B2 y.out.length e2) ∧ w6.cell? ⟨g, j * 9 + 4, none⟩ = some (.slice B3 y.clear.length e3) ∧ w6.cell? ⟨g, j * 9 + 5, none⟩ = some (.int .i64 y.role) ∧ w6.cell? ⟨g, j * 9 + 6, none⟩ = some (.int .i64 y.apart) ∧ w6.cell? ⟨g, j * 9 + 7, none⟩ = some (.int .i64 y.all) ∧ w6.cell? ⟨g, j * 9 + 8, none⟩ = some (.int .i64 y.need)) := ⟨by have h0 := hcell 0 _ rfl; rw [Nat.add_zero] at h0; exact h0, hcell 1 _ rfl, hcell 2 _ rfl, hcell 3 _ rfl, hcell 4 _ rfl, hcell 5 _ rfl, hcell 6 _ rfl, hcell 7 _ rfl, hcell 8 _ rfl⟩
  have Q1 := Lib.hid r1.1
  have Q2 := Lib.hid r2.1
  have Q3 := Lib.hid r3.1
  clear r1 r2 r3 hcell
  refine wpAnyH_more (S' := fun V : World => (V.cell? ⟨w2.heap.size, 0, none⟩ = some (.int .i64 x.places) ∧ V.cell? ⟨w2.heap.size, 1, none⟩ = some (.slice (some ⟨g, 0, none⟩) x.tasks.length c2)) ∧ V.cell? ⟨g, j * 9, none⟩ = some (.int .i64 y.join) ∧ V.cell? ⟨g, j * 9 + 1, none⟩ = some (.int .i64 y.split) ∧ V.cell? ⟨g, j * 9 + 2, none⟩ = some (.slice B1 y.inn.length e1) ∧ V.cell? ⟨g, j * 9 + 3, none⟩ = some (.slice B2 y.out.length e2) ∧ V.cell? ⟨g, j * 9 + 4, none⟩ = some (.slice B3 y.clear.length e3) ∧ V.cell? ⟨g, j * 9 + 5, none⟩ = some (.int .i64 y.role) ∧ V.cell? ⟨g, j * 9 + 6, none⟩ = some (.int .i64 y.apart) ∧ V.cell? ⟨g, j * 9 + 7, none⟩ = some (.int .i64 y.all) ∧ V.cell? ⟨g, j * 9 + 8, none⟩ = some (.int .i64 y.need)) (fun V h => h.1) ?_
  clear hHeld
  have hHeld : (fun V : World => (V.cell? ⟨w2.heap.size, 0, none⟩ = some (.int .i64 x.places) ∧ V.cell? ⟨w2.heap.size, 1, none⟩ = some (.slice (some ⟨g, 0, none⟩) x.tasks.length c2)) ∧ V.cell? ⟨g, j * 9, none⟩ = some (.int .i64 y.join) ∧ V.cell? ⟨g, j * 9 + 1, none⟩ = some (.int .i64 y.split) ∧ V.cell? ⟨g, j * 9 + 2, none⟩ = some (.slice B1 y.inn.length e1) ∧ V.cell? ⟨g, j * 9 + 3, none⟩ = some (.slice B2 y.out.length e2) ∧ V.cell? ⟨g, j * 9 + 4, none⟩ = some (.slice B3 y.clear.length e3) ∧ V.cell? ⟨g, j * 9 + 5, none⟩ = some (.int .i64 y.role) ∧ V.cell? ⟨g, j * 9 + 6, none⟩ = some (.int .i64 y.apart) ∧ V.cell? ⟨g, j * 9 + 7, none⟩ = some (.int .i64 y.all) ∧ V.cell? ⟨g, j * 9 + 8, none⟩ = some (.int .i64 y.need)) w6 := ⟨⟨E.out.cell 0, E.out.cell 1⟩, HS.out⟩
  have hjz : (j : Int) < (x.tasks.length : Int) := by omega
  have gR : g < w6.heap.size := G.out.lt
  refine wpAnyH_take (i := 7) (v := ?_) rfl (by kernel_rfl) (by kernel_rfl) (by kernel_rfl) (fun _ _ _ h => h) (Or.inl ⟨by rfl, ?_⟩) (by assumption) ?_
  rotate_left
  · intro V hSw
    (try dsimp only at hSw)
    go_simp
    (try with_reducible rfl)
  simp only [List.getElem_toArray, List.getElem_cons_succ, List.getElem_cons_zero, Act.put, List.setIfInBounds_toArray, List.set_cons_zero, List.set_cons_succ]
  refine wpAnyH_take (i := 8) (v := ?_) rfl (by kernel_rfl) (by kernel_rfl) (by kernel_rfl) (fun _ _ _ h => h) (Or.inl ⟨by rfl, ?_⟩) (by assumption) ?_
  rotate_left
  · intro V hSw
    (try dsimp only at hSw)
    go_simp
    (try with_reducible rfl)
  simp only [List.getElem_toArray, List.getElem_cons_succ, List.getElem_cons_zero, Act.put, List.setIfInBounds_toArray, List.set_cons_zero, List.set_cons_succ]
  clear hjz
  refine wpAnyH_ready (rs := [10]) (by kernel_rfl) (by simp) ?_
  refine AllReadyH.cons rfl (fun K hK => ?_) ?_
  rotate_left
  · exact AllReadyH.nil
  go_simp
  go_wp2_with fail
  refine (l20Data _ _ 12 _ R.out (by omega) (by omega)).mono ?_
  rintro e w7 ⟨A3, c3, ds, rfl, hd2, hd4, hrow, hr7, ht7⟩
  have HS : Hid (w7.cell? ⟨g, j * 9, none⟩ = some (.int .i64 y.join) ∧ w7.cell? ⟨g, j * 9 + 1, none⟩ = some (.int .i64 y.split) ∧ w7.cell? ⟨g, j * 9 + 2, none⟩ = some (.slice B1 y.inn.length e1) ∧ w7.cell? ⟨g, j * 9 + 3, none⟩ = some (.slice B2 y.out.length e2) ∧ w7.cell? ⟨g, j * 9 + 4, none⟩ = some (.slice B3 y.clear.length e3) ∧ w7.cell? ⟨g, j * 9 + 5, none⟩ = some (.int .i64 y.role) ∧ w7.cell? ⟨g, j * 9 + 6, none⟩ = some (.int .i64 y.apart) ∧ w7.cell? ⟨g, j * 9 + 7, none⟩ = some (.int .i64 y.all) ∧ w7.cell? ⟨g, j * 9 + 8, none⟩ = some (.int .i64 y.need)) := by
    have hk : ∀ i, w7.cell? ⟨g, i, none⟩ = w6.cell? ⟨g, i, none⟩ := fun i => World.cell?_of_block (ht7.block g gR (by omega))
    have h := HS.out
    refine ⟨(hk _).trans h.1, (hk _).trans h.2.1, (hk _).trans h.2.2.1, (hk _).trans h.2.2.2.1, (hk _).trans h.2.2.2.2.1, (hk _).trans h.2.2.2.2.2.1, (hk _).trans h.2.2.2.2.2.2.1, (hk _).trans h.2.2.2.2.2.2.2.1, (hk _).trans h.2.2.2.2.2.2.2.2⟩
  have N := Lib.hid (N.out.turned ht7 (by omega))
  have E := Lib.hid (E.out.turned ht7 (by omega))
  have B := Lib.hid (turned_below B.out ht7 (by omega) (Nat.le_refl _))
  have G := Lib.hid (G.out.turned ht7 (by omega))
  have zw7 := ht7.size
  have Q1 := Lib.hid (rows_turnedS Q1.out ht7 (by omega))
  have Q2 := Lib.hid (rows_turnedS Q2.out ht7 (by omega))
  have Q3 := Lib.hid (rows_turnedS Q3.out ht7 (by omega))
  have D := Lib.hid (hrow.weak (Weaker.some (by omega : W.heap.size + 1 ≤ w6.heap.size)))
  clear hrow hr7 ht7 R
  refine hK.out _ _ ⟨⟨E.out.cell 0, E.out.cell 1⟩, HS.out⟩ (fun hHeld => ?_)
  clear hK K
  have kN := fun i => N.out.cell i
  have fN := fun i => N.out.frozen i
  refine wpAnyH_ready (rs := [11]) (by kernel_rfl) (by simp) ?_
  refine AllReadyH.cons rfl (fun K hK => ?_) AllReadyH.nil
  go_simp
  generalize hV2 : (World.setCell (World.setCell (World.setCell (World.setCell (World.setCell (World.setCell (World.setCell (World.setCell (World.setCell w7 _ _) _ _) _ _) _ _) _ _) _ _) _ _) _ _) _ _) = V2
  have hput := task_put N.out (b0 := .int .i64 y.join) (b1 := .int .i64 y.split) (b2 := .slice B1 y.inn.length e1) (b3 := .slice B2 y.out.length e2) (b4 := .slice B3 y.clear.length e3) (b5 := .int .i64 y.role) (b6 := .int .i64 y.apart) (b7 := .int .i64 y.all) (b8 := .int .i64 y.need)
  rw [hV2] at hput
  obtain ⟨bV, hbl0, hsz, vo, vt, vu⟩ := hput
  have hbl : ∀ b, w.heap.size + 1 ≤ b → V2.heap[b]? = w7.heap[b]? := fun b h1 => hbl0 b (by omega)
  have q1 : Rows intC (some (W.heap.size + 1)) V2 V2.heap.size B1 y.inn := (Q1.out.keep fun b _ hl => hbl b (by have := hl _ rfl; omega)).more (by omega)
  have q2 : Rows flowC (some (W.heap.size + 1)) V2 V2.heap.size B2 y.out := (Q2.out.keep fun b _ hl => hbl b (by have := hl _ rfl; omega)).more (by omega)
  have q3 : Rows intC (some (W.heap.size + 1)) V2 V2.heap.size B3 y.clear := (Q3.out.keep fun b _ hl => hbl b (by have := hl _ rfl; omega)).more (by omega)
  have dV : Rows intC (some (W.heap.size + 1)) V2 V2.heap.size A3 ds := (D.out.keep fun b _ hl => hbl b (by have := hl _ rfl; omega)).more (by omega)
  have eV : Bk V2 w2.heap.size 37 #[.int .i64 x.places, .slice (some ⟨g, 0, none⟩) x.tasks.length c2] := (hbl _ (by omega)).trans E.out
  have hk : ∀ i, V2.cell? ⟨g, i, none⟩ = w7.cell? ⟨g, i, none⟩ := fun i => World.cell?_of_block (hbl g (by omega))
  have h := HS.out
  have tV : Below w.heap.size w V2 := ⟨vo.trans B.out.os, vt.trans B.out.tape, vu.trans B.out.output, by rw [hsz]; exact B.out.size, fun b hb => (hbl0 b (by omega)).trans (B.out.block b hb)⟩
  clear hV2 kN fN
  refine hK.out _ _ ⟨⟨eV.cell 0, eV.cell 1⟩, (hk _).trans h.1, (hk _).trans h.2.1, (hk _).trans h.2.2.1, (hk _).trans h.2.2.2.1, (hk _).trans h.2.2.2.2.1, (hk _).trans h.2.2.2.2.2.1, (hk _).trans h.2.2.2.2.2.2.1, (hk _).trans h.2.2.2.2.2.2.2.1, (hk _).trans h.2.2.2.2.2.2.2.2⟩ (fun hHeld => ?_)
  clear hK K
  refine wpAnyH_take (i := 12) (v := ?_) rfl (by kernel_rfl) (by kernel_rfl) (by kernel_rfl) (fun _ _ _ h => h) (Or.inl ⟨by rfl, ?_⟩) (by assumption) ?_
  rotate_left
  · intro V hSw
    (try dsimp only at hSw)
    go_simp
    (try with_reducible rfl)
  simp only [List.getElem_toArray, List.getElem_cons_succ, List.getElem_cons_zero, Act.put, List.setIfInBounds_toArray, List.set_cons_zero, List.set_cons_succ]
  refine wpAnyH_done (by kernel_rfl) ?_ _
  go_wp2
  have k1 := fun i => bV.cell i
  refine bodyPost_ret (v := .tuple #[.agg (taskW y B1 e1 B2 e2 B3 e3), .slice A3 ds.length c3]) (by simp [results, Try.results38, go_sem, k1]) rfl ?_
  exact ⟨y, B1, e1, B2, e2, B3, e3, A3, c3, ds, rfl, q1.weak (Weaker.some (by omega)), q2.weak (Weaker.some (by omega)), q3.weak (Weaker.some (by omega)), dV.ints, hd4, tV⟩

set_option maxRecDepth 100000 in
set_option maxHeartbeats 4000000 in
theorem spec_DrawSplAll (A : Option Addr) (c : Nat) (xs : List Int) (w : World) (h : Code w w.heap.size A c xs) :
    Calls Try.prog 37 #[.slice A xs.length c] w (DrawnT w) := by
  have HC := Lib.hid h
  clear h
  go_enter Try.func37, Try.ntmps37
  go_wp2_with fail
  refine callsAt fun W hW => ?_
  have bN : Bk W w.heap.size 42 #[.int .i64 0, .int .i64 0, .slice none 0 0, .slice none 0 0, .slice none 0 0, .int .i64 0, .int .i64 0, .int .i64 0, .int .i64 0] := by rw [hW]; exact Bk.new rfl
  have hB : Below w.heap.size w W := by rw [hW]; exact (Below.refl _ _).alloc (Nat.le_refl _) _
  have HC1 : Hid (Code W W.heap.size A c xs) := by show Code _ _ _ _ _; exact HC.out.later hB
  clear hW
  refine (spec_DrawSplTo A c xs W HC1.out).mono ?_
  rintro e w1 ⟨y, B1, e1, B2, e2, B3, e3, AD, cD, ds, rfl, r1, r2, r3, _, _, hb⟩
  have N := Lib.hid (bN.later hb)
  have B := Lib.hid (hB.trans (hb.mono hB.size))
  have hs3 := bN.lt
  have Q1 := Lib.hid (r1.weak (Weaker.some (by omega : w.heap.size + 1 ≤ W.heap.size)))
  have Q2 := Lib.hid (r2.weak (Weaker.some (by omega : w.heap.size + 1 ≤ W.heap.size)))
  have Q3 := Lib.hid (r3.weak (Weaker.some (by omega : w.heap.size + 1 ≤ W.heap.size)))
  have hs := hB.size
  have hs2 := hb.size
  have hlt := N.out.lt
  clear bN hB r1 r2 r3 hb
  unfold taskW
  have kN := fun i => N.out.cell i
  have fN := fun i => N.out.frozen i
  go_upto_region 2 with fail
  generalize hV : World.alloc w1 _ = w3
  have E : Hid (Bk w3 w1.heap.size 42 (taskW y B1 e1 B2 e2 B3 e3)) := by show Bk _ _ _ _; rw [← hV]; exact Bk.new rfl
  have hb : Below w1.heap.size w1 w3 := by rw [← hV]; exact (Below.refl _ _).alloc (Nat.le_refl _) _
  have N := Lib.hid (N.out.later hb)
  have B := Lib.hid (B.out.trans (hb.mono B.out.size))
  have Q1 := Lib.hid (Q1.out.later hb)
  have Q2 := Lib.hid (Q2.out.later hb)
  have Q3 := Lib.hid (Q3.out.later hb)
  clear hV hb kN fN
  have kN := fun i => N.out.cell i
  have fN := fun i => N.out.frozen i
  have kE := fun i => E.out.cell i
  go_wp2
  generalize hV2 : (World.setCell (World.setCell (World.setCell (World.setCell (World.setCell (World.setCell (World.setCell (World.setCell (World.setCell w3 _ _) _ _) _ _) _ _) _ _) _ _) _ _) _ _) _ _) = V2
  have hput := task_put N.out (b0 := .int .i64 y.join) (b1 := .int .i64 y.split) (b2 := .slice B1 y.inn.length e1) (b3 := .slice B2 y.out.length e2) (b4 := .slice B3 y.clear.length e3) (b5 := .int .i64 y.role) (b6 := .int .i64 y.apart) (b7 := .int .i64 y.all) (b8 := .int .i64 y.need)
  rw [hV2] at hput
  obtain ⟨bV, hbl, hsz, vo, vt, vu⟩ := hput
  have tV : Below w.heap.size w V2 := ⟨vo.trans B.out.os, vt.trans B.out.tape, vu.trans B.out.output, by rw [hsz]; exact B.out.size, fun b hb => (hbl b (by omega)).trans (B.out.block b hb)⟩
  have ag : ∀ {α : Type} {C : Cod α} {A : Option Addr} {zs : List α}, Rows C (some (w.heap.size + 1)) w3 w3.heap.size A zs → Rows C none V2 V2.heap.size A zs := fun hr => ((hr.keep fun b _ hl => hbl b (by have := hl _ rfl; omega)).more (by omega)).weak (Weaker.none _)
  have q1 := ag Q1.out
  have q2 := ag Q2.out
  have q3 := ag Q3.out
  clear hV2 kN fN kE ag
  have k1 := fun i => bV.cell i
  refine bodyPost_ret (v := .agg (taskW y B1 e1 B2 e2 B3 e3)) (by simp [results, Try.results37, go_sem, k1]) rfl ?_
  exact ⟨y, B1, e1, B2, e2, B3, e3, rfl, q1, q2, q3, tV⟩
end Go.Proofs.Ytkkjljpokannkaa
