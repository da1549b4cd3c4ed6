/- Rules marked: their copy's cells are turned, and nothing else. -/
import Derived.Test.YtjieilicjdoaaaaRuleArg
import Derived.Test.YtjieilicjdoaaaaIntAt
namespace Go.Proofs.Ytjieilicjdoaaaa
open Go.RowKit

/-- The rules t lie in block g of the call's own, in cells that are ints but for the data, whose rows lie in later blocks, below hi. -/
def TreeAt (w : World) (g hi : Nat) (t : List GRule) : Prop :=
  (∃ cur T, w.heap[g]? = some (.cells cur T (0, 0))) ∧ ∀ (j : Nat) (hj : j < t.length),
    (∀ i, i < 6 → ∃ z : Int, w.cell? ⟨g, j * 7 + i, none⟩ = some (.int .i64 z)) ∧
    ∃ A c, w.cell? ⟨g, j * 7 + 6, none⟩ = some (.slice A t[j].stone.length c) ∧ (0 < t[j].stone.length → ∃ g' o, A = some ⟨g', o, none⟩ ∧ IntAt w g' o t[j].stone.length ∧ g + 1 ≤ g' ∧ g' < hi)

section
variable {w w' : World} {g hi : Nat} {t : List GRule}
theorem TreeAt.frozen (h : TreeAt w g hi t) (i : Nat) : w.frozen? ⟨g, i, none⟩ = false := by
  obtain ⟨⟨cur, T, hc⟩, _⟩ := h
  exact frozen_of_row w g i cur T hc
theorem TreeAt.later (h : TreeAt w g hi t) {B : Nat} (hb : Below B w w') (hg : g < B) (hh : hi ≤ B) : TreeAt w' g hi t := by
  obtain ⟨⟨cur, T, hc⟩, h2⟩ := h
  refine ⟨⟨cur, T, (hb.block g hg).trans hc⟩, fun j hj => ?_⟩
  obtain ⟨h3, A, c, h4, h5⟩ := h2 j hj
  refine ⟨fun i hi' => ?_, A, c, (hb.cell (p := ⟨g, j * 7 + 6, none⟩) hg).trans h4, fun hn => ?_⟩
  · obtain ⟨z, hz⟩ := h3 i hi'
    exact ⟨z, (hb.cell (p := ⟨g, j * 7 + i, none⟩) hg).trans hz⟩
  · obtain ⟨g', o, e1, e2, e3, e4⟩ := h5 hn
    exact ⟨g', o, e1, e2.later hb (by omega), e3, e4⟩
/-- One of the first six cells of rule k marked. -/
theorem TreeAt.set (h : TreeAt w g hi t) (k i : Nat) (hi' : i < 6) (z : Int) : TreeAt (w.setCell ⟨g, k * 7 + i, none⟩ (.int .i64 z)) g hi t := by
  obtain ⟨⟨cur, T, hc⟩, h2⟩ := h
  refine ⟨⟨_, T, heap_setCell_same w g (k * 7 + i) cur T _ hc⟩, fun j hj => ?_⟩
  obtain ⟨h3, A, c, h4, h5⟩ := h2 j hj
  refine ⟨fun i2 hi2 => ?_, A, c, ?_, fun hn => ?_⟩
  · obtain ⟨y, hy⟩ := h3 i2 hi2
    by_cases he : (⟨g, j * 7 + i2, none⟩ : Addr) = ⟨g, k * 7 + i, none⟩
    · rw [← he]
      exact ⟨z, World.cell?_setCell_same w _ _ hy⟩
    · exact ⟨y, by rw [World.cell?_setCell_other _ _ _ _ (fun e => he e.symm)]; exact hy⟩
  · rw [World.cell?_setCell_other _ _ _ _ (fun e => by simp only [Addr.mk.injEq, true_and, and_true] at e; omega)]
    exact h4
  · obtain ⟨g', o, e1, e2, e3, e4⟩ := h5 hn
    exact ⟨g', o, e1, e2.any _ rfl z, e3, e4⟩
/-- The data of a rule marked. -/
theorem TreeAt.data (h : TreeAt w g hi t) (hin : Inside (g + 1) hi w w') (hk : ∀ g o n, IntAt w g o n → IntAt w' g o n) : TreeAt w' g hi t := by
  obtain ⟨⟨cur, T, hc⟩, h2⟩ := h
  have hg : w'.heap[g]? = w.heap[g]? := hin.block g (.inl (by omega))
  refine ⟨⟨cur, T, hg.trans hc⟩, fun j hj => ?_⟩
  obtain ⟨h3, A, c, h4, h5⟩ := h2 j hj
  refine ⟨fun i hi' => ?_, A, c, (World.cell?_of_block (a := ⟨g, j * 7 + 6, none⟩) hg).trans h4, fun hn => ?_⟩
  · obtain ⟨z, hz⟩ := h3 i hi'
    exact ⟨z, (World.cell?_of_block (a := ⟨g, j * 7 + i, none⟩) hg).trans hz⟩
  · obtain ⟨g', o, e1, e2, e3, e4⟩ := h5 hn
    exact ⟨g', o, e1, hk _ _ _ e2, e3, e4⟩
theorem TreeAt.of_filled {T : TypeId} {zc : List Value} (h : Filled ruleC w g T zc t t.length) : TreeAt w g w.heap.size t := by
  obtain ⟨css, h1, h2, h3⟩ := h
  obtain ⟨cur, hc, _⟩ := id h3
  refine ⟨⟨cur, T, hc⟩, fun j hj => ?_⟩
  have hjc : css[j]? = some (css[j]'(by omega)) := List.getElem?_eq_getElem (by omega)
  obtain ⟨x, hx, hR⟩ := h2 j _ hjc
  obtain rfl : x = t[j] := by rw [List.getElem?_eq_getElem hj] at hx; exact (Option.some.inj hx).symm
  obtain ⟨A, c, hcs, hrow⟩ := hR
  have hcell : ∀ i u, (css[j]'(by omega))[i]? = some u → w.cell? ⟨g, j * 7 + i, none⟩ = some u := fun i u hu => by
    refine h3.cell ?_
    have h5 := flat_get css ruleC.k (Filled.clen h2) hjc hu
    rw [List.getElem?_append_left (by exact (List.getElem?_eq_some_iff.1 h5).1)]
    exact h5
  rw [hcs] at hcell
  refine ⟨fun i hi => ?_, A, c, hcell 6 _ rfl, fun hn => ?_⟩
  · rcases (by omega : i = 0 ∨ i = 1 ∨ i = 2 ∨ i = 3 ∨ i = 4 ∨ i = 5) with rfl | rfl | rfl | rfl | rfl | rfl
    · exact ⟨_, hcell 0 _ rfl⟩
    · exact ⟨_, hcell 1 _ rfl⟩
    · exact ⟨_, hcell 2 _ rfl⟩
    · exact ⟨_, hcell 3 _ rfl⟩
    · exact ⟨_, hcell 4 _ rfl⟩
    · exact ⟨_, hcell 5 _ rfl⟩
  · exact ints_at hrow hn
end

set_option maxRecDepth 100000 in
set_option maxHeartbeats 2000000 in
theorem laws_markRdrNodeS (g c : Nat) (t : List GRule) (k : Int) (w : World) (lo hi : Nat) (h : TreeAt w g hi t) (hlo : lo ≤ g) (hhi : g < hi) (hl : t.length ≤ 1048576) (hs : ∀ x ∈ t, x.stone.length ≤ 1048576) (hk0 : 0 ≤ k) (hk : k ≤ 10) :
    Calls Try.prog 14 #[.slice (some ⟨g, 0, none⟩) t.length c, .int .i64 k] w fun e w' => (∃ v : Int, e = .returned (.int .i64 v) ∧ 0 ≤ v ∧ v ≤ 4000000000000) ∧ Inside lo hi w w' := by
  have HH := Lib.hid h
  have HSM := Lib.hid hs
  clear h hs
  go_enter Try.func14, Try.ntmps14
  go_wp2
  go_loopg [1, 5] t.length (fun gg s1 s5 wr => ∃ (j : Nat) (v : Int), j ≤ t.length ∧ t.length - j ≤ gg ∧ s5 = .int .i64 j ∧ s1 = .int .i64 v ∧ 0 ≤ v ∧ v ≤ 10 + j * 2000000 ∧ Aside (Inside lo hi w wr) ∧ Aside (TreeAt wr g hi t))
  case atStart => exact ⟨0, k, Nat.zero_le _, by omega, rfl, rfl, hk0, by omega, Inside.refl _ _ _, HH.out⟩
  case round =>
    obtain ⟨j, v, hj, hg, rfl, rfl, hv0, hv1, IN, TA⟩ := hrel
    by_cases hlt : j < t.length
    · have hltz : (j : Int) < (t.length : Int) := by omega
      obtain ⟨h3, A, c1, h4, h5⟩ := TA.out.2 j hlt
      obtain ⟨z0, y0⟩ := h3 0 (by omega)
      obtain ⟨z1, y1⟩ := h3 1 (by omega)
      obtain ⟨z2, y2⟩ := h3 2 (by omega)
      obtain ⟨z3, y3⟩ := h3 3 (by omega)
      obtain ⟨z4, y4⟩ := h3 4 (by omega)
      obtain ⟨z5, y5⟩ := h3 5 (by omega)
      rw [Nat.add_zero] at y0
      have hfr := fun i => TA.out.frozen i
      have hsl := HSM.out t[j] (List.getElem_mem hlt)
      clear h3 h5
      go_upto_region 16 with fail
      have T6 := Lib.hid ((((((TA.out.set j 0 (by omega) v).set j 1 (by omega) (v + 1)).set j 2 (by omega) (v + 1 + 1)).set j 3 (by omega) (v + 1 + 1 + 1)).set j 4 (by omega) (v + 1 + 1 + 1 + 1)).set j 5 (by omega) (v + 1 + 1 + 1 + 1 + 1))
      have I6 := Lib.hid ((((((IN.out.trans (Inside.setCell (p := ⟨g, j * 7 + 0, none⟩) hlo hhi (.int .i64 v))).trans (Inside.setCell (p := ⟨g, j * 7 + 1, none⟩) hlo hhi (.int .i64 (v + 1)))).trans (Inside.setCell (p := ⟨g, j * 7 + 2, none⟩) hlo hhi (.int .i64 (v + 1 + 1)))).trans (Inside.setCell (p := ⟨g, j * 7 + 3, none⟩) hlo hhi (.int .i64 (v + 1 + 1 + 1)))).trans (Inside.setCell (p := ⟨g, j * 7 + 4, none⟩) hlo hhi (.int .i64 (v + 1 + 1 + 1 + 1)))).trans (Inside.setCell (p := ⟨g, j * 7 + 5, none⟩) hlo hhi (.int .i64 (v + 1 + 1 + 1 + 1 + 1))))
      rw [Nat.add_zero] at T6 I6
      generalize hU : (((((wr.setCell _ _).setCell _ _).setCell _ _).setCell _ _).setCell _ _).setCell _ _ = U at T6 I6 ⊢
      clear hU y0 y1 y2 y3 y4 y5 h4 hfr TA IN
      obtain ⟨_, A, c1, h4, h5⟩ := T6.out.2 j hlt
      go_wp2_with fail
      refine (mark_ints A c1 t[j].stone.length _ U (g + 1) hi h5 (by omega) (by omega) (by omega)).mono ?_
      rintro e w1 ⟨rfl, in1, kk⟩
      have T7 := Lib.hid (T6.out.data in1 kk)
      have I7 := Lib.hid (I6.out.trans (⟨in1.os, in1.tape, in1.output, in1.size, fun b hb => in1.block b (by omega)⟩ : Inside lo hi U w1))
      clear in1 kk h4 h5
      go_wp2
      go_roundg (t.length - (j + 1))
      case measure => omega
      case rel => exact ⟨j + 1, _, by omega, by omega, by go_num, rfl, by omega, by omega, I7.out, T7.out⟩
    · have hltz : ¬ (j : Int) < (t.length : Int) := by omega
      go_wp2
      go_ret
      exact ⟨⟨v, rfl, hv0, by omega⟩, IN.out⟩
end Go.Proofs.Ytjieilicjdoaaaa
