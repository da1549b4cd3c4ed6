/- Nets to be marked: their copy's cells are ints but for the slices, whose rows lie in later blocks. -/
import Derived.Test.YtkkjljpokannkaaCopyNet
import Derived.Test.YtkkjljpokannkaaIntAt
namespace Go.Proofs.Ytkkjljpokannkaa
open Go.RowKit

/-- The slice at a cell of a task to be marked. -/
def SlAt (w : World) (g hi o len m : Nat) : Prop :=
  ∃ A c, w.cell? ⟨g, o, none⟩ = some (.slice A len c) ∧ (0 < len → ∃ g' o', A = some ⟨g', o', none⟩ ∧ IntAt w g' o' (len * m) ∧ g + 1 ≤ g' ∧ g' < hi)

/-- The tasks ts lie in block g of the call's own, in cells that are ints but for three slices, whose rows lie in later blocks, below hi. -/
def NetAt (w : World) (g hi : Nat) (ts : List GTask) : Prop :=
  (∃ cur T, w.heap[g]? = some (.cells cur T (0, 0))) ∧ ∀ (j : Nat) (hj : j < ts.length),
    (∀ i, (i < 2 ∨ (5 ≤ i ∧ i < 9)) → ∃ z : Int, w.cell? ⟨g, j * 9 + i, none⟩ = some (.int .i64 z)) ∧
    SlAt w g hi (j * 9 + 2) ts[j].inn.length 1 ∧ SlAt w g hi (j * 9 + 3) ts[j].out.length 4 ∧ SlAt w g hi (j * 9 + 4) ts[j].clear.length 1

section
variable {w w' : World} {g hi : Nat} {ts : List GTask}
theorem SlAt.later {o len m : Nat} (h : SlAt w g hi o len m) {B : Nat} (hb : Below B w w') (hg : g < B) (hh : hi ≤ B) : SlAt w' g hi o len m := by
  obtain ⟨A, c, h1, h2⟩ := h
  refine ⟨A, c, (hb.cell (p := ⟨g, o, none⟩) hg).trans h1, fun hn => ?_⟩
  obtain ⟨g', o', e1, e2, e3, e4⟩ := h2 hn
  exact ⟨g', o', e1, e2.later hb (by omega), e3, e4⟩
theorem SlAt.set {o len m : Nat} (h : SlAt w g hi o len m) (i : Nat) (hi' : i ≠ o) (z : Int) : SlAt (w.setCell ⟨g, i, none⟩ (.int .i64 z)) g hi o len m := by
  obtain ⟨A, c, h1, h2⟩ := h
  refine ⟨A, c, ?_, fun hn => ?_⟩
  · rw [World.cell?_setCell_other _ _ _ _ (fun e => by simp only [Addr.mk.injEq, true_and, and_true] at e; omega)]
    exact h1
  · obtain ⟨g', o', e1, e2, e3, e4⟩ := h2 hn
    exact ⟨g', o', e1, e2.any _ rfl z, e3, e4⟩
theorem SlAt.data {o len m : Nat} (h : SlAt w g hi o len m) (hin : Inside (g + 1) hi w w') (hk : ∀ g o n, IntAt w g o n → IntAt w' g o n) : SlAt w' g hi o len m := by
  obtain ⟨A, c, h1, h2⟩ := h
  have hg : w'.heap[g]? = w.heap[g]? := hin.block g (.inl (by omega))
  refine ⟨A, c, (World.cell?_of_block (a := ⟨g, o, none⟩) hg).trans h1, fun hn => ?_⟩
  obtain ⟨g', o', e1, e2, e3, e4⟩ := h2 hn
  exact ⟨g', o', e1, hk _ _ _ e2, e3, e4⟩
theorem NetAt.frozen (h : NetAt w g hi ts) (i : Nat) : w.frozen? ⟨g, i, none⟩ = false := by
  obtain ⟨⟨cur, T, hc⟩, _⟩ := h
  exact frozen_of_row w g i cur T hc
theorem NetAt.later (h : NetAt w g hi ts) {B : Nat} (hb : Below B w w') (hg : g < B) (hh : hi ≤ B) : NetAt w' g hi ts := by
  obtain ⟨⟨cur, T, hc⟩, h2⟩ := h
  refine ⟨⟨cur, T, (hb.block g hg).trans hc⟩, fun j hj => ?_⟩
  obtain ⟨h3, a, b, c⟩ := h2 j hj
  refine ⟨fun i hi' => ?_, a.later hb hg hh, b.later hb hg hh, c.later hb hg hh⟩
  obtain ⟨z, hz⟩ := h3 i hi'
  exact ⟨z, (hb.cell (p := ⟨g, j * 9 + i, none⟩) hg).trans hz⟩
/-- One of the plain cells of task k marked. -/
theorem NetAt.set (h : NetAt w g hi ts) (k i : Nat) (hi' : i < 2 ∨ (5 ≤ i ∧ i < 9)) (z : Int) : NetAt (w.setCell ⟨g, k * 9 + i, none⟩ (.int .i64 z)) g hi ts := by
  obtain ⟨⟨cur, T, hc⟩, h2⟩ := h
  refine ⟨⟨_, T, heap_setCell_same w g (k * 9 + i) cur T _ hc⟩, fun j hj => ?_⟩
  obtain ⟨h3, a, b, c⟩ := h2 j hj
  refine ⟨fun i2 hi2 => ?_, a.set _ (by omega) z, b.set _ (by omega) z, c.set _ (by omega) z⟩
  obtain ⟨y, hy⟩ := h3 i2 hi2
  by_cases he : (⟨g, j * 9 + i2, none⟩ : Addr) = ⟨g, k * 9 + i, none⟩
  · rw [← he]
    exact ⟨z, World.cell?_setCell_same w _ _ hy⟩
  · exact ⟨y, by rw [World.cell?_setCell_other _ _ _ _ (fun e => he e.symm)]; exact hy⟩
/-- A slice's row marked. -/
theorem NetAt.data (h : NetAt w g hi ts) (hin : Inside (g + 1) hi w w') (hk : ∀ g o n, IntAt w g o n → IntAt w' g o n) : NetAt w' g hi ts := by
  obtain ⟨⟨cur, T, hc⟩, h2⟩ := h
  have hg : w'.heap[g]? = w.heap[g]? := hin.block g (.inl (by omega))
  refine ⟨⟨cur, T, hg.trans hc⟩, fun j hj => ?_⟩
  obtain ⟨h3, a, b, c⟩ := h2 j hj
  refine ⟨fun i hi' => ?_, a.data hin hk, b.data hin hk, c.data hin hk⟩
  obtain ⟨z, hz⟩ := h3 i hi'
  exact ⟨z, (World.cell?_of_block (a := ⟨g, j * 9 + i, none⟩) hg).trans hz⟩
theorem flows_at {lo B : Nat} {w : World} {A : Option Addr} {xs : List GFlow} (h : Rows flowC (some lo) w B A xs) (hn : 0 < xs.length) : ∃ g off, A = some ⟨g, off, none⟩ ∧ IntAt w g off (xs.length * 4) ∧ lo ≤ g ∧ g < B :=
  Rows.intAt (k := 4) (cells := GFlow.cells) (hk := fun _ => rfl) (fun x i hi => by
    rcases (by omega : i = 0 ∨ i = 1 ∨ i = 2 ∨ i = 3) with rfl | rfl | rfl | rfl
    · exact ⟨_, rfl⟩
    · exact ⟨_, rfl⟩
    · exact ⟨_, rfl⟩
    · exact ⟨_, rfl⟩) (by decide) h hn
theorem NetAt.of_filled {T : TypeId} {zc : List Value} (h : Filled taskC w g T zc ts ts.length) : NetAt w g w.heap.size ts := by
  obtain ⟨css, h1, h2, h3⟩ := h
  obtain ⟨cur, hc, _⟩ := id h3
  refine ⟨⟨cur, T, hc⟩, fun j hj => ?_⟩
  have hjc : css[j]? = some (css[j]'(by omega)) := List.getElem?_eq_getElem (by omega)
  obtain ⟨x, hx, hR⟩ := h2 j _ hjc
  obtain rfl : x = ts[j] := by rw [List.getElem?_eq_getElem hj] at hx; exact (Option.some.inj hx).symm
  obtain ⟨A1, c1, A2, c2, A3, c3, hcs, r1, r2, r3⟩ := hR
  have hcell : ∀ i u, (css[j]'(by omega))[i]? = some u → w.cell? ⟨g, j * 9 + i, none⟩ = some u := fun i u hu => by
    refine h3.cell ?_
    have h5 := flat_get css taskC.k (Filled.clen h2) hjc hu
    rw [List.getElem?_append_left (by exact (List.getElem?_eq_some_iff.1 h5).1)]
    exact h5
  rw [hcs] at hcell
  refine ⟨fun i hi => ?_, ⟨A1, c1, hcell 2 _ rfl, fun hn => ?_⟩, ⟨A2, c2, hcell 3 _ rfl, fun hn => flows_at r2 hn⟩, ⟨A3, c3, hcell 4 _ rfl, fun hn => ?_⟩⟩
  · rcases (by omega : i = 0 ∨ i = 1 ∨ i = 5 ∨ i = 6 ∨ i = 7 ∨ i = 8) with rfl | rfl | rfl | rfl | rfl | rfl
    · exact ⟨_, hcell 0 _ rfl⟩
    · exact ⟨_, hcell 1 _ rfl⟩
    · exact ⟨_, hcell 5 _ rfl⟩
    · exact ⟨_, hcell 6 _ rfl⟩
    · exact ⟨_, hcell 7 _ rfl⟩
    · exact ⟨_, hcell 8 _ rfl⟩
  · rw [Nat.mul_one]; exact ints_at r1 hn
  · rw [Nat.mul_one]; exact ints_at r3 hn
end

set_option maxHeartbeats 1000000 in
theorem mark_flows (A : Option Addr) (c : Nat) (len : Nat) (k : Int) (w : World) (lo hi : Nat) (h : 0 < len → ∃ g off, A = some ⟨g, off, none⟩ ∧ IntAt w g off (len * 4) ∧ lo ≤ g ∧ g < hi) (hl : len ≤ 16777216) (hk0 : 0 ≤ k) (hk : k ≤ 4611686018427387904) :
    Calls Try.prog 114 #[.slice A len c, .int .i64 k] w (MarkedK lo hi (k + len * 4) w) := by
  have HH := Lib.hid h
  clear h
  go_enter Try.func114, Try.ntmps114
  go_wp2
  go_loopg [1, 5] len (fun gg s1 s5 wr => ∃ j : Nat, j ≤ len ∧ len - j ≤ gg ∧ s5 = .int .i64 j ∧ s1 = .int .i64 (k + j * 4) ∧ Aside (Inside lo hi w wr) ∧ Aside (∀ g o n, IntAt w g o n → IntAt wr g o n))
  case atStart => exact ⟨0, Nat.zero_le _, by omega, rfl, by simp, Inside.refl _ _ _, fun _ _ _ h => h⟩
  case round =>
    obtain ⟨j, hj, hg, rfl, rfl, IN, IK⟩ := hrel
    by_cases hlt : j < len
    · have hltz : (j : Int) < (len : Int) := by omega
      obtain ⟨g, off, rfl, hR0, hlo, hhi⟩ := HH.out (by omega)
      have hR := IK.out _ _ _ hR0
      obtain ⟨z0, hz0⟩ : ∃ z, wr.cell? ⟨g, off + j * 4, none⟩ = some (.int .i64 z) := by have h := hR.2 (j * 4) (by omega); exact h
      obtain ⟨z1, hz1⟩ : ∃ z, wr.cell? ⟨g, off + j * 4 + 1, none⟩ = some (.int .i64 z) := by have h := hR.2 (j * 4 + 1) (by omega); rwa [← Nat.add_assoc] at h
      obtain ⟨z2, hz2⟩ : ∃ z, wr.cell? ⟨g, off + j * 4 + 2, none⟩ = some (.int .i64 z) := by have h := hR.2 (j * 4 + 2) (by omega); rwa [← Nat.add_assoc] at h
      obtain ⟨z3, hz3⟩ : ∃ z, wr.cell? ⟨g, off + j * 4 + 3, none⟩ = some (.int .i64 z) := by have h := hR.2 (j * 4 + 3) (by omega); rwa [← Nat.add_assoc] at h
      have hfr := fun i => hR.frozen i
      have HI := Lib.hid ((((IN.out.trans (Inside.setCell (p := ⟨g, off + j * 4, none⟩) hlo hhi (.int .i64 (k + j * 4)))).trans (Inside.setCell (p := ⟨g, off + j * 4 + 1, none⟩) hlo hhi (.int .i64 (k + j * 4 + 1)))).trans (Inside.setCell (p := ⟨g, off + j * 4 + 2, none⟩) hlo hhi (.int .i64 (k + j * 4 + 1 + 1)))).trans (Inside.setCell (p := ⟨g, off + j * 4 + 3, none⟩) hlo hhi (.int .i64 (k + j * 4 + 1 + 1 + 1))))
      have HK := Lib.hid (fun g' o' n' hg' => ((((IK.out g' o' n' hg').any ⟨g, off + j * 4, none⟩ rfl (k + j * 4)).any ⟨g, off + j * 4 + 1, none⟩ rfl (k + j * 4 + 1)).any ⟨g, off + j * 4 + 2, none⟩ rfl (k + j * 4 + 1 + 1)).any ⟨g, off + j * 4 + 3, none⟩ rfl (k + j * 4 + 1 + 1 + 1))
      clear hR hR0
      go_wp2
      go_roundg (len - (j + 1))
      case measure => omega
      case rel => exact ⟨j + 1, by omega, by omega, by go_num, by go_num, HI.out, HK.out⟩
    · have hltz : ¬ (j : Int) < (len : Int) := by omega
      have he : j = len := by omega
      have HE := Lib.hid he
      clear he
      go_wp2
      go_ret
      exact ⟨by rw [HE.out]; rfl, IN.out, IK.out⟩
end Go.Proofs.Ytkkjljpokannkaa
