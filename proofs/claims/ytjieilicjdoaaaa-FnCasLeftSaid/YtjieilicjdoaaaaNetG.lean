/- A net whose tasks lie in block g and whose slices lie elsewhere: it may be turned task by task. -/
import Derived.Test.YtjieilicjdoaaaaShapeTools
namespace Go.Proofs.Ytjieilicjdoaaaa
open Go.RowKit

theorem put_in (cs : List Value) : ∀ (w : World) (g o : Nat) (cur : Array Value) (t : TypeId), w.heap[g]? = some (.cells cur t (0, 0)) → o + cs.length ≤ cur.size →
  (∃ cur', (putCells w g o cs).heap[g]? = some (.cells cur' t (0, 0)) ∧ cur'.size = cur.size) ∧ (∀ i u, cs[i]? = some u → (putCells w g o cs).cell? ⟨g, o + i, none⟩ = some u) ∧
  ∀ i, (i < o ∨ o + cs.length ≤ i) → (putCells w g o cs).cell? ⟨g, i, none⟩ = w.cell? ⟨g, i, none⟩ := by
 induction cs with
 | nil =>
  intro w g o cur t h hl
  exact ⟨⟨cur, h, rfl⟩, fun i u hu => by simp at hu, fun i _ => rfl⟩
 | cons c cs ih =>
  intro w g o cur t h hl
  have h1 := heap_setCell_same w g o cur t c h
  obtain ⟨⟨cur', e1, e2⟩, e3, e4⟩ := ih (w.setCell ⟨g, o, none⟩ c) g (o + 1) _ t h1 (by simp at hl ⊢; omega)
  refine ⟨⟨cur', e1, by rw [e2]; simp⟩, fun i u hu => ?_, fun i hi => ?_⟩
  ·
   cases i with
   | zero =>
    simp only [List.getElem?_cons_zero, Option.some.injEq] at hu
    subst hu
    show (putCells (w.setCell ⟨g, o, none⟩ c) g (o + 1) cs).cell? ⟨g, o, none⟩ = _
    rw [e4 o (.inl (by omega)), cell_of_row _ g o _ t (0, 0) h1]
    simp only [List.length_cons] at hl
    rw [Array.getElem?_setIfInBounds_self_of_lt (by omega)]
   | succ i =>
    have h5 := e3 i u (by simpa using hu)
    rw [show o + 1 + i = o + (i + 1) from by omega] at h5
    exact h5
  ·
   simp only [List.length_cons] at hi
   show (putCells (w.setCell ⟨g, o, none⟩ c) g (o + 1) cs).cell? ⟨g, i, none⟩ = _
   rw [e4 i (by omega)]
   exact World.cell?_setCell_other _ _ _ _ (fun e => by simp only [Addr.mk.injEq, true_and, and_true] at e; omega)

/-- A slice of plain records that lies in a block of its own, from base on, and not in g. -/
def SlR {α : Type} (C : Cod α) (w : World) (base g : Nat) (A : Option Addr) (xs : List α) : Prop :=
 Rows C (some base) w w.heap.size A xs ∧ ∀ b off, 0 < xs.length → A = some ⟨b, off, none⟩ → b ≠ g
theorem SlR.nil {α : Type} {C : Cod α} {w : World} {base g : Nat} {A : Option Addr} : SlR C w base g A [] := ⟨Rows.nil, fun _ _ h => absurd h (by simp)⟩
theorem rows_keep1 {α : Type} {k : Nat} {cells : α → List Value} {hk : ∀ x, (cells x).length = k} {m : Option Nat} {w w' : World} {B : Nat} {A : Option Addr} {xs : List α} (h : Rows (flat k cells hk) m w B A xs)
  (hb : ∀ b off, 0 < xs.length → A = some ⟨b, off, none⟩ → b < B → (∀ lo, m = some lo → lo ≤ b) → w'.heap[b]? = w.heap[b]?) : Rows (flat k cells hk) m w' B A xs :=
 ⟨h.1, fun hl => by
  obtain ⟨b, off, hA, hB, hc⟩ := h.2 hl
  have hh := hb b off hl hA hB.1 (fun lo hlo => (hB.2 lo hlo).1)
  refine ⟨b, off, hA, ⟨hB.1, fun lo hlo => ⟨(hB.2 lo hlo).1, ?_⟩⟩, fun j x hx => ?_⟩
  ·
   obtain ⟨cur, t, hc⟩ := (hB.2 lo hlo).2
   exact ⟨cur, t, hh.trans hc⟩
  ·
   obtain ⟨cs, hR, hcs⟩ := hc j x hx
   exact ⟨cs, hR, fun i u hu => (World.cell?_of_block hh).trans (hcs i u hu)⟩⟩
section
variable {α : Type} {k : Nat} {cells : α → List Value} {hk : ∀ x, (cells x).length = k} {w w' : World} {base base' g : Nat} {A : Option Addr} {xs : List α}
theorem SlR.kept (h : SlR (flat k cells hk) w base g A xs) (hs : w.heap.size ≤ w'.heap.size) (hb : ∀ b, base ≤ b → b < w.heap.size → b ≠ g → w'.heap[b]? = w.heap[b]?) : SlR (flat k cells hk) w' base g A xs :=
 ⟨(rows_keep1 h.1 fun b off hn hA hB hlo => hb b (hlo base rfl) hB (h.2 b off hn hA)).more hs, h.2⟩
theorem SlR.low (h : SlR (flat k cells hk) w base g A xs) (hb : base' ≤ base) : SlR (flat k cells hk) w base' g A xs := ⟨h.1.weak (Weaker.some hb), h.2⟩
end

/-- A task in nine cells; its slices lie outside block g. -/
def TaskG (w : World) (base g : Nat) (x : GTask) (cs : List Value) : Prop :=
 ∃ A1 c1 A2 c2 A3 c3, cs = [.int .i64 x.join, .int .i64 x.split, .slice A1 x.inn.length c1, .slice A2 x.out.length c2, .slice A3 x.clear.length c3, .int .i64 x.role, .int .i64 x.apart, .int .i64 x.all, .int .i64 x.need] ∧
  SlR intC w base g A1 x.inn ∧ SlR flowC w base g A2 x.out ∧ SlR intC w base g A3 x.clear
theorem TaskG.kept {w w' : World} {base g : Nat} {x : GTask} {cs : List Value} (h : TaskG w base g x cs) (hs : w.heap.size ≤ w'.heap.size) (hb : ∀ b, base ≤ b → b < w.heap.size → b ≠ g → w'.heap[b]? = w.heap[b]?) : TaskG w' base g x cs := by
 obtain ⟨A1, c1, A2, c2, A3, c3, h0, h1, h2, h3⟩ := h
 exact ⟨A1, c1, A2, c2, A3, c3, h0, h1.kept hs hb, h2.kept hs hb, h3.kept hs hb⟩
theorem TaskG.low {w : World} {base base' g : Nat} {x : GTask} {cs : List Value} (h : TaskG w base g x cs) (hb : base' ≤ base) : TaskG w base' g x cs := by
 obtain ⟨A1, c1, A2, c2, A3, c3, h0, h1, h2, h3⟩ := h
 exact ⟨A1, c1, A2, c2, A3, c3, h0, h1.low hb, h2.low hb, h3.low hb⟩
theorem TaskG.later {w w' : World} {base g : Nat} {x : GTask} {cs : List Value} (h : TaskG w base g x cs) (hb : Below w.heap.size w w') : TaskG w' base g x cs := h.kept hb.size fun b _ h2 _ => hb.block b h2
theorem TaskG.turned {w w' : World} {base g R : Nat} {x : GTask} {cs : List Value} (h : TaskG w base g x cs) (ht : Turned R w w') (hR : R < base) : TaskG w' base g x cs := h.kept ht.size fun b h1 h2 _ => ht.block b h2 (by omega)
theorem TaskG.len {w : World} {base g : Nat} {x : GTask} {cs : List Value} (h : TaskG w base g x cs) : cs.length = 9 := by
 obtain ⟨A1, c1, A2, c2, A3, c3, h0, _⟩ := h
 rw [h0]; rfl

/-- The tasks of a net lie in block g, each one's slices elsewhere. -/
def NetG (w : World) (base g : Nat) (ts : List GTask) : Prop :=
 base ≤ g ∧ (∃ cur t, w.heap[g]? = some (.cells cur t (0, 0))) ∧ ∀ (j : Nat) (hj : j < ts.length), ∃ cs, TaskG w base g ts[j] cs ∧ ∀ i u, cs[i]? = some u → w.cell? ⟨g, j * 9 + i, none⟩ = some u

section
variable {w w' : World} {base base' g : Nat} {ts : List GTask}
theorem NetG.lt (h : NetG w base g ts) : g < w.heap.size := by
 obtain ⟨_, ⟨cur, t, hc⟩, _⟩ := h
 exact (Array.getElem?_eq_some_iff.1 hc).1
theorem NetG.frozen (h : NetG w base g ts) (i : Nat) : w.frozen? ⟨g, i, none⟩ = false := by
 obtain ⟨_, ⟨cur, t, hc⟩, _⟩ := h
 exact frozen_of_row w g i cur t hc
theorem NetG.kept (h : NetG w base g ts) (hs : w.heap.size ≤ w'.heap.size) (hb : ∀ b, base ≤ b → b < w.heap.size → w'.heap[b]? = w.heap[b]?) : NetG w' base g ts := by
 have hlt := h.lt
 obtain ⟨h0, ⟨cur, t, hc⟩, h2⟩ := h
 have hg := hb g h0 hlt
 refine ⟨h0, ⟨cur, t, hg.trans hc⟩, fun j hj => ?_⟩
 obtain ⟨cs, a, b⟩ := h2 j hj
 exact ⟨cs, a.kept hs fun b h1 h2 _ => hb b h1 h2, fun i u hu => (World.cell?_of_block hg).trans (b i u hu)⟩
theorem NetG.later (h : NetG w base g ts) (hb : Below w.heap.size w w') : NetG w' base g ts := h.kept hb.size fun b _ h2 => hb.block b h2
theorem NetG.turned {R : Nat} (h : NetG w base g ts) (ht : Turned R w w') (hR : R < base) : NetG w' base g ts := h.kept ht.size fun b h1 h2 => ht.block b h2 (by omega)
theorem NetG.low (h : NetG w base g ts) (hb : base' ≤ base) : NetG w base' g ts :=
 ⟨Nat.le_trans hb h.1, h.2.1, fun j hj => by
  obtain ⟨cs, a, b⟩ := h.2.2 j hj
  exact ⟨cs, a.low hb, b⟩⟩
theorem NetG.rows (h : NetG w base g ts) (hl : ts.length ≤ 1000) : Rows taskC (some base) w w.heap.size (some ⟨g, 0, none⟩) ts :=
 ⟨by omega, fun _ => ⟨g, 0, rfl, ⟨h.lt, fun lo hlo => by cases hlo; exact ⟨h.1, h.2.1⟩⟩, fun j x hx => by
  obtain ⟨hj, rfl⟩ := List.getElem?_eq_some_iff.1 hx
  obtain ⟨cs, ⟨A1, c1, A2, c2, A3, c3, h0, h1, h2, h3⟩, hc⟩ := h.2.2 j hj
  exact ⟨cs, ⟨A1, c1, A2, c2, A3, c3, h0, h1.1, h2.1, h3.1⟩, fun i u hu => by rw [Nat.zero_add]; exact hc i u hu⟩⟩⟩
/-- One task put in the place of another. -/
theorem NetG.put (h : NetG w base g ts) {j : Nat} (hj : j < ts.length) {y : GTask} {cs : List Value} (hy : TaskG w base g y cs) : NetG (putCells w g (j * 9) cs) base g (ts.set j y) := by
 obtain ⟨h0, ⟨cur, t, hc⟩, h2⟩ := h
 have hl9 := hy.len
 obtain ⟨cs0, a0, b0⟩ := h2 j hj
 have hsz : j * 9 + cs.length ≤ cur.size := by
  have hl0 := a0.len
  have h8 := b0 8 _ (List.getElem?_eq_getElem (by omega))
  rw [cell_of_row w g _ cur t (0, 0) hc] at h8
  have := (Array.getElem?_eq_some_iff.1 h8).1
  omega
 obtain ⟨⟨cur', e1, _⟩, e3, e4⟩ := put_in cs w g (j * 9) cur t hc hsz
 obtain ⟨p1, p2⟩ := heap_put cs w g (j * 9)
 refine ⟨h0, ⟨cur', t, e1⟩, fun i hi => ?_⟩
 by_cases he : i = j
 ·
  subst he
  rw [List.getElem_set_self]
  exact ⟨cs, hy.kept (by rw [p1]; exact Nat.le_refl _) fun b _ _ hb => p2 b hb, e3⟩
 ·
  rw [List.getElem_set_ne (fun e => he e.symm)]
  obtain ⟨cs1, a1, b1⟩ := h2 i (by simpa using hi)
  have hl1 := a1.len
  refine ⟨cs1, a1.kept (by rw [p1]; exact Nat.le_refl _) fun b _ _ hb => p2 b hb, fun n u hu => ?_⟩
  have hn := (List.getElem?_eq_some_iff.1 hu).1
  rw [e4 (i * 9 + n) (by omega)]
  exact b1 n u hu
/-- What a task clears turned. -/
theorem NetG.clear (h : NetG w base g ts) {j : Nat} (hj : j < ts.length) {A : Option Addr} {c : Nat} {xs : List Int} (hs : SlR intC w base g A xs) :
  NetG (w.setCell ⟨g, j * 9 + 4, none⟩ (.slice A xs.length c)) base g (ts.set j { ts[j] with clear := xs }) := by
 obtain ⟨h0, ⟨cur, t, hc⟩, h2⟩ := h
 obtain ⟨cs0, a0, b0⟩ := h2 j hj
 have hl0 := a0.len
 have hsz : j * 9 + 4 + [Value.slice A xs.length c].length ≤ cur.size := by
  have h8 := b0 8 _ (List.getElem?_eq_getElem (by omega))
  rw [cell_of_row w g _ cur t (0, 0) hc] at h8
  have := (Array.getElem?_eq_some_iff.1 h8).1
  simp; omega
 obtain ⟨⟨cur', e1, _⟩, e3, e4⟩ := put_in [Value.slice A xs.length c] w g (j * 9 + 4) cur t hc hsz
 obtain ⟨p1, p2⟩ := heap_put [Value.slice A xs.length c] w g (j * 9 + 4)
 show NetG (putCells w g (j * 9 + 4) [Value.slice A xs.length c]) base g _
 refine ⟨h0, ⟨cur', t, e1⟩, fun i hi => ?_⟩
 by_cases he : i = j
 ·
  subst he
  rw [List.getElem_set_self]
  obtain ⟨A1, c1, A2, c2, A3, c3, hcs, r1, r2, r3⟩ := a0
  subst hcs
  refine ⟨_, ⟨A1, c1, A2, c2, A, c, rfl, r1.kept (by rw [p1]; exact Nat.le_refl _) fun b _ _ hb => p2 b hb, r2.kept (by rw [p1]; exact Nat.le_refl _) fun b _ _ hb => p2 b hb, SlR.kept (k := 1) hs (by rw [p1]; exact Nat.le_refl _) fun b _ _ hb => p2 b hb⟩, fun n u hu => ?_⟩
  by_cases h4 : n = 4
  ·
   subst h4
   have h5 := e3 0 _ rfl
   rw [Nat.add_zero] at h5
   rw [h5]
   exact hu
  ·
   have hn := (List.getElem?_eq_some_iff.1 hu).1
   rw [e4 (i * 9 + n) (by simp; omega)]
   refine b0 n u ?_
   rcases (by simp at hn; omega : n = 0 ∨ n = 1 ∨ n = 2 ∨ n = 3 ∨ n = 5 ∨ n = 6 ∨ n = 7 ∨ n = 8) with rfl | rfl | rfl | rfl | rfl | rfl | rfl | rfl <;> exact hu
 ·
  rw [List.getElem_set_ne (fun e => he e.symm)]
  obtain ⟨cs1, a1, b1⟩ := h2 i (by simpa using hi)
  have hl1 := a1.len
  refine ⟨cs1, a1.kept (by rw [p1]; exact Nat.le_refl _) fun b _ _ hb => p2 b hb, fun n u hu => ?_⟩
  have hn := (List.getElem?_eq_some_iff.1 hu).1
  rw [e4 (i * 9 + n) (by simp; omega)]
  exact b1 n u hu
theorem slr_of {α : Type} {C : Cod α} {w : World} {base lo B g : Nat} {A : Option Addr} {xs : List α} (h : Rows C (some lo) w B A xs) (hlo : base ≤ lo) (hB : B ≤ w.heap.size) (hg : g < lo ∨ B ≤ g) : SlR C w base g A xs :=
 ⟨(h.weak (Weaker.some hlo)).more hB, fun b off hn hA => by
  obtain ⟨b', off', hA', hB', _⟩ := h.2 hn
  rw [hA] at hA'
  cases hA'
  have h1 := hB'.1
  have h2 := (hB'.2 lo rfl).1
  omega⟩
theorem NetG.of_own {t : TypeId} {n c : Nat} (h : OwnC taskC t w base (.slice (some ⟨g, 0, none⟩) n c) ts) : NetG w base g ts := by
 obtain ⟨hgb, _⟩ := h.lt g rfl
 obtain ⟨css, hl, h2, h3, hown⟩ := h
 rcases hown with ⟨hv, _⟩ | ⟨g', cap, cur, hv, _, hh, _, _, _, ht⟩
 ·
  simp at hv
 simp only [Value.slice.injEq, Option.some.injEq, Addr.mk.injEq, and_true] at hv
 obtain ⟨hg, _, _⟩ := hv
 subst hg
 refine ⟨hgb, ⟨cur, t, hh⟩, fun j hj => ?_⟩
 have hjc : css[j]? = some (css[j]'(by omega)) := List.getElem?_eq_getElem (by omega)
 obtain ⟨x, lo, B, hx, hlo, hB, hsep, hR⟩ := h2 j _ hjc
 obtain rfl : x = ts[j] := by rw [List.getElem?_eq_getElem hj] at hx; exact (Option.some.inj hx).symm
 obtain ⟨A1, c1, A2, c2, A3, c3, hcs, r1, r2, r3⟩ := hR
 have hs := hsep g rfl
 refine ⟨css[j]'(by omega), ⟨A1, c1, A2, c2, A3, c3, hcs, slr_of r1 hlo hB hs, slr_of r2 hlo hB hs, slr_of r3 hlo hB hs⟩, fun i u hu => ?_⟩
 rw [cell_of_row w g _ cur t (0, 0) hh]
 have h5 := flat_get css taskC.k (OwnC.clen h2) hjc hu
 rw [show j * 9 + i = j * taskC.k + i from rfl]
 have h6 : (cur.toList.take css.flatten.length)[j * taskC.k + i]? = some u := by
  have : cur.toList.take css.flatten.length = css.flatten := by
   have h7 := ht
   rw [← h3] at h7
   exact h7
  rw [this]; exact h5
 rw [List.getElem?_take] at h6
 split at h6
 ·
  simpa using h6
 ·
  cases h6
end

/-- What drawing a net leaves, in short. -/
def DrawnG (R Q : Nat) (ok : GNet → Prop) (w : World) (e : Ending) (w' : World) : Prop :=
 ∃ (x : GNet) (g c : Nat), e = .returned (.agg #[.int .i64 x.places, .slice (some ⟨g, 0, none⟩) x.tasks.length c]) ∧ NetG w' w.heap.size g x.tasks ∧ ok x ∧ RdB w' R Q ∧ Turned R w w'
end Go.Proofs.Ytjieilicjdoaaaa
