/- A row of structs that a loop fills one after the other: what holds after k rounds, and what the row reads as at the end. -/
import Derived.Test.YtjieilicjdoaaaaRecs
namespace Go.Proofs.Ytjieilicjdoaaaa
open Go.RowKit

theorem toList_madeCells (z : Array Value) (sz n : Nat) (hz : z.size = sz) (hs : 0 < sz) : (madeCells z (n * sz)).toList = (List.replicate n z.toList).flatten := by
  subst hz
  induction n with
  | zero => simp [madeCells]
  | succ n ih =>
    rw [List.replicate_succ', List.flatten_append, ← ih]
    apply List.ext_getElem?
    intro i
    rw [List.getElem?_append]
    have hl : (madeCells z (n * z.size)).toList.length = n * z.size := by rw [Array.length_toList, size_madeCells]
    rw [hl]
    have hm : (n + 1) * z.size = n * z.size + z.size := by rw [Nat.add_mul, Nat.one_mul]
    by_cases h1 : i < n * z.size
    · rw [if_pos h1]
      have h2 : i < (n + 1) * z.size := by omega
      simp [madeCells, h1, h2]
    · rw [if_neg h1]
      by_cases h2 : i < (n + 1) * z.size
      · have h3 : i - n * z.size < z.size := by omega
        have h4 : i % z.size = i - n * z.size := by
          have h5 : i = (i - n * z.size) + n * z.size := by omega
          rw [h5, Nat.add_mul_mod_self_right, Nat.mod_eq_of_lt h3]
          omega
        have h6 : z[i % z.size]! = z[i - n * z.size] := by rw [h4]; exact getElem!_pos z _ h3
        simp [madeCells, h2, h3, h6]
      · rw [List.getElem?_eq_none (by rw [Array.length_toList, size_madeCells]; omega), List.getElem?_eq_none (by simp; omega)]

/-- Cells put one behind the other. -/
def putCells (w : World) (g o : Nat) : List Value → World
  | [] => w
  | c :: cs => putCells (w.setCell ⟨g, o, none⟩ c) g (o + 1) cs
def putList (l : List Value) (o : Nat) : List Value → List Value
  | [] => l
  | c :: cs => putList (l.set o c) (o + 1) cs

theorem Wr.put {g : Nat} {t : TypeId} (cs : List Value) : ∀ {w : World} {l : List Value} (o : Nat), Wr w g t l → Wr (putCells w g o cs) g t (putList l o cs) := by
  induction cs with
  | nil => intro w l o h; exact h
  | cons c cs ih => intro w l o h; exact ih (o + 1) (h.set o c)
theorem putList_mid (cs : List Value) : ∀ (P Z R : List Value), Z.length = cs.length → putList (P ++ Z ++ R) P.length cs = P ++ cs ++ R := by
  induction cs with
  | nil =>
    intro P Z R h
    have : Z = [] := List.eq_nil_of_length_eq_zero h
    subst this
    rfl
  | cons c cs ih =>
    intro P Z R h
    match Z, h with
    | z :: Z, h =>
      have h1 : (P ++ z :: Z ++ R).set P.length c = (P ++ [c]) ++ Z ++ R := by
        rw [List.append_assoc, List.set_append_right _ _ (Nat.le_refl _), Nat.sub_self]
        simp
      show putList ((P ++ z :: Z ++ R).set P.length c) (P.length + 1) cs = _
      rw [h1]
      have h2 : P.length + 1 = (P ++ [c]).length := by simp
      rw [h2, ih (P ++ [c]) Z R (by simpa using h)]
      simp
theorem heap_put (cs : List Value) : ∀ (w : World) (g o : Nat), (putCells w g o cs).heap.size = w.heap.size ∧ ∀ b, b ≠ g → (putCells w g o cs).heap[b]? = w.heap[b]? := by
  induction cs with
  | nil => intro w g o; exact ⟨rfl, fun _ _ => rfl⟩
  | cons c cs ih =>
    intro w g o
    obtain ⟨h1, h2⟩ := ih (w.setCell ⟨g, o, none⟩ c) g (o + 1)
    exact ⟨h1.trans (by simp [World.setCell]), fun b hb => (h2 b hb).trans (Below.heap_setCell w ⟨g, o, none⟩ c b hb)⟩
theorem bPut {B : Nat} {a : World} (cs : List Value) : ∀ {w : World} {g : Nat} (o : Nat), Below B a w → B ≤ g → Below B a (putCells w g o cs) := by
  induction cs with
  | nil => intro w g o h _; exact h
  | cons c cs ih => intro w g o h hg; exact ih (o + 1) (h.setCell (p := ⟨g, o, none⟩) hg c) hg

/-- After k rounds: the first k rows of block g stand for the first k data, the rest are as make left them. -/
def Filled {α : Type} (C : Cod α) (w : World) (g : Nat) (t : TypeId) (zc : List Value) (xs : List α) (k : Nat) : Prop :=
  ∃ css : List (List Value), css.length = k ∧ (∀ (j : Nat) (cs : List Value), css[j]? = some cs → ∃ x : α, xs[j]? = some x ∧ C.R (some (g + 1)) w w.heap.size x cs) ∧ Wr w g t (css.flatten ++ (List.replicate (xs.length - k) zc).flatten)

section
variable {α : Type} {C : Cod α} {w w' : World} {g : Nat} {t : TypeId} {zc : List Value} {xs : List α} {k : Nat}

theorem Filled.start (h : Wr w g t (List.replicate xs.length zc).flatten) : Filled C w g t zc xs 0 := ⟨[], rfl, fun j cs h => by simp at h, by simpa using h⟩
theorem Filled.later (h : Filled C w g t zc xs k) (hb : Below w.heap.size w w') : Filled C w' g t zc xs k := by
  obtain ⟨css, h1, h2, h3⟩ := h
  refine ⟨css, h1, fun j cs hj => ?_, h3.later hb⟩
  obtain ⟨x, hx, hR⟩ := h2 j cs hj
  exact ⟨x, hx, C.more (C.keep hR (Agree.of_below hb)) hb.size⟩
theorem flat_len (css : List (List Value)) (sz : Nat) (h : ∀ cs ∈ css, cs.length = sz) : css.flatten.length = css.length * sz := by
  induction css with
  | nil => simp
  | cons c css ih =>
    rw [List.flatten_cons, List.length_append, h c (by simp), ih (fun x hx => h x (by simp [hx])), List.length_cons, Nat.add_mul]
    omega
theorem flat_len' (css : List (List Int)) (sz : Nat) (h : ∀ cs ∈ css, cs.length = sz) : css.flatten.length = css.length * sz := by
  induction css with
  | nil => simp
  | cons c css ih =>
    rw [List.flatten_cons, List.length_append, h c (by simp), ih (fun x hx => h x (by simp [hx])), List.length_cons, Nat.add_mul]
    omega
theorem Filled.clen {css : List (List Value)} (h2 : ∀ (j : Nat) (cs : List Value), css[j]? = some cs → ∃ x : α, xs[j]? = some x ∧ C.R (some (g + 1)) w w.heap.size x cs) : ∀ cs ∈ css, cs.length = C.k := by
  intro cs hcs
  obtain ⟨j, hj⟩ := List.getElem?_of_mem hcs
  obtain ⟨x, _, hR⟩ := h2 j cs hj
  exact C.len hR
/-- The row that comes next still holds what make left. -/
theorem Filled.old (h : Filled C w g t zc xs k) (hk : k < xs.length) {i : Nat} {u : Value} (hu : zc[i]? = some u) : w.cell? ⟨g, k * C.k + i, none⟩ = some u := by
  obtain ⟨css, h1, h2, h3⟩ := h
  refine h3.cell ?_
  have hl := flat_len css C.k (Filled.clen h2)
  have hi := (List.getElem?_eq_some_iff.1 hu).1
  rw [List.getElem?_append_right (by rw [hl, h1]; omega), hl, h1, show xs.length - k = (xs.length - k - 1) + 1 from by omega, List.replicate_succ, List.flatten_cons,
    List.getElem?_append_left (by omega), show k * C.k + i - k * C.k = i from by omega]
  exact hu
theorem Filled.there (h : Filled C w g t zc xs k) (hk : k < xs.length) (o n : Nat) (ho : o = k * C.k) (hn : n ≤ zc.length) : ∀ j, j < n → (w.cell? ⟨g, o + j, none⟩).isSome = true := by
  intro j hj
  subst ho
  exact Option.isSome_iff_exists.2 ⟨_, h.old (i := j) hk (List.getElem?_eq_getElem (by omega))⟩
theorem Filled.frozen (h : Filled C w g t zc xs k) (i : Nat) : w.frozen? ⟨g, i, none⟩ = false := by
  obtain ⟨css, _, _, h3⟩ := h
  exact h3.frozen i
theorem Filled.lt (h : Filled C w g t zc xs k) : g < w.heap.size := by
  obtain ⟨css, _, _, h3⟩ := h
  exact h3.lt
theorem Filled.put (h : Filled C w g t zc xs k) (hk : k < xs.length) (hz : zc.length = C.k) {cs : List Value} (hR : C.R (some (g + 1)) w w.heap.size xs[k] cs) : Filled C (putCells w g (k * C.k) cs) g t zc xs (k + 1) := by
  obtain ⟨css, h1, h2, h3⟩ := h
  obtain ⟨hs, hh⟩ := heap_put cs w g (k * C.k)
  have hag : ∀ B, Agree (some (g + 1)) B w (putCells w g (k * C.k) cs) := fun B b _ hl => hh b (by have := hl _ rfl; omega)
  have hl := flat_len css C.k (Filled.clen h2)
  refine ⟨css ++ [cs], by simp [h1], fun j c hj => ?_, ?_⟩
  · rw [hs]
    rw [List.getElem?_append] at hj
    split at hj
    · obtain ⟨x, hx, hR'⟩ := h2 j c hj
      exact ⟨x, hx, C.keep hR' (hag _)⟩
    · rename_i hjl
      have hj0 : j - css.length = 0 := by
        rcases Nat.eq_zero_or_pos (j - css.length) with h0 | h0
        · exact h0
        · rw [List.getElem?_eq_none (by simp only [List.length_cons, List.length_nil]; omega)] at hj
          cases hj
      rw [hj0] at hj
      simp only [List.getElem?_cons_zero, Option.some.injEq] at hj
      subst hj
      have : j = k := by omega
      subst this
      exact ⟨_, List.getElem?_eq_getElem hk, C.keep hR (hag _)⟩
  · have h4 := h3.put cs (k * C.k)
    rw [show xs.length - k = (xs.length - (k + 1)) + 1 from by omega, List.replicate_succ, List.flatten_cons, ← List.append_assoc, ← h1, ← hl,
      putList_mid cs css.flatten zc _ (by rw [hz, C.len hR])] at h4
    rw [h1] at h4
    simpa [hl, h1] using h4
theorem flat_get (css : List (List Value)) (sz : Nat) (h : ∀ cs ∈ css, cs.length = sz) {j i : Nat} {cs : List Value} {u : Value} (hj : css[j]? = some cs) (hi : cs[i]? = some u) : css.flatten[j * sz + i]? = some u := by
  induction css generalizing j with
  | nil => simp at hj
  | cons c css ih =>
    have hc : c.length = sz := h c (by simp)
    rw [List.flatten_cons]
    match j, hj with
    | 0, hj =>
      simp only [List.getElem?_cons_zero, Option.some.injEq] at hj
      subst hj
      have := (List.getElem?_eq_some_iff.1 hi).1
      rw [List.getElem?_append_left (by omega), Nat.zero_mul, Nat.zero_add]
      exact hi
    | j + 1, hj =>
      rw [List.getElem?_append_right (by rw [hc, Nat.add_mul]; omega), hc, show (j + 1) * sz + i - sz = j * sz + i from by rw [Nat.add_mul]; omega]
      exact ih (fun x hx => h x (by simp [hx])) hj
theorem Filled.done (h : Filled C w g t zc xs xs.length) (hl : xs.length ≤ 9223372036854775807) : Rows C (some g) w w.heap.size (some ⟨g, 0, none⟩) xs := by
  have hlt := h.lt
  obtain ⟨css, h1, h2, h3⟩ := h
  refine ⟨hl, fun _ => ⟨g, 0, rfl, ⟨hlt, fun lo hlo => by
    cases hlo
    obtain ⟨cur, hc, _⟩ := h3
    exact ⟨Nat.le_refl _, cur, t, hc⟩⟩, fun j x hx => ?_⟩⟩
  have hj := (List.getElem?_eq_some_iff.1 hx).1
  have hjc : css[j]? = some (css[j]'(by omega)) := List.getElem?_eq_getElem (by omega)
  obtain ⟨y, hy, hR⟩ := h2 j _ hjc
  rw [hx] at hy
  cases hy
  refine ⟨_, C.weak hR (Weaker.some (by omega)), fun i u hu => ?_⟩
  rw [Nat.zero_add]
  refine h3.cell ?_
  have h5 := flat_get css C.k (Filled.clen h2) hjc hu
  rw [List.getElem?_append_left (by exact (List.getElem?_eq_some_iff.1 h5).1)]
  exact h5
end
end Go.Proofs.Ytjieilicjdoaaaa
