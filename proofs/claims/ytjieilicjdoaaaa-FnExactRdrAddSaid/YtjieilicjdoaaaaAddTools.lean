/- A cell of an owned row of rules turned. -/
import Derived.Test.YtjieilicjdoaaaaClone
import Derived.Test.YtjieilicjdoaaaaAddPlain
import Derived.Test.YtjieilicjdoaaaaStepC
import Derived.Deep.RegionHeld3
namespace Go.Proofs.Ytjieilicjdoaaaa
open Go.RowKit

theorem flatten_set (css : List (List Value)) (sz : Nat) (h : ∀ cs ∈ css, cs.length = sz) (j i : Nat) (hj : j < css.length) (hi : i < sz) (u : Value) : css.flatten.set (j * sz + i) u = (css.set j (css[j].set i u)).flatten := by
  induction css generalizing j with
  | nil => simp at hj
  | cons c css ih =>
    have hc : c.length = sz := h c (by simp)
    match j, hj with
    | 0, hj =>
      simp only [List.flatten_cons, Nat.zero_mul, Nat.zero_add, List.set_cons_zero, List.getElem_cons_zero]
      rw [List.set_append_left _ _ (by omega)]
    | j + 1, hj =>
      simp only [List.flatten_cons, List.set_cons_succ, List.getElem_cons_succ]
      rw [List.set_append_right _ _ (by rw [hc, Nat.add_mul]; omega), hc, show (j + 1) * sz + i - sz = j * sz + i from by rw [Nat.add_mul]; omega,
        ih (fun x hx => h x (by simp [hx])) j (by simpa using hj)]

/-- Cell i of element j turned. -/
theorem OwnC.set {α : Type} {C : Cod α} {e : TypeId} {w : World} {base g c : Nat} {xs : List α} (h : OwnC C e w base (.slice (some ⟨g, 0, none⟩) xs.length c) xs) {j : Nat} (hj : j < xs.length) {i : Nat} (hi : i < C.k) (u : Value) (x' : α)
    (hR : ∀ lo B cs, base ≤ lo → B ≤ w.heap.size → (g < lo ∨ B ≤ g) → C.R (some lo) w B xs[j] cs → ∃ lo' B', base ≤ lo' ∧ B' ≤ w.heap.size ∧ (g < lo' ∨ B' ≤ g) ∧ C.R (some lo') w B' x' (cs.set i u)) :
    OwnC C e (w.setCell ⟨g, j * C.k + i, none⟩ u) base (.slice (some ⟨g, 0, none⟩) xs.length c) (xs.set j x') ∧ base ≤ g := by
  obtain ⟨css, c1, c2, c3⟩ := h
  have hcl := OwnC.clen c2
  have hb := c3.lt g rfl
  have hst := c3.stored (j * C.k + i) u
  have hag : ∀ lo B, (g < lo ∨ B ≤ g) → Agree (some lo) B w (w.setCell ⟨g, j * C.k + i, none⟩ u) := fun lo B hs b hb hl => Below.heap_setCell w ⟨g, j * C.k + i, none⟩ u b (by
    have := hl lo rfl
    show b ≠ g
    omega)
  refine ⟨⟨css.set j ((css[j]'(by omega)).set i u), by simp [c1], fun k cs hk => ?_, ?_⟩, hb.1⟩
  · rw [List.getElem?_set] at hk
    by_cases hjk : j = k
    · subst hjk
      rw [if_pos rfl, if_pos (by omega)] at hk
      cases hk
      obtain ⟨x, lo, B, a1, a2, a3, a4, a5⟩ := c2 j _ (List.getElem?_eq_getElem (by omega))
      rw [List.getElem?_eq_getElem hj] at a1
      cases a1
      obtain ⟨lo', B', e1, e2, e3, e4⟩ := hR lo B _ a2 a3 (a4 g rfl) a5
      exact ⟨x', lo', B', by rw [List.getElem?_set]; simp [hj], e1, by simpa [World.setCell] using e2, fun g' hg' => by cases hg'; exact e3, C.keep e4 (hag lo' B' e3)⟩
    · rw [if_neg hjk] at hk
      obtain ⟨x, lo, B, a1, a2, a3, a4, a5⟩ := c2 k _ hk
      exact ⟨x, lo, B, by rw [List.getElem?_set, if_neg hjk]; exact a1, a2, by simpa [World.setCell] using a3, a4, C.keep a5 (hag lo B (a4 g rfl))⟩
  · rw [List.length_set, ← flatten_set css C.k hcl j i (by omega) hi u]
    exact hst.1

/-- What a row of rules of the call's own holds. -/
theorem OwnC.form {t : List GRule} {w : World} {base : Nat} {v : Value} (h : OwnC ruleC 65 w base v t) (h0 : 0 < t.length) : ∃ g c, v = .slice (some ⟨g, 0, none⟩) t.length c ∧ base ≤ g ∧ g < w.heap.size ∧ ∀ i, w.frozen? ⟨g, i, none⟩ = false := by
  obtain ⟨css, c1, c2, c3⟩ := h
  rcases id c3.2 with ⟨hv, hn⟩ | ⟨g, cap, cur, hv, hb, hgg, _⟩
  · omega
  · exact ⟨g, cap, hv, hb, (Array.getElem?_eq_some_iff.1 hgg).1, fun i => frozen_of_row w g i cur _ hgg⟩
end Go.Proofs.Ytjieilicjdoaaaa
