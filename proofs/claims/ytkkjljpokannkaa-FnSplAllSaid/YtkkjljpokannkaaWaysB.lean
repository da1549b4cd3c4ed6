/- All the ways of a task, as rows in blocks of their own. -/
import Derived.Test.YtkkjljpokannkaaWaysI
namespace Go.Proofs.Ytkkjljpokannkaa
open Go.RowKit
set_option linter.unusedSimpArgs false

theorem waysTo_mem (t : GTask) (y : List Int) : ∀ m, y ∈ waysTo t m → ∃ k, 1 ≤ k ∧ k ≤ m ∧ y = rowTo t.out k t.out.length
  | 0, h => by simp [waysTo] at h
  | m + 1, h => by
    unfold waysTo at h
    split at h
    · rcases List.mem_append.1 h with h | h
      · obtain ⟨k, h1, h2, h3⟩ := waysTo_mem t y m h
        exact ⟨k, h1, by omega, h3⟩
      · rw [List.mem_singleton] at h
        exact ⟨m + 1, by omega, Nat.le_refl _, h⟩
    · obtain ⟨k, h1, h2, h3⟩ := waysTo_mem t y m h
      exact ⟨k, h1, by omega, h3⟩
theorem ways_fit (t : GTask) : (waysOf t).length ≤ 7 ∧ ∀ y ∈ waysOf t, 1 ≤ y.length ∧ y.length ≤ 3 := by
  unfold waysOf
  by_cases h : t.out.length ≤ 3
  · rw [if_pos h]
    have h8 : 1 ≤ 2 ^ t.out.length ∧ 2 ^ t.out.length ≤ 8 := by
      rcases (by omega : t.out.length = 0 ∨ t.out.length = 1 ∨ t.out.length = 2 ∨ t.out.length = 3) with h | h | h | h <;> rw [h] <;> decide
    refine ⟨Nat.le_trans (waysTo_len t _) (by omega), fun y hy => ?_⟩
    obtain ⟨k, h1, h2, rfl⟩ := waysTo_mem t y _ hy
    exact ⟨rowTo_pos t.out h k h1 (by omega), Nat.le_trans (rowTo_len _ _ _) h⟩
  · rw [if_neg h]
    exact ⟨by simp, fun y hy => by simp at hy⟩
theorem rows_le {xss : List (List Int)} (h : ∀ y ∈ xss, 1 ≤ y.length ∧ y.length ≤ 3) (i : Nat) : (xss.getD i []).length ≤ 1000 := by
  by_cases hi : i < xss.length
  · rw [List.getD_eq_getElem?_getD, List.getElem?_eq_getElem hi]
    have := h _ (List.getElem_mem hi)
    simp
    omega
  · rw [List.getD_eq_getElem?_getD, List.getElem?_eq_none (by omega)]
    simp
theorem rows_pos {xss : List (List Int)} (h : ∀ y ∈ xss, 1 ≤ y.length ∧ y.length ≤ 3) (i : Nat) (hi : i < xss.length) : 0 < (xss.getD i []).length := by
  rw [List.getD_eq_getElem?_getD, List.getElem?_eq_getElem hi]
  have := h _ (List.getElem_mem hi)
  simp
  omega
/-- Rows as a function hands them back. -/
theorem gives_ss {xss : List (List Int)} {w w' : World} {e : Ending} (h : GivesSS xss w e w') :
    ∃ A c b, e = .returned (.slice A xss.length c) ∧ SS w' w.heap.size A xss.length b (fun j => xss.getD j []) ∧ (∀ i i', i < xss.length → i' < xss.length → b i = b i' → i = i') ∧ Below w.heap.size w w' := by
  obtain ⟨A, c, l, rfl, rfl, hown, hlt, hb⟩ := h
  have hr : ∀ j, rowAt l j = (l.map Prod.fst).getD j [] := fun j => by
    unfold rowAt
    rw [List.getD_eq_getElem?_getD, List.getD_eq_getElem?_getD, List.getElem?_map]
    cases l[j]? <;> rfl
  refine ⟨A, c, blockAt l, by rw [List.length_map], ?_, fun i i' hi hi' he => ?_, hb⟩
  · rw [List.length_map]
    have h1 := SS.of_own hown
    rw [show rowAt l = (fun j => (l.map Prod.fst).getD j []) from funext hr] at h1
    exact h1
  · rw [List.length_map] at hi hi'
    have hp := List.pairwise_iff_getElem.1 hlt
    have hg : ∀ q (hq : q < l.length), blockAt l q = (l[q]).2 := fun q hq => by
      unfold blockAt
      rw [List.getD_eq_getElem?_getD, List.getElem?_eq_getElem hq]; rfl
    rw [hg i hi, hg i' hi'] at he
    rcases Nat.lt_trichotomy i i' with h | h | h
    · have := hp i i' hi hi' h; omega
    · exact h
    · have := hp i' i hi' hi h; omega
theorem SS.keep {w w' : World} {base n : Nat} {A : Option Addr} {b : Nat → Nat} {x : Nat → List Int} (h : SS w base A n b x) (hs : w.heap.size ≤ w'.heap.size) (hb : ∀ k, base ≤ k → k < w.heap.size → w'.heap[k]? = w.heap[k]?) : SS w' base A n b x := fun h0 => by
  obtain ⟨G, hA, h1, h2, h3⟩ := h h0
  refine ⟨G, hA, h1, Nat.lt_of_lt_of_le h2 hs, fun j hj => ?_⟩
  obtain ⟨⟨c, hc⟩, h4, h5, h6⟩ := h3 j hj
  exact ⟨⟨c, (World.cell?_of_block (a := ⟨G, j, none⟩) (hb G h1 h2)).trans hc⟩, h4, h5, h6.keep (hb _ h4 h6.lt)⟩
end Go.Proofs.Ytkkjljpokannkaa
