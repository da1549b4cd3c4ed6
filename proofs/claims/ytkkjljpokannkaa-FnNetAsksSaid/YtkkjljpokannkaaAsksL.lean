/- Plain laws of the roles that a net asks for. -/
import Derived.Test.YtkkjljpokannkaaAsksI
import Derived.Test.YtkkjljpokannkaaPpl
namespace Go.Proofs.Ytkkjljpokannkaa
open Go.RowKit

theorem asks_len {x : GNet} (h : netOk x = true) : (asksOf x).length ≤ x.tasks.length := by
  rw [← asks_eq x h]
  unfold Go.Lib.compact Go.Lib.compactUpTo
  rw [List.length_map]
  refine Nat.le_trans (List.length_filter_le _ _) ?_
  rw [List.length_range, List.length_mergeSort]
  unfold rolesOf
  simp
theorem asks_to (x : GNet) (h : netOk x = true) : asksOf x = [1, 2, 3].filter (asksR x) := by
  rw [asksOf, if_pos h]; rfl
theorem asks_in {x : GNet} : ∀ r ∈ asksOf x, 1 ≤ r ∧ r ≤ 3 := by
  intro r hr
  cases h : netOk x with
  | false => rw [asksOf, h] at hr; simp at hr
  | true =>
    rw [asks_to x h] at hr
    have h2 := (List.mem_filter.1 hr).1
    simp at h2
    omega
theorem asks_up {x : GNet} (h : netOk x = true) : (asksOf x).Pairwise fun a b => a < b := by
  rw [asks_to x h]
  exact List.Pairwise.filter _ (by decide)
theorem asks_has {x : GNet} (h : netOk x = true) (j : Nat) (hj : j < x.tasks.length) : ((asksOf x).any fun r => decide (r = x.tasks[j].role)) = true := by
  have hr : 1 ≤ x.tasks[j].role ∧ x.tasks[j].role ≤ 3 := by
    have h' := h
    unfold netOk at h'
    simp only [Bool.and_eq_true, List.all_eq_true] at h'
    have h2 := h'.2.2 _ (List.getElem_mem hj)
    unfold taskOk at h2
    simp only [Bool.and_eq_true, inB_iff] at h2
    omega
  rw [asks_to x h, List.any_eq_true]
  refine ⟨x.tasks[j].role, List.mem_filter.2 ⟨?_, ?_⟩, by simp⟩
  · simp
    omega
  · unfold asksR
    rw [List.any_eq_true]
    exact ⟨_, List.getElem_mem hj, by simp⟩
theorem asks_pos {x : GNet} (h : netOk x = true) : 1 ≤ (asksOf x).length := by
  have h1 : 0 < x.tasks.length := by
    have h' := h
    unfold netOk at h'
    simp only [Bool.and_eq_true, inB_iff] at h'
    omega
  have h2 := asks_has h 0 h1
  cases hq : asksOf x with
  | nil => rw [hq] at h2; simp at h2
  | cons a l => simp
theorem has7 (r : Int) (h1 : 1 ≤ r) (h3 : r ≤ 3) : pplHas [7] 1 r = true := by
  rcases (by omega : r = 1 ∨ r = 2 ∨ r = 3) with rfl | rfl | rfl <;> decide
end Go.Proofs.Ytkkjljpokannkaa
