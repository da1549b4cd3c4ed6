/- Sorted roles without their doubles: a plain law. -/
import Derived.Lib.SlicesCompact
namespace Go.Proofs.Ytkkjljpokannkaa

theorem compact_step (S : List Int) (hS : S.Pairwise fun x y => x ≤ y) (hb : ∀ z ∈ S, 1 ≤ z ∧ z ≤ 3) : ∀ m, m ≤ S.length → Go.Lib.compactUpTo S.toArray m = [1, 2, 3].filter fun r => (S.take m).any fun z => z == r
  | 0, _ => by simp [Go.Lib.compactUpTo]
  | m + 1, hm => by
    rw [Go.Lib.compactUpTo_succ, compact_step S hS hb m (by omega)]
    have hz := hb _ (List.getElem_mem (by omega : m < S.length))
    have hg : S.toArray[m]! = S[m] := by simp [show m < S.length by omega]
    have ht : ∀ r, (S.take (m + 1)).any (fun z => z == r) = ((S.take m).any (fun z => z == r) || (S[m] == r)) := fun r => by
      rw [List.take_succ_eq_append_getElem (by omega), List.any_append]
      simp
    have hle : ∀ r, (S.take m).any (fun z => z == r) = true → r ≤ S[m] := fun r h => by
      rw [List.any_eq_true] at h
      obtain ⟨y, hy, he⟩ := h
      obtain ⟨i, hi, rfl⟩ := List.getElem_of_mem hy
      rw [List.getElem_take] at he
      have him : i < m := by simp at hi; omega
      have := (List.pairwise_iff_getElem.1 hS) i m (by omega) (by omega) him
      rw [← beq_iff_eq.1 he]
      exact this
    have hk : Go.Lib.keeps S.toArray m = !(S.take m).any (fun z => z == S[m]) := by
      unfold Go.Lib.keeps
      cases m with
      | zero => simp
      | succ n =>
        have hn : S.toArray[n]! = S[n] := by simp [show n < S.length by omega]
        have hnn := (List.pairwise_iff_getElem.1 hS) n (n + 1) (by omega) (by omega) (by omega)
        by_cases he : S[n] = S[n + 1]
        · have h1 : (S.take (n + 1)).any (fun z => z == S[n + 1]) = true := by
            rw [List.any_eq_true]
            exact ⟨S[n], List.mem_take_iff_getElem.2 ⟨n, by omega, rfl⟩, by rw [beq_iff_eq]; exact he⟩
          rw [h1]
          simp [hg, hn, he]
        · have h1 : (S.take (n + 1)).any (fun z => z == S[n + 1]) = false := by
            rw [List.any_eq_false]
            intro y hy
            obtain ⟨i, hi, rfl⟩ := List.getElem_of_mem hy
            rw [List.getElem_take]
            have hin : i ≤ n := by simp at hi; omega
            have h2 : S[i] ≤ S[n] := by
              rcases Nat.lt_or_eq_of_le hin with h | h
              · exact (List.pairwise_iff_getElem.1 hS) i n (by omega) (by omega) h
              · subst h; exact Int.le_refl _
            rw [beq_iff_eq]
            omega
          rw [h1]
          simp [hg, hn]
          omega
    rw [hg, hk]
    simp only [List.filter_cons, List.filter_nil, ht]
    generalize S[m] = z at hz hle
    have h2 := hle 2
    have h3 := hle 3
    rcases (by omega : z = 1 ∨ z = 2 ∨ z = 3) with rfl | rfl | rfl
    all_goals
      cases q1 : (S.take m).any (fun z => z == 1) <;> cases q2 : (S.take m).any (fun z => z == 2) <;> cases q3 : (S.take m).any (fun z => z == 3) <;> simp_all

theorem compact_roles (L : List Int) (hb : ∀ z ∈ L, 1 ≤ z ∧ z ≤ 3) : Go.Lib.compact (L.mergeSort fun x y => decide (x ≤ y)) = [1, 2, 3].filter fun r => L.any fun z => z == r := by
  have hs : (L.mergeSort fun x y => decide (x ≤ y)).Pairwise fun x y => x ≤ y := by
    have h := List.pairwise_mergeSort (le := fun (x y : Int) => decide (x ≤ y)) (fun a b c h1 h2 => by simp only [decide_eq_true_eq] at *; omega) (fun a b => by simp only [Bool.or_eq_true, decide_eq_true_eq]; omega) L
    exact h.imp fun h => by simpa using h
  have hm : ∀ z, z ∈ (L.mergeSort fun x y => decide (x ≤ y)) ↔ z ∈ L := fun z => List.mem_mergeSort
  unfold Go.Lib.compact
  rw [compact_step _ hs (fun z hz => hb z ((hm z).1 hz)) _ (Nat.le_refl _), List.take_length]
  congr 1
  funext r
  rw [Bool.eq_iff_iff, List.any_eq_true, List.any_eq_true]
  exact ⟨fun ⟨y, h1, h2⟩ => ⟨y, (hm y).1 h1, h2⟩, fun ⟨y, h1, h2⟩ => ⟨y, (hm y).2 h1, h2⟩⟩
end Go.Proofs.Ytkkjljpokannkaa
