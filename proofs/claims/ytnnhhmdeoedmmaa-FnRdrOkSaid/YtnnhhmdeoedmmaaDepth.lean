/- How deep rules are, as a plain function; and that no way is longer. -/
import Derived.Test.YtnnhhmdeoedmmaaRule
namespace Go.Proofs.Ytnnhhmdeoedmmaa
open Go.RowKit

def dep (t : List GRule) : Nat → Int → Nat
  | 0, _ => 0
  | f + 1, a => if a = -1 then 0 else 1 + max (dep t f (rule t a).yes) (dep t f (rule t a).no)
def rdrDepth (t : List GRule) : Nat := if treeOk t then dep t t.length 0 else 0

theorem dep_none (t : List GRule) (f : Nat) : dep t f (-1) = 0 := by cases f <;> simp [dep]
theorem dep_succ (t : List GRule) (f : Nat) {a : Int} (ha : a ≠ -1) : dep t (f + 1) a = 1 + max (dep t f (rule t a).yes) (dep t f (rule t a).no) := by simp [dep, ha]
theorem kids {t : List GRule} (h : treeOk t = true) {i : Nat} (hi : i < t.length) : posOk t (i + 1) (rule t (i : Int)).yes ∧ posOk t (i + 1) (rule t (i : Int)).no := by
  obtain ⟨_, _, hy, hn, _⟩ := treeOk_at h hi
  rw [rule_get hi]
  exact ⟨nextOk_pos hy, nextOk_pos hn⟩
theorem dep_same {t : List GRule} (h : treeOk t = true) : ∀ (f f' n : Nat) (a : Int), posOk t n a → t.length ≤ f + n → t.length ≤ f' + n → dep t f a = dep t f' a
  | 0, f', n, a, ha, hf, hf' => by
    rcases ha with rfl | ⟨h1, h2⟩
    · rw [dep_none, dep_none]
    · omega
  | f + 1, 0, n, a, ha, hf, hf' => by
    rcases ha with rfl | ⟨h1, h2⟩
    · rw [dep_none, dep_none]
    · omega
  | f + 1, f' + 1, n, a, ha, hf, hf' => by
    rcases ha with rfl | ⟨h1, h2⟩
    · rw [dep_none, dep_none]
    · obtain ⟨i, rfl⟩ := Int.eq_ofNat_of_zero_le (a := a) (by omega)
      obtain ⟨hy, hn⟩ := kids h (i := i) (by omega)
      rw [dep_succ t f (by omega), dep_succ t f' (by omega), dep_same h f f' (i + 1) _ hy (by omega) (by omega), dep_same h f f' (i + 1) _ hn (by omega) (by omega)]
theorem dep_le {t : List GRule} (h : treeOk t = true) : ∀ (f n : Nat) (a : Int), posOk t n a → dep t f a ≤ t.length - n
  | 0, n, a, ha => by simp [dep]
  | f + 1, n, a, ha => by
    rcases ha with rfl | ⟨h1, h2⟩
    · rw [dep_none]; omega
    · obtain ⟨i, rfl⟩ := Int.eq_ofNat_of_zero_le (a := a) (by omega)
      obtain ⟨hy, hn⟩ := kids h (i := i) (by omega)
      have h3 := dep_le h f (i + 1) _ hy
      have h4 := dep_le h f (i + 1) _ hn
      rw [dep_succ t f (by omega)]
      omega
theorem dep_way {t : List GRule} {d : List Int} : ∀ (n f i : Nat), n ≤ f → (∀ j, j < n → pos t d (i + j) ≠ -1) → n ≤ dep t f (pos t d i)
  | 0, f, i, _, _ => Nat.zero_le _
  | n + 1, 0, i, h, _ => by omega
  | n + 1, f + 1, i, h, h2 => by
    have h0 : pos t d i ≠ -1 := h2 0 (by omega)
    rw [dep_succ t f h0]
    have h3 := dep_way n f (i + 1) (by omega) fun j hj => by
      have := h2 (j + 1) (by omega)
      rwa [show i + (j + 1) = i + 1 + j from by omega] at this
    have h4 : pos t d (i + 1) = if holds (rule t (pos t d i)).ask d then (rule t (pos t d i)).yes else (rule t (pos t d i)).no := by
      show next t d (pos t d i) = _
      unfold next
      rw [if_neg h0]
    rw [h4] at h3
    split at h3 <;> omega
theorem rdrDepth_le (t : List GRule) : rdrDepth t ≤ t.length := by
  unfold rdrDepth
  split
  · rename_i h
    rcases Nat.eq_zero_or_pos t.length with h0 | h0
    · rw [h0]; simp [dep]
    · have := dep_le h t.length 0 0 (.inr ⟨by omega, by omega⟩)
      omega
  · omega
theorem rdrWay_depth (t : List GRule) (d : List Int) : (rdrWay t d).length ≤ rdrDepth t := by
  unfold rdrWay rdrDepth
  cases h : treeOk t with
  | false => simp
  | true =>
    cases hd : datOk d with
    | false => simp
    | true =>
      simp only [Bool.and_self, if_true]
      obtain ⟨n, hn, h2, h3, h4⟩ := wayL_is h d
      rw [h4, posTo_len]
      rcases Nat.eq_zero_or_pos t.length with h0 | h0
      · omega
      · have := dep_way (t := t) (d := d) n t.length 0 hn (fun j hj => by rw [Nat.zero_add]; exact h3 j hj)
        have h5 : pos t d 0 = 0 := by unfold pos; rw [if_neg (by omega)]
        rwa [h5] at this
theorem rdrDepth_pos {t : List GRule} (h : treeOk t = true) (h0 : 0 < t.length) : 1 ≤ rdrDepth t := by
  unfold rdrDepth
  rw [if_pos h]
  obtain ⟨f, hf⟩ : ∃ f, t.length = f + 1 := ⟨t.length - 1, by omega⟩
  rw [hf, dep_succ t f (by decide)]
  omega
end Go.Proofs.Ytnnhhmdeoedmmaa
