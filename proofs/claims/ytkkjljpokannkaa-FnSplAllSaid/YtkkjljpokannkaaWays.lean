/- All the ways of a task: plain laws. -/
import Derived.Test.YtkkjljpokannkaaNet
namespace Go.Proofs.Ytkkjljpokannkaa
open Go.RowKit
set_option linter.unusedSimpArgs false

def bitOf (m i : Nat) : Bool := m / 2 ^ i % 2 == 1
/-- Where the ways of the set m lead to, of the first k. -/
def rowTo (fs : List GFlow) (m : Nat) : Nat → List Int
  | 0 => []
  | i + 1 => if (bitOf m i && decide (i < fs.length)) = true then rowTo fs m i ++ [(fs.getD i flow0).to] else rowTo fs m i
def manyTo (m : Nat) : Nat → Nat
  | 0 => 0
  | i + 1 => if bitOf m i = true then manyTo m i + 1 else manyTo m i
def fitWay (t : GTask) (row : List Int) : Bool := (decide (t.split = 1) && decide (row.length = t.out.length)) || ((decide (t.split = 2) && decide (row.length = 1)) || decide (t.split = 3))
def waysTo (t : GTask) : Nat → List (List Int)
  | 0 => []
  | m + 1 => if fitWay t (rowTo t.out (m + 1) t.out.length) = true then waysTo t m ++ [rowTo t.out (m + 1) t.out.length] else waysTo t m
/-- All that a task may lead to. -/
def waysOf (t : GTask) : List (List Int) := if t.out.length ≤ 3 then waysTo t (2 ^ t.out.length - 1) else []
/-- As the reference finds them. -/
def waysS (t : GTask) : Nat → List (List Int)
  | 0 => []
  | m + 1 => if (decide ((rowTo t.out (m + 1) 3).length = manyTo (m + 1) 3) && fitWay t (rowTo t.out (m + 1) 3)) = true then waysS t m ++ [rowTo t.out (m + 1) 3] else waysS t m

theorem rowTo_len (fs : List GFlow) (m : Nat) : ∀ k, (rowTo fs m k).length ≤ k
  | 0 => by simp [rowTo]
  | k + 1 => by
    have h := rowTo_len fs m k
    unfold rowTo
    split
    · rw [List.length_append]; simp; omega
    · omega
theorem manyTo_le (m : Nat) : ∀ k, manyTo m k ≤ k
  | 0 => by simp [manyTo]
  | k + 1 => by have := manyTo_le m k; unfold manyTo; split <;> omega
theorem waysTo_len (t : GTask) : ∀ m, (waysTo t m).length ≤ m
  | 0 => by simp [waysTo]
  | m + 1 => by
    have h := waysTo_len t m
    unfold waysTo
    split
    · rw [List.length_append]; simp; omega
    · omega
theorem waysS_len (t : GTask) : ∀ m, (waysS t m).length ≤ m
  | 0 => by simp [waysS]
  | m + 1 => by
    have h := waysS_len t m
    unfold waysS
    split
    · rw [List.length_append]; simp; omega
    · omega
theorem rowTo_past (fs : List GFlow) (m : Nat) (d : Nat) : rowTo fs m (fs.length + d) = rowTo fs m fs.length := by
  induction d with
  | zero => rfl
  | succ d ih =>
    rw [← Nat.add_assoc, rowTo, if_neg (by simp), ih]
theorem manyTo_eq (fs : List GFlow) (h : fs.length ≤ 3) (m : Nat) (hm : m < 8) : (rowTo fs m 3).length = manyTo m 3 ↔ m < 2 ^ fs.length := by
  rcases fs with _ | ⟨a, _ | ⟨b, _ | ⟨c, _ | ⟨d, l⟩⟩⟩⟩
  · rcases (by omega : m = 0 ∨ m = 1 ∨ m = 2 ∨ m = 3 ∨ m = 4 ∨ m = 5 ∨ m = 6 ∨ m = 7) with rfl | rfl | rfl | rfl | rfl | rfl | rfl | rfl <;> simp [rowTo, manyTo, bitOf]
  · rcases (by omega : m = 0 ∨ m = 1 ∨ m = 2 ∨ m = 3 ∨ m = 4 ∨ m = 5 ∨ m = 6 ∨ m = 7) with rfl | rfl | rfl | rfl | rfl | rfl | rfl | rfl <;> simp [rowTo, manyTo, bitOf]
  · rcases (by omega : m = 0 ∨ m = 1 ∨ m = 2 ∨ m = 3 ∨ m = 4 ∨ m = 5 ∨ m = 6 ∨ m = 7) with rfl | rfl | rfl | rfl | rfl | rfl | rfl | rfl <;> simp [rowTo, manyTo, bitOf]
  · rcases (by omega : m = 0 ∨ m = 1 ∨ m = 2 ∨ m = 3 ∨ m = 4 ∨ m = 5 ∨ m = 6 ∨ m = 7) with rfl | rfl | rfl | rfl | rfl | rfl | rfl | rfl <;> simp [rowTo, manyTo, bitOf]
  · simp only [List.length_cons] at h
    omega
theorem waysS_eq (t : GTask) (h : t.out.length ≤ 3) : ∀ m, m < 8 → waysS t m = waysTo t (min m (2 ^ t.out.length - 1))
  | 0, _ => by simp [waysS, waysTo]
  | m + 1, hm => by
    have ih := waysS_eq t h m (by omega)
    have hr : rowTo t.out (m + 1) 3 = rowTo t.out (m + 1) t.out.length := by
      have := rowTo_past t.out (m + 1) (3 - t.out.length)
      rw [show t.out.length + (3 - t.out.length) = 3 by omega] at this
      exact this
    have h2 := manyTo_eq t.out h (m + 1) hm
    unfold waysS
    rw [ih]
    by_cases hlt : m + 1 < 2 ^ t.out.length
    · have h3 : min (m + 1) (2 ^ t.out.length - 1) = m + 1 := by omega
      have h4 : min m (2 ^ t.out.length - 1) = m := by omega
      rw [h3, h4, decide_eq_true (h2.2 hlt), hr]
      show _ = (if fitWay t (rowTo t.out (m + 1) t.out.length) = true then waysTo t m ++ [rowTo t.out (m + 1) t.out.length] else waysTo t m)
      simp only [Bool.true_and]
    · have h3 : min (m + 1) (2 ^ t.out.length - 1) = min m (2 ^ t.out.length - 1) := by omega
      rw [h3, if_neg]
      rw [decide_eq_false (fun hh => hlt (h2.1 hh))]
      simp
theorem waysS_of (t : GTask) (h : t.out.length ≤ 3) : waysS t 7 = waysOf t := by
  rw [waysS_eq t h 7 (by omega), waysOf, if_pos h]
  have : 2 ^ t.out.length ≤ 8 := by
    rcases (by omega : t.out.length = 0 ∨ t.out.length = 1 ∨ t.out.length = 2 ∨ t.out.length = 3) with h | h | h | h <;> rw [h] <;> decide
  rw [show min 7 (2 ^ t.out.length - 1) = 2 ^ t.out.length - 1 by omega]
/-- Each way leads somewhere, and not to more than it has. -/
theorem rowTo_pos (fs : List GFlow) (h : fs.length ≤ 3) (m : Nat) (h1 : 1 ≤ m) (hm : m < 2 ^ fs.length) : 1 ≤ (rowTo fs m fs.length).length := by
  have h8 : 2 ^ fs.length ≤ 8 := by
    rcases (by omega : fs.length = 0 ∨ fs.length = 1 ∨ fs.length = 2 ∨ fs.length = 3) with h | h | h | h <;> rw [h] <;> decide
  have h2 := (manyTo_eq fs h m (by omega)).2 hm
  have hr := rowTo_past fs m (3 - fs.length)
  rw [show fs.length + (3 - fs.length) = 3 by omega] at hr
  rw [← hr, h2]
  have : m < 8 := by omega
  rcases (by omega : m = 1 ∨ m = 2 ∨ m = 3 ∨ m = 4 ∨ m = 5 ∨ m = 6 ∨ m = 7) with rfl | rfl | rfl | rfl | rfl | rfl | rfl <;> decide
end Go.Proofs.Ytkkjljpokannkaa
