/- Rows of plain records marked: all their cells are ints, and stay ints. -/
import Derived.Test.YtjieilicjdoaaaaMarks
import Derived.Test.YtjieilicjdoaaaaFill
namespace Go.Proofs.Ytjieilicjdoaaaa
open Go.RowKit

/-- Block g begins with n cells that are ints. -/
def IntRow (w : World) (g n : Nat) : Prop := ∃ (t : TypeId) (zs : List Int), zs.length = n ∧ Wr w g t (iv zs)

theorem IntRow.cell {w : World} {g n : Nat} (h : IntRow w g n) {i : Nat} (hi : i < n) : ∃ z, w.cell? ⟨g, i, none⟩ = some (.int .i64 z) := by
  obtain ⟨t, zs, hl, hw⟩ := h
  exact ⟨zs[i]'(by omega), hw.cell (iv_get (List.getElem?_eq_getElem (by omega)))⟩
theorem IntRow.frozen {w : World} {g n : Nat} (h : IntRow w g n) (i : Nat) : w.frozen? ⟨g, i, none⟩ = false := by
  obtain ⟨t, zs, _, hw⟩ := h
  exact hw.frozen i
theorem iv_set (zs : List Int) (i : Nat) (z : Int) : (iv zs).set i (.int .i64 z) = iv (zs.set i z) := by simp [iv, List.map_set]
theorem IntRow.set {w : World} {g n : Nat} (h : IntRow w g n) (i : Nat) (z : Int) : IntRow (w.setCell ⟨g, i, none⟩ (.int .i64 z)) g n := by
  obtain ⟨t, zs, hl, hw⟩ := h
  exact ⟨t, zs.set i z, by simpa using hl, by rw [← iv_set]; exact hw.set i _⟩
theorem IntRow.later {w w' : World} {g n : Nat} (h : IntRow w g n) (hb : Below w.heap.size w w') : IntRow w' g n := by
  obtain ⟨t, zs, hl, hw⟩ := h
  exact ⟨t, zs, hl, hw.later hb⟩
theorem IntRow.inside {w w' : World} {g n lo hi : Nat} (h : IntRow w g n) (hi' : Inside lo hi w w') (hg : hi ≤ g) : IntRow w' g n := by
  obtain ⟨t, zs, hl, hw⟩ := h
  exact ⟨t, zs, hl, hw.keep (hi'.block g (.inr hg))⟩
theorem IntRow.lt {w : World} {g n : Nat} (h : IntRow w g n) : g < w.heap.size := by
  obtain ⟨t, zs, hl, hw⟩ := h
  exact hw.lt

theorem iv_flatten (css : List (List Int)) : iv css.flatten = (css.map iv).flatten := by
  induction css with
  | nil => rfl
  | cons c css ih => rw [List.flatten_cons, iv_append, ih]; rfl
/-- A row of plain records of the call's own is a row of ints. -/
theorem Rows.intRow {α : Type} {k lo B g : Nat} {cells : α → List Value} {hk : ∀ x, (cells x).length = k} {w : World} {xs : List α} (ints : α → List Int) (hi : ∀ x, cells x = iv (ints x)) (hpos : 0 < k)
    (h : Rows (flat k cells hk) (some lo) w B (some ⟨g, 0, none⟩) xs) (hn : 0 < xs.length) : IntRow w g (xs.length * k) ∧ lo ≤ g ∧ g < B := by
  obtain ⟨b, off, hA, hB, hc⟩ := h.2 hn
  cases hA
  obtain ⟨hlo, cur, t, hcur⟩ := hB.2 lo rfl
  refine ⟨⟨t, (xs.map ints).flatten, ?_, cur, hcur, ?_⟩, hlo, hB.1⟩
  · rw [flat_len' (xs.map ints) k (fun cs hcs => by
      obtain ⟨x, _, rfl⟩ := List.mem_map.1 hcs
      have := hk x
      rw [hi x, iv_len] at this
      exact this), List.length_map]
  · have hl : (iv (xs.map ints).flatten).length = xs.length * k := by
      rw [iv_len, flat_len' (xs.map ints) k (fun cs hcs => by
        obtain ⟨x, _, rfl⟩ := List.mem_map.1 hcs
        have := hk x
        rw [hi x, iv_len] at this
        exact this), List.length_map]
    rw [hl]
    apply List.ext_getElem?
    intro i
    rw [List.getElem?_take]
    by_cases h1 : i < xs.length * k
    · rw [if_pos h1]
      have hj : i / k < xs.length := Nat.div_lt_of_lt_mul (by rw [Nat.mul_comm]; exact h1)
      have hr : i % k < k := Nat.mod_lt _ hpos
      have hij : i = (i / k) * k + i % k := by rw [Nat.mul_comm]; exact (Nat.div_add_mod i k).symm
      obtain ⟨cs, hR, hcs⟩ := hc (i / k) _ (List.getElem?_eq_getElem hj)
      obtain rfl : cs = cells xs[i / k] := hR
      have hu : (cells xs[i / k])[i % k]? = some ((cells xs[i / k])[i % k]'(by rw [hk]; exact hr)) := List.getElem?_eq_getElem _
      have h2 := hcs (i % k) _ hu
      rw [show (0 + i / k * (flat k cells hk).k + i % k) = i from by show 0 + i / k * k + i % k = i; omega, cell_of_row w g i cur t (0, 0) hcur] at h2
      rw [Array.getElem?_toList, h2]
      have h3 := flat_get ((xs.map ints).map iv) k (fun cs hcs => by
        obtain ⟨y, hy, rfl⟩ := List.mem_map.1 hcs
        obtain ⟨x, _, rfl⟩ := List.mem_map.1 hy
        rw [← hi x]; exact hk x) (j := i / k) (i := i % k) (cs := cells xs[i / k]) (by simp [hj, hi]) hu
      rw [← hij] at h3
      rw [show iv (xs.map ints).flatten = ((xs.map ints).map iv).flatten from iv_flatten _, h3]
    · rw [if_neg h1, List.getElem?_eq_none (by omega)]
end Go.Proofs.Ytjieilicjdoaaaa
