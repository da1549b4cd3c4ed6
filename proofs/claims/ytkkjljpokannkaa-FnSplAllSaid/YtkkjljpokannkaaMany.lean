/- Slices of slices of ints, each row in a block of its own: how they read. -/
import Derived.Test.YtkkjljpokannkaaAppRow
import Derived.Test.YtkkjljpokannkaaMarks
namespace Go.Proofs.Ytkkjljpokannkaa
open Go.RowKit
set_option linter.unusedSimpArgs false
set_option linter.unusedVariables false

/-- A row of ints and the block in which it lies. -/
def rowC : Cod (List Int × Nat) :=
  { k := 1
    R := fun m w B p cs => ∃ c, cs = [.slice (some ⟨p.2, 0, none⟩) p.1.length c] ∧ Wr w p.2 3 (iv p.1) ∧ okB m w B p.2
    keep := fun ⟨c, h1, h2, h3⟩ ha => ⟨c, h1, h2.keep (ha _ h3.1 fun lo hl => (h3.2 lo hl).1), h3.keep ha⟩
    more := fun ⟨c, h1, h2, h3⟩ hB => ⟨c, h1, h2, h3.more hB⟩
    weak := fun ⟨c, h1, h2, h3⟩ hm => ⟨c, h1, h2, h3.weak hm⟩
    len := fun ⟨c, h1, _⟩ => by subst h1; rfl }

/-- n rows x, row j in block b j, behind the address A. -/
def SS (w : World) (base : Nat) (A : Option Addr) (n : Nat) (b : Nat → Nat) (x : Nat → List Int) : Prop :=
  0 < n → ∃ G, A = some ⟨G, 0, none⟩ ∧ base ≤ G ∧ G < w.heap.size ∧ ∀ j, j < n → (∃ c, w.cell? ⟨G, j, none⟩ = some (.slice (some ⟨b j, 0, none⟩) (x j).length c)) ∧ base ≤ b j ∧ b j ≠ G ∧ Wr w (b j) 3 (iv (x j))
/-- Row j of such a list, and its block. -/
def rowAt (l : List (List Int × Nat)) (j : Nat) : List Int := (l.getD j ([], 0)).1
def blockAt (l : List (List Int × Nat)) (j : Nat) : Nat := (l.getD j ([], 0)).2
section
variable {w w' : World} {base n : Nat} {A : Option Addr} {b : Nat → Nat} {x : Nat → List Int}
theorem SS.later (h : SS w base A n b x) (hb : Below w.heap.size w w') : SS w' base A n b x := fun h0 => by
  obtain ⟨G, hA, h1, h2, h3⟩ := h h0
  refine ⟨G, hA, h1, Nat.lt_of_lt_of_le h2 hb.size, fun j hj => ?_⟩
  obtain ⟨⟨c, hc⟩, h4, h5, h6⟩ := h3 j hj
  exact ⟨⟨c, (hb.cell (p := ⟨G, j, none⟩) h2).trans hc⟩, h4, h5, h6.later hb⟩
theorem SS.inside {lo hi : Nat} (h : SS w base A n b x) (hin : Inside lo hi w w') (hh : hi ≤ base) : SS w' base A n b x := fun h0 => by
  obtain ⟨G, hA, h1, h2, h3⟩ := h h0
  refine ⟨G, hA, h1, by rw [hin.size]; exact h2, fun j hj => ?_⟩
  obtain ⟨⟨c, hc⟩, h4, h5, h6⟩ := h3 j hj
  exact ⟨⟨c, (World.cell?_of_block (a := ⟨G, j, none⟩) (hin.block G (.inr (by omega)))).trans hc⟩, h4, h5, h6.keep (hin.block _ (.inr (by omega)))⟩
theorem SS.of_own {t : TypeId} {l : List (List Int × Nat)} {c : Nat} (h : OwnC rowC t w base (.slice A l.length c) l) : SS w base A l.length (blockAt l) (rowAt l) := fun h0 => by
  obtain ⟨css, hl, h2, h3, hown⟩ := h
  rcases hown with ⟨_, hz⟩ | ⟨G, cap, cur, hv, hG, hh, _, _, _, ht⟩
  · omega
  simp only [Value.slice.injEq] at hv
  obtain ⟨hA, _, _⟩ := hv
  subst hA
  refine ⟨G, rfl, hG, (Array.getElem?_eq_some_iff.1 hh).1, fun j hj => ?_⟩
  have hjc : css[j]? = some (css[j]'(by omega)) := List.getElem?_eq_getElem (by omega)
  obtain ⟨p, lo, B, hx, hlo, hB, hsep, hR⟩ := h2 j _ hjc
  have hp : l.getD j ([], 0) = p := by rw [List.getD_eq_getElem?_getD, hx]; rfl
  obtain ⟨c1, hcs, hw, hok⟩ := hR
  have hs := hsep G rfl
  have h4 := hok.1
  have h5 := (hok.2 lo rfl).1
  unfold rowAt blockAt
  rw [hp]
  refine ⟨⟨c1, ?_⟩, by omega, by omega, hw⟩
  rw [cell_of_row w G _ cur t (0, 0) hh]
  have h5 := flat_get css rowC.k (OwnC.clen h2) hjc (i := 0) (u := .slice (some ⟨p.2, 0, none⟩) p.1.length c1) (by rw [hcs]; rfl)
  have h6 : (cur.toList.take css.flatten.length)[j]? = some (.slice (some ⟨p.2, 0, none⟩) p.1.length c1) := by
    have h8 : cur.toList.take css.flatten.length = css.flatten := by
      have h7 := ht
      rw [← h3] at h7
      exact h7
    rw [h8, show j = j * rowC.k + 0 from by show j = j * 1 + 0; omega]; exact h5
  rw [List.getElem?_take] at h6
  split at h6
  · simpa using h6
  · cases h6
theorem SS.at_ (h : SS w base A n b x) {j : Nat} (hj : j < n) (hl : (x j).length ≤ 1000) : ∃ G c, A = some ⟨G, 0, none⟩ ∧ G < w.heap.size ∧ w.cell? ⟨G, j, none⟩ = some (.slice (some ⟨b j, 0, none⟩) (x j).length c) ∧ Ints w w.heap.size (some ⟨b j, 0, none⟩) (x j) := by
  obtain ⟨G, hA, _, h2, h3⟩ := h (by omega)
  obtain ⟨⟨c, hc⟩, _, _, hw⟩ := h3 j hj
  exact ⟨G, c, hA, h2, hc, hw.ints hw.lt (by omega)⟩
end
/-- So many ints lie in the first rows. -/
def totTo (x : Nat → List Int) : Nat → Nat
  | 0 => 0
  | j + 1 => totTo x j + (x j).length
theorem totTo_le (x : Nat → List Int) (h : ∀ i, (x i).length ≤ 1000) : ∀ j, totTo x j ≤ 1000 * j
  | 0 => by simp [totTo]
  | j + 1 => by have := totTo_le x h j; have := h j; unfold totTo; omega
/-- The rows of which the first j are marked. -/
def markedTo (k : Int) (x : Nat → List Int) (j i : Nat) : List Int := if i < j then seqI (k + (totTo x i : Nat)) (x i).length else x i
theorem markedTo_len (k : Int) (x : Nat → List Int) (j i : Nat) : (markedTo k x j i).length = (x i).length := by
  unfold markedTo
  split
  · rw [seqI_len]
  · rfl
theorem SS.mark {w w' : World} {base n : Nat} {A : Option Addr} {b : Nat → Nat} {x : Nat → List Int} {k : Int} {j : Nat} (h : SS w base A n b (markedTo k x j)) (hj : j < n) (hinj : ∀ i i', i < n → i' < n → b i = b i' → i = i')
    (hin : Inside (b j) (b j + 1) w w') (hw : Wr w' (b j) 3 (iv (seqI (k + (totTo x j : Nat)) (x j).length))) : SS w' base A n b (markedTo k x (j + 1)) := fun h0 => by
  obtain ⟨G, hA, h1, h2, h3⟩ := h h0
  refine ⟨G, hA, h1, by rw [hin.size]; exact h2, fun i hi => ?_⟩
  obtain ⟨⟨c, hc⟩, h4, h5, h6⟩ := h3 i hi
  have hjG := (h3 j hj).2.2.1
  refine ⟨⟨c, ?_⟩, h4, h5, ?_⟩
  · rw [World.cell?_of_block (a := ⟨G, i, none⟩) (hin.block G (by show G < b j ∨ b j + 1 ≤ G; omega)), hc, markedTo_len, markedTo_len]
  · by_cases he : i = j
    · subst he
      unfold markedTo
      rw [if_pos (by omega)]
      exact hw
    · have hne : b i ≠ b j := fun hq => he (hinj i j hi hj hq)
      have h7 := h6.keep (hin.block (b i) (by omega))
      have h8 : markedTo k x (j + 1) i = markedTo k x j i := by
        unfold markedTo
        by_cases hij : i < j
        · rw [if_pos hij, if_pos (by omega)]
        · rw [if_neg hij, if_neg (by omega)]
      rw [h8]
      exact h7
end Go.Proofs.Ytkkjljpokannkaa
