/- slices.Sort and slices.Compact over ints, in a row of the call's own. -/
import Derived.Test.YtkkjljpokannkaaAsksI
import Derived.Test.YtkkjljpokannkaaSorts
import Derived.Sort.OwnSortedInts
namespace Go.Proofs.Ytkkjljpokannkaa
open Go.RowKit Go.Sort
set_option linter.unusedSimpArgs false

theorem grown_below {w w' : World} {g base : Nat} (h : w.grownBy w' (some g)) (hg : base ≤ g) (hb : base ≤ w.heap.size) : Below base w w' :=
  (Below.refl _ _).grown h hb fun k hk => by cases hk; exact hg
theorem take_size {cur : Array Value} {l : List Value} {n : Nat} (h : cur.toList.take n = l) (hl : l.length = n) : n ≤ cur.size := by
  have h1 := congrArg List.length h
  rw [List.length_take, hl, Array.length_toList] at h1
  omega

theorem sortLaw : SortLaw := fun base A c xs w h hl hb => by
  rcases Nat.eq_zero_or_pos xs.length with h0 | h0
  · obtain rfl := List.eq_nil_of_length_eq_zero h0
    refine (Try.slices_Sort_int_none A c w).mono ?_
    rintro e w' ⟨rfl, rfl⟩
    exact ⟨rfl, fun h => absurd h (by simp), Below.refl _ _⟩
  · obtain ⟨g, rfl, hg, cur, hblk, htk⟩ := h h0
    rw [iv_len] at htk
    have hsz := take_size htk (iv_len xs)
    refine (Try.slices_Sort_int g 0 c xs w (holds_of_blockI hblk htk) (Array.getElem?_eq_some_iff.1 hblk).1 (by omega)).mono ?_
    rintro e w' ⟨rfl, n, os, rfl⟩
    refine ⟨rfl, fun _ => ⟨g, rfl, hg, _, heap_sortedI _ hblk, ?_⟩, grown_below (grownBy_sortedI _) hg hb⟩
    rw [iv_len]
    exact take_putCellsI cur _ (by rw [List.length_mergeSort]; exact hsz)

theorem compact_len (xs : List Int) : (Go.Lib.compact xs).length ≤ xs.length := by
  unfold Go.Lib.compact Go.Lib.compactUpTo
  rw [List.length_map]
  exact Nat.le_trans (List.length_filter_le _ _) (by simp)

theorem compactLaw : CompactLaw := fun base A c xs w h hl hc hb => by
  rcases Nat.eq_zero_or_pos xs.length with h0 | h0
  · obtain rfl := List.eq_nil_of_length_eq_zero h0
    refine (Try.slices_Compact_int_empty A c w).mono ?_
    rintro e w' ⟨rfl, rfl⟩
    exact ⟨rfl, fun h => absurd h (by simp [Go.Lib.compact, Go.Lib.compactUpTo]), Below.refl _ _⟩
  · obtain ⟨g, rfl, hg, cur, hblk, htk⟩ := h h0
    rw [iv_len] at htk
    have hsz := take_size htk (iv_len xs)
    have hcl := compact_len xs
    refine (Try.slices_Compact_int g 0 c xs w (holds_of_blockI hblk htk) (by omega) hc).mono ?_
    rintro e w' ⟨rfl, n, hw⟩
    rw [← grow_empty (putRow _ _ _ _ _)] at hw
    subst hw
    refine ⟨rfl, fun _ => ⟨g, rfl, hg, _, heap_sortedI _ hblk, ?_⟩, grown_below (grownBy_sortedI _) hg hb⟩
    have h1 := take_putCellsI cur (Go.Lib.compact xs ++ List.replicate (xs.length - (Go.Lib.compact xs).length) 0) (by simp; omega)
    have h2 := congrArg (List.take (Go.Lib.compact xs).length) h1
    rw [List.take_take, List.map_append, List.take_left' (by simp), Nat.min_eq_left (by simp)] at h2
    rw [iv_len]
    exact h2
end Go.Proofs.Ytkkjljpokannkaa
