/- Rows of plain records marked: all their cells are ints, and stay ints. -/
import Derived.Test.YtjieilicjdoaaaaGBase
namespace Go.Proofs.Ytjieilicjdoaaaa
open Go.RowKit

/-- Block g begins with n cells that are ints. -/
def IntRow (w : World) (g n : Nat) : Prop := ∃ (t : TypeId) (zs : List Int), zs.length = n ∧ Wr w g t (iv zs)

theorem IntRow.cell {w : World} {g n : Nat} (h : IntRow w g n) {i : Nat} (hi : i < n) : ∃ z, w.cell? ⟨g, i, none⟩ = some (.int .i64 z) := by
 obtain ⟨t, zs, hl, hw⟩ := h
 exact ⟨zs[i]'(by omega), hw.cell (iv_get (List.getElem?_eq_getElem (by omega)))⟩
theorem IntRow.frozen {w : World} {g n : Nat} (h : IntRow w g n) (i : Nat) : w.frozen? ⟨g, i, none⟩ = false := by
 obtain ⟨t, zs, _, hw⟩ := h
 exact hw.frozen i
theorem iv_set (zs : List Int) (i : Nat) (z : Int) : (iv zs).set i (.int .i64 z) = iv (zs.set i z) := by simp [iv, List.map_set]
theorem IntRow.set {w : World} {g n : Nat} (h : IntRow w g n) (i : Nat) (z : Int) : IntRow (w.setCell ⟨g, i, none⟩ (.int .i64 z)) g n := by
 obtain ⟨t, zs, hl, hw⟩ := h
 exact ⟨t, zs.set i z, by simpa using hl, by rw [← iv_set]; exact hw.set i _⟩
theorem IntRow.later {w w' : World} {g n : Nat} (h : IntRow w g n) (hb : Below w.heap.size w w') : IntRow w' g n := by
 obtain ⟨t, zs, hl, hw⟩ := h
 exact ⟨t, zs, hl, hw.later hb⟩
theorem IntRow.lt {w : World} {g n : Nat} (h : IntRow w g n) : g < w.heap.size := by
 obtain ⟨t, zs, hl, hw⟩ := h
 exact hw.lt

end Go.Proofs.Ytjieilicjdoaaaa

/- Cells that are ints, and stay ints when they are marked. -/
namespace Go.Proofs.Ytjieilicjdoaaaa
open Go.RowKit

/-- Writable cells of block g, from off on, that are ints. -/
def IntAt (w : World) (g off n : Nat) : Prop := (∃ cur t, w.heap[g]? = some (.cells cur t (0, 0))) ∧ ∀ i, i < n → ∃ z, w.cell? ⟨g, off + i, none⟩ = some (.int .i64 z)
theorem IntAt.frozen {w : World} {g off n : Nat} (h : IntAt w g off n) (i : Nat) : w.frozen? ⟨g, i, none⟩ = false := by
 obtain ⟨⟨cur, t, hc⟩, _⟩ := h
 exact frozen_of_row w g i cur t hc
/-- A number put anywhere leaves cells that are numbers numbers. -/
theorem IntAt.any {w : World} {g off n : Nat} (h : IntAt w g off n) (p : Addr) (hp : p.spot = none) (z : Int) : IntAt (w.setCell p (.int .i64 z)) g off n := by
 obtain ⟨b, o, s⟩ := p
 subst hp
 obtain ⟨⟨cur, t, hc⟩, h2⟩ := h
 refine ⟨?_, fun i hi => ?_⟩
 ·
  by_cases hb : g = b
  ·
   subst hb
   exact ⟨_, t, heap_setCell_same w g o cur t _ hc⟩
  ·
   exact ⟨cur, t, (Below.heap_setCell w ⟨b, o, none⟩ _ g hb).trans hc⟩
 ·
  obtain ⟨y, hy⟩ := h2 i hi
  by_cases he : (⟨g, off + i, none⟩ : Addr) = ⟨b, o, none⟩
  ·
   rw [← he]
   exact ⟨z, World.cell?_setCell_same w _ _ hy⟩
  ·
   exact ⟨y, by rw [World.cell?_setCell_other _ _ _ _ (fun e => he e.symm)]; exact hy⟩
theorem IntAt.later {w w' : World} {g off n B : Nat} (h : IntAt w g off n) (hb : Below B w w') (hg : g < B) : IntAt w' g off n := by
 obtain ⟨⟨cur, t, hc⟩, h2⟩ := h
 exact ⟨⟨cur, t, (hb.block g hg).trans hc⟩, fun i hi => by obtain ⟨z, hz⟩ := h2 i hi; exact ⟨z, (hb.cell (p := ⟨g, off + i, none⟩) hg).trans hz⟩⟩
/-- The world w' is w but for the blocks from lo to hi, and has perhaps more memory. -/
structure InsideG (lo hi : Nat) (w w' : World) : Prop where
 os : w'.os = w.os
 tape : w'.tape = w.tape
 output : w'.output = w.output
 size : w.heap.size ≤ w'.heap.size
 block : ∀ b, b < w.heap.size → (b < lo ∨ hi ≤ b) → w'.heap[b]? = w.heap[b]?
theorem InsideG.below {lo hi B : Nat} {w w' : World} (h : InsideG lo hi w w') (hB : B ≤ lo) (hs : B ≤ w.heap.size) : Below B w w' := ⟨h.os, h.tape, h.output, h.size, fun k hk => h.block k (by omega) (.inl (by omega))⟩
end Go.Proofs.Ytjieilicjdoaaaa

