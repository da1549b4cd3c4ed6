/- Slices of Did records marked. -/
import Derived.Test.YtjieilicjdoaaaaGMrk0
import Derived.Test.YtjieilicjdoaaaaGCopy
import Derived.Test.YtjieilicjdoaaaaGBase
namespace Go.Proofs.Ytjieilicjdoaaaa
open Go.RowKit

end Go.Proofs.Ytjieilicjdoaaaa

/- Slices of Item records marked. -/
namespace Go.Proofs.Ytjieilicjdoaaaa
open Go.RowKit

end Go.Proofs.Ytjieilicjdoaaaa

/- A case's copy marked: it turns nothing but its own rows. -/
namespace Go.Proofs.Ytjieilicjdoaaaa
open Go.RowKit

end Go.Proofs.Ytjieilicjdoaaaa

/- A slice of records of who did what, of the call's own: marked by a count, and asked for its marks. -/
namespace Go.Proofs.Ytjieilicjdoaaaa
open Go.RowKit

/-- A slice of the call's own whose cells are these numbers. -/
def OwnN (w : World) (base : Nat) (A : Option Addr) (zs : List Int) : Prop := 0 < zs.length → ∃ g t, A = some ⟨g, 0, none⟩ ∧ base ≤ g ∧ Wr w g t (iv zs)
section
variable {w w' : World} {base : Nat} {A : Option Addr} {zs : List Int}
theorem OwnN.later (h : OwnN w base A zs) (hb : Below w.heap.size w w') : OwnN w' base A zs := fun h0 => by
 obtain ⟨g, t, hA, hg, hw⟩ := h h0
 exact ⟨g, t, hA, hg, hw.later hb⟩
theorem OwnN.cell (h : OwnN w base A zs) {i : Nat} (hi : i < zs.length) : ∃ g, A = some ⟨g, 0, none⟩ ∧ w.cell? ⟨g, i, none⟩ = some (.int .i64 zs[i]) := by
 obtain ⟨g, t, hA, _, hw⟩ := h (by omega)
 exact ⟨g, hA, hw.cell (iv_get (List.getElem?_eq_getElem hi))⟩
end
end Go.Proofs.Ytjieilicjdoaaaa

/- A new case: its marks and its data lie in two blocks of their own, nothing is under way or done; marked by a count, and asked for its marks. -/
namespace Go.Proofs.Ytjieilicjdoaaaa
open Go.RowKit
set_option linter.unusedVariables false
set_option linter.unusedSimpArgs false

/-- Marks and data in two blocks of their own, from base on and below hi. -/
def NewAt (w : World) (base hi : Nat) (A1 : Option Addr) (ms : List Int) (A3 : Option Addr) (d : List Int) : Prop :=
 ∃ g1 g3, (base ≤ g1 ∧ g1 < hi ∧ base ≤ g3 ∧ g3 < hi ∧ g1 ≠ g3 ∧ hi ≤ w.heap.size) ∧ (0 < ms.length → A1 = some ⟨g1, 0, none⟩ ∧ Wr w g1 3 (iv ms)) ∧ (0 < d.length → A3 = some ⟨g3, 0, none⟩ ∧ Wr w g3 3 (iv d))
section
variable {w w' : World} {base hi : Nat} {A1 A3 : Option Addr} {ms d : List Int}
theorem NewAt.later (h : NewAt w base hi A1 ms A3 d) (hb : Below w.heap.size w w') : NewAt w' base hi A1 ms A3 d := by
 obtain ⟨g1, g3, ⟨a, b, c, e, f, i⟩, h1, h3⟩ := h
 have := hb.size
 exact ⟨g1, g3, ⟨a, b, c, e, f, by omega⟩, fun h0 => ⟨(h1 h0).1, (h1 h0).2.later hb⟩, fun h0 => ⟨(h3 h0).1, (h3 h0).2.later hb⟩⟩
theorem NewAt.marks (h : NewAt w base hi A1 ms A3 d) (hl : ms.length ≤ 9223372036854775807) : Ints w w.heap.size A1 ms := by
 obtain ⟨g1, g3, _, h1, h3⟩ := h
 exact ⟨hl, fun h0 => by
  obtain ⟨hA, hw⟩ := h1 h0
  subst hA
  exact (hw.ints hw.lt hl).2 h0⟩
theorem NewAt.data (h : NewAt w base hi A1 ms A3 d) (hl : d.length ≤ 9223372036854775807) : Ints w w.heap.size A3 d := by
 obtain ⟨g1, g3, _, h1, h3⟩ := h
 exact ⟨hl, fun h0 => by
  obtain ⟨hA, hw⟩ := h3 h0
  subst hA
  exact (hw.ints hw.lt hl).2 h0⟩
end

/-- Marks and data that lie somewhere below S. -/
def WantN (S : Nat) (A1 : Option Addr) (ms : List Int) (A3 : Option Addr) (d : List Int) (w : World) : Prop := S ≤ w.heap.size ∧ Ints w S A1 ms ∧ Ints w S A3 d
theorem WantN.later {S : Nat} {A1 A3 : Option Addr} {ms d : List Int} {w w' : World} (h : WantN S A1 ms A3 d w) (hb : Below w.heap.size w w') : WantN S A1 ms A3 d w' := ⟨Nat.le_trans h.1 hb.size, h.2.1.below (hb.mono h.1), h.2.2.below (hb.mono h.1)⟩
end Go.Proofs.Ytjieilicjdoaaaa

