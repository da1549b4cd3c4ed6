/- What holds of copies while others are marked. -/
import Derived.Test.YtkoaaagmcjjimaaMarkNet
import Derived.Test.YtkoaaagmcjjimaaMarkCase
namespace Go.Proofs.Ytkoaaagmcjjimaa
open Go.RowKit

theorem InsideG.of {lo hi : Nat} {w w' : World} (h : Inside lo hi w w') : InsideG lo hi w w' := ⟨h.os, h.tape, h.output, by rw [h.size]; exact Nat.le_refl _, fun b _ ho => h.block b ho⟩
theorem IntAt.lt {w : World} {g o n : Nat} (h : IntAt w g o n) : g < w.heap.size := by
  obtain ⟨⟨cur, t, hc⟩, _⟩ := h
  exact (Array.getElem?_eq_some_iff.1 hc).1
section
variable {w w' : World} {lo hi b : Nat} {t : TypeId} {cs : Array Value}
theorem Bk.inG (h : Bk w b t cs) (hi' : InsideG lo hi w w') (hb : b < lo ∨ hi ≤ b) : Bk w' b t cs := (hi'.block b h.lt hb).trans h
theorem OwnI.inG {base : Nat} {A : Option Addr} {xs : List Int} (h : OwnI w base A xs) (hi' : InsideG lo hi w w') (hb : hi ≤ base) : OwnI w' base A xs := fun h0 => by
  obtain ⟨g, hA, hg, hw⟩ := h h0
  exact ⟨g, hA, hg, hw.keep (hi'.block g hw.lt (.inr (by omega)))⟩
end

/-- A copied row of ints that may be marked: it lies from lo on, below hi. -/
def IntHeld (lo hi : Nat) (A : Option Addr) (n : Nat) (w : World) : Prop := hi ≤ w.heap.size ∧ (0 < n → ∃ g off, A = some ⟨g, off, none⟩ ∧ IntAt w g off n ∧ lo ≤ g ∧ g < hi)
section
variable {w w' : World} {lo hi n : Nat} {A : Option Addr}
theorem IntHeld.later (h : IntHeld lo hi A n w) (hb : Below w.heap.size w w') : IntHeld lo hi A n w' :=
  ⟨Nat.le_trans h.1 hb.size, fun hn => by
    obtain ⟨g, off, e1, e2, e3, e4⟩ := h.2 hn
    exact ⟨g, off, e1, e2.later hb e2.lt, e3, e4⟩⟩
theorem IntHeld.kept (h : IntHeld lo hi A n w) (hs : w.heap.size ≤ w'.heap.size) (hk : ∀ g o n, IntAt w g o n → IntAt w' g o n) : IntHeld lo hi A n w' :=
  ⟨Nat.le_trans h.1 hs, fun hn => by
    obtain ⟨g, off, e1, e2, e3, e4⟩ := h.2 hn
    exact ⟨g, off, e1, hk _ _ _ e2, e3, e4⟩⟩
end
theorem IntHeld.ints {w : World} {g : Nat} {t : TypeId} {xs : List Int} {lo : Nat} (h : Wr w g t (iv xs)) (hl : xs.length ≤ 9223372036854775807) (hlo : lo ≤ g) : IntHeld lo w.heap.size (some ⟨g, 0, none⟩) xs.length w :=
  ⟨Nat.le_refl _, fun hn => ints_at (h.rows hl hlo h.lt) hn⟩
theorem IntHeld.dids {w : World} {A : Option Addr} {xs : List GDid} {lo g : Nat} (h : Rows didC (some g) w w.heap.size A xs) (hlo : lo ≤ g) : IntHeld lo w.heap.size A (xs.length * 2) w :=
  ⟨Nat.le_refl _, fun hn => by
    obtain ⟨g', off, e1, e2, e3, e4⟩ := dids_at h (by omega)
    exact ⟨g', off, e1, e2, by omega, e4⟩⟩
theorem IntHeld.items {w : World} {A : Option Addr} {xs : List GItem} {lo g : Nat} (h : Rows itemC (some g) w w.heap.size A xs) (hlo : lo ≤ g) : IntHeld lo w.heap.size A (xs.length * 3) w :=
  ⟨Nat.le_refl _, fun hn => by
    obtain ⟨g', off, e1, e2, e3, e4⟩ := items_at h (by omega)
    exact ⟨g', off, e1, e2, by omega, e4⟩⟩
/-- A copied net that may be marked. -/
def NetHeld (lo g hi : Nat) (t : List GTask) (w : World) : Prop := lo ≤ g ∧ g < hi ∧ hi ≤ w.heap.size ∧ NetAt w g hi t
theorem NetHeld.later {lo g hi : Nat} {t : List GTask} {w w' : World} (h : NetHeld lo g hi t w) (hb : Below w.heap.size w w') : NetHeld lo g hi t w' :=
  ⟨h.1, h.2.1, Nat.le_trans h.2.2.1 hb.size, h.2.2.2.later hb (Nat.lt_of_lt_of_le h.2.1 h.2.2.1) h.2.2.1⟩
theorem NetHeld.of_filled {w : World} {g lo : Nat} {T : TypeId} {zc : List Value} {t : List GTask} (h : Filled taskC w g T zc t t.length) (hlo : lo ≤ g) : NetHeld lo g w.heap.size t w := ⟨hlo, h.lt, Nat.le_refl _, NetAt.of_filled h⟩

/-- Ints that lie below S. -/
def Want (S : Nat) (A : Option Addr) (xs : List Int) (w : World) : Prop := S ≤ w.heap.size ∧ Ints w S A xs
theorem Want.later {S : Nat} {A : Option Addr} {xs : List Int} {w w' : World} (h : Want S A xs w) (hb : Below w.heap.size w w') : Want S A xs w' := ⟨Nat.le_trans h.1 hb.size, h.2.below (hb.mono h.1)⟩
theorem Want.inG {S lo hi : Nat} {A : Option Addr} {xs : List Int} {w w' : World} (h : Want S A xs w) (hi' : InsideG lo hi w w') (hS : S ≤ lo) : Want S A xs w' := ⟨Nat.le_trans h.1 hi'.size, h.2.below (hi'.below hS h.1)⟩

theorem szOf_ok {n : Nat} {left : Int} (h : ¬ szOf n left < 0) : (n : Int) ≤ left ∧ 0 ≤ szOf n left ∧ szOf n left ≤ left := by
  unfold szOf at *
  split at h <;> rename_i hh
  · omega
  · rw [if_neg hh]; omega
end Go.Proofs.Ytkoaaagmcjjimaa
