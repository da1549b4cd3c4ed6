/- Copies of a case that may be marked, and records that were given: what the walk of FnExactCasCan keeps of them. -/
import Derived.Test.YtkoaaagmcjjimaaGreatCan
import Derived.Test.YtkoaaagmcjjimaaGreatGMark
namespace Go.Proofs.YtkoaaagmcjjimaaGreat
open Go.RowKit

/-- A copied row that may be marked: it lies from lo on, below hi. -/
def HeldC {α : Type} (C : Cod α) (lo hi : Nat) (A : Option Addr) (xs : List α) (w : World) : Prop := hi ≤ w.heap.size ∧ Rows C (some lo) w hi A xs
theorem HeldC.later {α : Type} {C : Cod α} {lo hi : Nat} {A : Option Addr} {xs : List α} {w w' : World} (h : HeldC C lo hi A xs w) (hb : Below w.heap.size w w') : HeldC C lo hi A xs w' := ⟨Nat.le_trans h.1 hb.size, h.2.below (hb.mono h.1)⟩
theorem HeldC.inG {α : Type} {C : Cod α} {lo hi lo' hi' : Nat} {A : Option Addr} {xs : List α} {w w' : World} (h : HeldC C lo hi A xs w) (hi2 : InsideG lo' hi' w w') (hs : hi' ≤ lo) : HeldC C lo hi A xs w' :=
  ⟨Nat.le_trans h.1 hi2.size, h.2.keep fun b hb hl => hi2.block b (by have := h.1; omega) (.inr (by have := hl lo rfl; omega))⟩

/-- Records that lie somewhere below S. -/
def WantD (S : Nat) (A : Option Addr) (xs : List GDid) (w : World) : Prop := S ≤ w.heap.size ∧ Rows didC none w S A xs
theorem WantD.later {S : Nat} {A : Option Addr} {xs : List GDid} {w w' : World} (h : WantD S A xs w) (hb : Below w.heap.size w w') : WantD S A xs w' := ⟨Nat.le_trans h.1 hb.size, h.2.below (hb.mono h.1)⟩
theorem WantD.inG {S lo hi : Nat} {A : Option Addr} {xs : List GDid} {w w' : World} (h : WantD S A xs w) (hi' : InsideG lo hi w w') (hS : S ≤ lo) : WantD S A xs w' := ⟨Nat.le_trans h.1 hi'.size, h.2.below (hi'.below hS h.1)⟩
theorem WantD.rows {S : Nat} {A : Option Addr} {xs : List GDid} {w : World} (h : WantD S A xs w) : Rows didC none w w.heap.size A xs := h.2.more h.1

/-- Records of the call's own, from base on. -/
def DidG (base : Nat) (A : Option Addr) (xs : List GDid) (w : World) : Prop := OwnN w base A (didInts xs) ∧ ∃ hi, hi ≤ w.heap.size ∧ Rows didC (some base) w hi A xs ∧ (0 < xs.length → ∀ g, A = some ⟨g, 0, none⟩ → g < hi)
theorem DidG.later {base : Nat} {A : Option Addr} {xs : List GDid} {w w' : World} (h : DidG base A xs w) (hb : Below w.heap.size w w') : DidG base A xs w' := by
  obtain ⟨h1, hi, h2, h3, h4⟩ := h
  exact ⟨h1.later hb, hi, Nat.le_trans h2 hb.size, h3.below (hb.mono h2), h4⟩
theorem DidG.inG {base lo hi : Nat} {A : Option Addr} {xs : List GDid} {w w' : World} (h : DidG base A xs w) (hi2 : InsideG lo hi w w') (hb : hi ≤ base) : DidG base A xs w' := by
  obtain ⟨h1, hi', h2, h3, h4⟩ := h
  refine ⟨fun h0 => ?_, hi', Nat.le_trans h2 hi2.size, h3.keep fun b hb' hl => hi2.block b (by omega) (.inr (by have := hl base rfl; omega)), h4⟩
  obtain ⟨g, t, hA, hg, hw⟩ := h1 h0
  exact ⟨g, t, hA, hg, hw.keep (hi2.block g hw.lt (.inr (by omega)))⟩
theorem DidG.rows {base : Nat} {A : Option Addr} {xs : List GDid} {w : World} (h : DidG base A xs w) : Rows didC (some base) w w.heap.size A xs := by
  obtain ⟨_, hi', h2, h3, _⟩ := h
  exact h3.more h2
theorem DidG.hi {base : Nat} {A : Option Addr} {xs : List GDid} {w : World} (h : DidG base A xs w) : 0 < xs.length → ∀ g, A = some ⟨g, 0, none⟩ → g < w.heap.size := fun h0 g hA => by
  obtain ⟨_, hi', h2, _, h4⟩ := h
  exact Nat.lt_of_lt_of_le (h4 h0 g hA) h2
theorem DidG.of {base : Nat} {v : Value} {xs : List GDid} {w : World} {e : TypeId} (h : OwnC didC e w base v xs) (hl : xs.length ≤ 9223372036854775807) : ∃ A c, v = .slice A xs.length c ∧ DidG base A xs w := by
  obtain ⟨A, c, hv, hn⟩ := OwnN.of_did h
  obtain ⟨A', c', hv', hr⟩ := OwnC.rows h hl
  rw [hv] at hv'
  cases hv'
  refine ⟨A, c, hv, hn, _, Nat.le_refl _, hr, fun h0 g hA => ?_⟩
  obtain ⟨g', t, hA', _, hw⟩ := hn (by rw [didInts_len]; omega)
  rw [hA] at hA'
  cases hA'
  exact hw.lt
theorem WantD.of {base : Nat} {A : Option Addr} {xs : List GDid} {w : World} (h : DidG base A xs w) : WantD w.heap.size A xs w := ⟨Nat.le_refl _, h.rows.weak (fun _ h => by cases h)⟩
end Go.Proofs.YtkoaaagmcjjimaaGreat
