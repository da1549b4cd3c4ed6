/- Cases in memory of the call's own: what reads as a case, and what keeps it. -/
import Derived.Test.YtjieilicjdoaaaaCopy6
import Derived.Test.YtjieilicjdoaaaaGFir
import Derived.Test.YtjieilicjdoaaaaGEna
import Derived.Test.YtjieilicjdoaaaaGStep
namespace Go.Proofs.Ytjieilicjdoaaaa
open Go.RowKit
set_option linter.unusedSimpArgs false
set_option linter.unusedVariables false

/-- The slices of a case, and what they read as. -/
def CaseAt (m : Option Nat) (w : World) (y : GCase) (A1 A2 A3 A4 : Option Addr) : Prop :=
 Rows intC m w w.heap.size A1 y.marks ∧ Rows itemC m w w.heap.size A2 y.busy ∧ Rows intC m w w.heap.size A3 y.data ∧ Rows didC m w w.heap.size A4 y.did
/-- A case of few marks, tasks under way, data, and things done. -/
def caseFew (y : GCase) : Prop := y.marks.length ≤ 20 ∧ y.busy.length ≤ 20 ∧ y.data.length ≤ 20 ∧ y.did.length ≤ 100
/-- What was done lies in memory of its own, apart from the marks. -/
def DidOwn (w : World) (base : Nat) (D1 D4 : Option Addr) (j4 : Nat) (y : GCase) : Prop :=
 OwnC didC 53 w base (.slice D4 y.did.length j4) y.did ∧ (0 < y.marks.length → ∀ (q o : Nat), D1 = some ⟨q, o, none⟩ → Value.ownBlock (.slice D4 y.did.length j4) ≠ some q)
theorem sep_of {D1 : Option Addr} {n1 j1 : Nat} {V4 : Value} {R : Prop} (h : Value.ownBlock (.slice D1 n1 j1) ≠ Value.ownBlock V4) : R → ∀ (q o : Nat), D1 = some ⟨q, o, none⟩ → Value.ownBlock V4 ≠ some q := fun _ q o hq h4 => h (by subst hq; exact h4.symm)
theorem rows_lo {α : Type} {C : Cod α} {lo B : Nat} {w : World} {A : Option Addr} {xs : List α} (h : Rows C (some lo) w B A xs) (h0 : 0 < xs.length) (q o : Nat) (hA : A = some ⟨q, o, none⟩) : lo ≤ q ∧ q < B := by
 obtain ⟨b, off, hb, hok, _⟩ := h.2 h0
 rw [hA] at hb
 simp only [Option.some.injEq, Addr.mk.injEq, and_true] at hb
 obtain ⟨rfl, rfl⟩ := hb
 exact ⟨(hok.2 lo rfl).1, hok.1⟩
/-- What a step of a case leaves: some case, in memory of the call's own. -/
def GivesCase (w : World) (e : Ending) (w' : World) : Prop :=
 ∃ (y : GCase) (D1 : Option Addr) (j1 : Nat) (D2 : Option Addr) (j2 : Nat) (D3 : Option Addr) (j3 : Nat) (D4 : Option Addr) (j4 : Nat) (b : Bool),
  e = .returned (.tuple #[.agg (caseCells y D1 j1 D2 j2 D3 j3 D4 j4), .bool b]) ∧ CaseAt (some w.heap.size) w' y D1 D2 D3 D4 ∧ caseFew y ∧ Below w.heap.size w w' ∧ y.busy.length ≤ j2 ∧ DidOwn w' w.heap.size D1 D4 j4 y

theorem rows_kept {α : Type} {C : Cod α} {lo : Nat} {w w' : World} {A : Option Addr} {xs : List α} (h : Rows C (some lo) w w.heap.size A xs) (hk : Kept lo w w') : Rows C (some lo) w' w'.heap.size A xs :=
 (h.keep fun b hb hl => hk.2 b hb (hl _ rfl)).more hk.1
theorem CaseAt.kept {lo : Nat} {w w' : World} {y : GCase} {A1 A2 A3 A4 : Option Addr} (h : CaseAt (some lo) w y A1 A2 A3 A4) (hk : Kept lo w w') : CaseAt (some lo) w' y A1 A2 A3 A4 :=
 ⟨rows_kept h.1 hk, rows_kept h.2.1 hk, rows_kept h.2.2.1 hk, rows_kept h.2.2.2 hk⟩
theorem CaseAt.later {m : Option Nat} {w w' : World} {y : GCase} {A1 A2 A3 A4 : Option Addr} (h : CaseAt m w y A1 A2 A3 A4) (hb : Below w.heap.size w w') : CaseAt m w' y A1 A2 A3 A4 :=
 ⟨h.1.later hb, h.2.1.later hb, h.2.2.1.later hb, h.2.2.2.later hb⟩
theorem CaseAt.weak {m m' : Option Nat} {w : World} {y : GCase} {A1 A2 A3 A4 : Option Addr} (h : CaseAt m w y A1 A2 A3 A4) (hm : Weaker m m') : CaseAt m' w y A1 A2 A3 A4 :=
 ⟨h.1.weak hm, h.2.1.weak hm, h.2.2.1.weak hm, h.2.2.2.weak hm⟩
/-- Plain records of the call's own stay, where another row grows. -/
theorem ownC_apart {α : Type} {k : Nat} {cells : α → List Value} {hk : ∀ x, (cells x).length = k} {e : TypeId} {w w' : World} {base : Nat} {v : Value} {xs : List α} {ob : Option Nat} (h : OwnC (flat k cells hk) e w base v xs) (hg : w.grownBy w' ob) (hne : v.ownBlock ≠ ob) : OwnC (flat k cells hk) e w' base v xs := by
 obtain ⟨css, h1, h2, h3⟩ := h
 refine ⟨css, h1, fun j cs hj => ?_, h3.1, ?_⟩
 ·
  obtain ⟨x, lo, B, a1, a2, a3, a4, a5⟩ := h2 j cs hj
  exact ⟨x, lo, B, a1, a2, Nat.le_trans a3 hg.size, a4, a5⟩
 ·
  rcases h3.2 with hn | ⟨g, cap, cur, hv, hb, hgg, rest⟩
  ·
   exact .inl hn
  ·
   refine .inr ⟨g, cap, cur, hv, hb, (hg.block g (Array.getElem?_eq_some_iff.1 hgg).1 fun he => hne ?_).trans hgg, rest⟩
   subst hv
   exact he
/-- The five cells of a box written at once. -/
theorem put5 {w : World} {g : Nat} {t : TypeId} {a0 a1 a2 a3 a4 b0 b1 b2 b3 b4 : Value} (h : Bk w g t #[a0, a1, a2, a3, a4]) :
  Bk (World.setCell (World.setCell (World.setCell (World.setCell (World.setCell w ⟨g, 0, none⟩ b0) ⟨g, 1, none⟩ b1) ⟨g, 2, none⟩ b2) ⟨g, 3, none⟩ b3) ⟨g, 4, none⟩ b4) g t #[b0, b1, b2, b3, b4] ∧ (∀ lo, g < lo → Kept lo w (World.setCell (World.setCell (World.setCell (World.setCell (World.setCell w ⟨g, 0, none⟩ b0) ⟨g, 1, none⟩ b1) ⟨g, 2, none⟩ b2) ⟨g, 3, none⟩ b3) ⟨g, 4, none⟩ b4)) ∧ (∀ (B : Nat) (w0 : World), B ≤ g → Below B w0 w → Below B w0 (World.setCell (World.setCell (World.setCell (World.setCell (World.setCell w ⟨g, 0, none⟩ b0) ⟨g, 1, none⟩ b1) ⟨g, 2, none⟩ b2) ⟨g, 3, none⟩ b3) ⟨g, 4, none⟩ b4)) ∧ (∀ b, b ≠ g → (World.setCell (World.setCell (World.setCell (World.setCell (World.setCell w ⟨g, 0, none⟩ b0) ⟨g, 1, none⟩ b1) ⟨g, 2, none⟩ b2) ⟨g, 3, none⟩ b3) ⟨g, 4, none⟩ b4).heap[b]? = w.heap[b]?) :=
 ⟨((((h.set 0 _).set 1 _).set 2 _).set 3 _).set 4 _,
 fun lo hl => kept_trans (kept_trans (kept_trans (kept_trans (kept_put ⟨g, 0, none⟩ hl _) (kept_put ⟨g, 1, none⟩ hl _)) (kept_put ⟨g, 2, none⟩ hl _)) (kept_put ⟨g, 3, none⟩ hl _)) (kept_put ⟨g, 4, none⟩ hl _),
 fun B w0 hB h0 => ((((h0.setCell (p := ⟨g, 0, none⟩) hB _).setCell (p := ⟨g, 1, none⟩) hB _).setCell (p := ⟨g, 2, none⟩) hB _).setCell (p := ⟨g, 3, none⟩) hB _).setCell (p := ⟨g, 4, none⟩) hB _,
 fun b hb => ((((Below.heap_setCell _ ⟨g, 4, none⟩ _ b hb).trans (Below.heap_setCell _ ⟨g, 3, none⟩ _ b hb)).trans (Below.heap_setCell _ ⟨g, 2, none⟩ _ b hb)).trans (Below.heap_setCell _ ⟨g, 1, none⟩ _ b hb)).trans (Below.heap_setCell _ ⟨g, 0, none⟩ _ b hb)⟩
theorem OwnCase.low {w : World} {base base' : Nat} {V1 V2 V3 V4 : Value} {y : GCase} (h : OwnCase w base V1 V2 V3 V4 y) (hb : base' ≤ base) : OwnCase w base' V1 V2 V3 V4 y :=
 ⟨ownC_low h.marks hb, ownC_low h.busy hb, ownC_low h.data hb, ownC_low h.did hb, h.s12, h.s14, h.s23, h.s24⟩
theorem OwnCase.kept {w w' : World} {base : Nat} {V1 V2 V3 V4 : Value} {y : GCase} (h : OwnCase w base V1 V2 V3 V4 y) (hk : Kept base w w') : OwnCase w' base V1 V2 V3 V4 y :=
 ⟨h.marks.kept hk, h.busy.kept hk, h.data.kept hk, h.did.kept hk, h.s12, h.s14, h.s23, h.s24⟩
theorem OwnCase.later {w w' : World} {base : Nat} {V1 V2 V3 V4 : Value} {y : GCase} (h : OwnCase w base V1 V2 V3 V4 y) (hb : Below w.heap.size w w') : OwnCase w' base V1 V2 V3 V4 y := h.kept (Kept.of_below hb)
theorem ownC_rows {α : Type} {C : Cod α} {e : TypeId} {w : World} {base : Nat} {A : Option Addr} {n c : Nat} {xs : List α} (h : OwnC C e w base (.slice A n c) xs) (hl : xs.length ≤ 1000000) : Rows C (some base) w w.heap.size A xs := by
 obtain ⟨A', c', hv, hr⟩ := h.rows (by omega)
 simp only [Value.slice.injEq] at hv
 rw [hv.1]
 exact hr
theorem OwnCase.rows {w : World} {base : Nat} {y : GCase} {A1 A2 A3 A4 : Option Addr} {n1 n2 n3 n4 c1 c2 c3 c4 : Nat} (h : OwnCase w base (.slice A1 n1 c1) (.slice A2 n2 c2) (.slice A3 n3 c3) (.slice A4 n4 c4) y) (hf : caseFew y) : CaseAt (some base) w y A1 A2 A3 A4 :=
 ⟨ownC_rows h.marks (by have := hf.1; omega), ownC_rows h.busy (by have := hf.2.1; omega), ownC_rows h.data (by have := hf.2.2.1; omega), ownC_rows h.did (by have := hf.2.2.2; omega)⟩
theorem grown_put (w : World) (p : Addr) (u : Value) : w.grownBy (w.setCell p u) (some p.block) :=
 ⟨rfl, rfl, rfl, by simp [World.setCell], fun b _ hne => Below.heap_setCell w p u b fun he => hne (by rw [he])⟩
theorem ownV_len {w : World} {base : Nat} {v : Value} {xs : List Int} (h : OwnV w base v xs) : xs.length ≤ 9223372036854775807 := by
 rcases h.2 with ⟨_, h0⟩ | ⟨g, cap, cur, _, _, _, h1, h2, _⟩
 ·
  rw [h0]; decide
 ·
  unfold maxLen at h2; omega
theorem ownV_rows {w : World} {base : Nat} {A : Option Addr} {n c : Nat} {xs : List Int} (h : OwnV w base (.slice A n c) xs) : Rows intC (some base) w w.heap.size A xs := by
 obtain ⟨A', c', hv, hr⟩ := h.rows (ownV_len h)
 simp only [Value.slice.injEq] at hv
 rw [hv.1]
 exact hr
theorem ownC_cap {α : Type} {C : Cod α} {e : TypeId} {w : World} {base : Nat} {A : Option Addr} {n c : Nat} {xs : List α} (h : OwnC C e w base (.slice A n c) xs) : xs.length ≤ c := by
 obtain ⟨css, h1, h2, h3⟩ := h
 rcases h3.2 with ⟨hv, h0⟩ | ⟨g, cap, cur, hv, _, _, hle, _⟩
 ·
  rw [h0]; exact Nat.zero_le _
 ·
  simp only [Value.slice.injEq] at hv
  rw [hv.2.2]
  exact hle
theorem casOk_parts {x : GNet} {y : GCase} (h : casOk x y = true) : mrkOk x y.marks = true ∧ busyOk x y.busy = true ∧ y.busy.length ≤ 6 ∧ datOk y.data = true ∧ y.did.length ≤ 60 := by
 unfold casOk at h
 simp only [Bool.and_eq_true] at h
 refine ⟨h.1, h.2.1, ?_, h.2.2.1, by simpa using h.2.2.2.1⟩
 have h2 := h.2.1
 unfold busyOk at h2
 simp only [Bool.and_eq_true] at h2
 simpa using h2.1
end Go.Proofs.Ytjieilicjdoaaaa
