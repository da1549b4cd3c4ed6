/- Cells that are ints, and stay ints when they are marked. -/
import Derived.Test.YtjieilicjdoaaaaMarkRec
namespace Go.Proofs.Ytjieilicjdoaaaa
open Go.RowKit

/-- Writable cells of block g, from off on, that are ints. -/
def IntAt (w : World) (g off n : Nat) : Prop := (∃ cur t, w.heap[g]? = some (.cells cur t (0, 0))) ∧ ∀ i, i < n → ∃ z, w.cell? ⟨g, off + i, none⟩ = some (.int .i64 z)
theorem IntAt.frozen {w : World} {g off n : Nat} (h : IntAt w g off n) (i : Nat) : w.frozen? ⟨g, i, none⟩ = false := by
  obtain ⟨⟨cur, t, hc⟩, _⟩ := h
  exact frozen_of_row w g i cur t hc
/-- A number put anywhere leaves cells that are numbers numbers. -/
theorem IntAt.any {w : World} {g off n : Nat} (h : IntAt w g off n) (p : Addr) (hp : p.spot = none) (z : Int) : IntAt (w.setCell p (.int .i64 z)) g off n := by
  obtain ⟨b, o, s⟩ := p
  subst hp
  obtain ⟨⟨cur, t, hc⟩, h2⟩ := h
  refine ⟨?_, fun i hi => ?_⟩
  · by_cases hb : g = b
    · subst hb
      exact ⟨_, t, heap_setCell_same w g o cur t _ hc⟩
    · exact ⟨cur, t, (Below.heap_setCell w ⟨b, o, none⟩ _ g hb).trans hc⟩
  · obtain ⟨y, hy⟩ := h2 i hi
    by_cases he : (⟨g, off + i, none⟩ : Addr) = ⟨b, o, none⟩
    · rw [← he]
      exact ⟨z, World.cell?_setCell_same w _ _ hy⟩
    · exact ⟨y, by rw [World.cell?_setCell_other _ _ _ _ (fun e => he e.symm)]; exact hy⟩
theorem IntAt.later {w w' : World} {g off n B : Nat} (h : IntAt w g off n) (hb : Below B w w') (hg : g < B) : IntAt w' g off n := by
  obtain ⟨⟨cur, t, hc⟩, h2⟩ := h
  exact ⟨⟨cur, t, (hb.block g hg).trans hc⟩, fun i hi => by obtain ⟨z, hz⟩ := h2 i hi; exact ⟨z, (hb.cell (p := ⟨g, off + i, none⟩) hg).trans hz⟩⟩
/-- A row of plain records of the call's own is cells that are ints. -/
theorem Rows.intAt {α : Type} {k lo B : Nat} {cells : α → List Value} {hk : ∀ x, (cells x).length = k} {w : World} {A : Option Addr} {xs : List α} (hi : ∀ x, ∀ i, i < k → ∃ z : Int, (cells x)[i]? = some (.int .i64 z)) (hpos : 0 < k)
    (h : Rows (flat k cells hk) (some lo) w B A xs) (hn : 0 < xs.length) : ∃ g off, A = some ⟨g, off, none⟩ ∧ IntAt w g off (xs.length * k) ∧ lo ≤ g ∧ g < B := by
  obtain ⟨b, off, hA, hB, hc⟩ := h.2 hn
  obtain ⟨hlo, cur, t, hcur⟩ := hB.2 lo rfl
  refine ⟨b, off, hA, ⟨⟨cur, t, hcur⟩, fun i hik => ?_⟩, hlo, hB.1⟩
  have hj : i / k < xs.length := Nat.div_lt_of_lt_mul (by rw [Nat.mul_comm]; exact hik)
  have hr : i % k < k := Nat.mod_lt _ hpos
  have hij : i = (i / k) * k + i % k := by rw [Nat.mul_comm]; exact (Nat.div_add_mod i k).symm
  obtain ⟨cs, hR, hu⟩ := hc (i / k) xs[i / k] (List.getElem?_eq_getElem hj)
  have hcs : cs = cells xs[i / k] := hR
  subst hcs
  obtain ⟨z, hz⟩ := hi xs[i / k] (i % k) hr
  have h2 := hu (i % k) _ hz
  refine ⟨z, ?_⟩
  rw [hij, ← Nat.add_assoc]
  exact h2

/-- What marking a row leaves. -/
def MarkedK (lo hi : Nat) (k : Int) (w : World) (e : Ending) (w' : World) : Prop :=
  e = .returned (.int .i64 k) ∧ Inside lo hi w w' ∧ ∀ g o n, IntAt w g o n → IntAt w' g o n

set_option maxHeartbeats 1000000 in
theorem mark_ints (A : Option Addr) (c : Nat) (len : Nat) (k : Int) (w : World) (lo hi : Nat) (h : 0 < len → ∃ g off, A = some ⟨g, off, none⟩ ∧ IntAt w g off (len) ∧ lo ≤ g ∧ g < hi) (hl : len ≤ 16777216) (hk0 : 0 ≤ k) (hk : k ≤ 4611686018427387904) :
    Calls Try.prog 15 #[.slice A len c, .int .i64 k] w (MarkedK lo hi (k + len) w) := by
  have HH := Lib.hid h
  clear h
  go_enter Try.func15, Try.ntmps15
  go_wp2
  go_loopg [1, 5] len (fun gg s1 s5 wr => ∃ j : Nat, j ≤ len ∧ len - j ≤ gg ∧ s5 = .int .i64 j ∧ s1 = .int .i64 (k + j) ∧ Aside (Inside lo hi w wr) ∧ Aside (∀ g o n, IntAt w g o n → IntAt wr g o n))
  case atStart => exact ⟨0, Nat.zero_le _, by omega, rfl, by simp, Inside.refl _ _ _, fun _ _ _ h => h⟩
  case round =>
    obtain ⟨j, hj, hg, rfl, rfl, IN, IK⟩ := hrel
    by_cases hlt : j < len
    · have hltz : (j : Int) < (len : Int) := by omega
      obtain ⟨g, off, rfl, hR0, hlo, hhi⟩ := HH.out (by omega)
      have hR := IK.out _ _ _ hR0
      obtain ⟨z0, hz0⟩ : ∃ z, wr.cell? ⟨g, off + j, none⟩ = some (.int .i64 z) := by have h := hR.2 (j) (by omega); exact h
      have hfr := fun i => hR.frozen i
      have HI := Lib.hid (IN.out.trans (Inside.setCell (p := ⟨g, off + j, none⟩) hlo hhi (.int .i64 (k + j))))
      have HK := Lib.hid (fun g' o' n' hg' => (IK.out g' o' n' hg').any ⟨g, off + j, none⟩ rfl (k + j))
      clear hR hR0
      go_wp2
      go_roundg (len - (j + 1))
      case measure => omega
      case rel => exact ⟨j + 1, by omega, by omega, by go_num, by go_num, HI.out, HK.out⟩
    · have hltz : ¬ (j : Int) < (len : Int) := by omega
      have he : j = len := by omega
      have HE := Lib.hid he
      clear he
      go_wp2
      go_ret
      exact ⟨by rw [HE.out]; rfl, IN.out, IK.out⟩

theorem ints_at {lo B : Nat} {w : World} {A : Option Addr} {xs : List Int} (h : Rows intC (some lo) w B A xs) (hn : 0 < xs.length) : ∃ g off, A = some ⟨g, off, none⟩ ∧ IntAt w g off xs.length ∧ lo ≤ g ∧ g < B := by
  have h1 := Rows.intAt (k := 1) (cells := fun x : Int => [Value.int .i64 x]) (hk := fun _ => rfl) (fun x i hi => ⟨x, by have h0 : i = 0 := (by omega); subst h0; rfl⟩) (by decide) h hn
  rwa [Nat.mul_one] at h1
/-- The world w' is w but for the blocks from lo to hi, and has perhaps more memory. -/
structure InsideG (lo hi : Nat) (w w' : World) : Prop where
  os : w'.os = w.os
  tape : w'.tape = w.tape
  output : w'.output = w.output
  size : w.heap.size ≤ w'.heap.size
  block : ∀ b, b < w.heap.size → (b < lo ∨ hi ≤ b) → w'.heap[b]? = w.heap[b]?
theorem InsideG.below {lo hi B : Nat} {w w' : World} (h : InsideG lo hi w w') (hB : B ≤ lo) (hs : B ≤ w.heap.size) : Below B w w' := ⟨h.os, h.tape, h.output, h.size, fun k hk => h.block k (by omega) (.inl (by omega))⟩
end Go.Proofs.Ytjieilicjdoaaaa
