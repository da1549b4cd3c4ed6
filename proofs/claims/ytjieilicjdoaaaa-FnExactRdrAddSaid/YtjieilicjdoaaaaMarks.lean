/- Slices of ints marked one after the other, and asked for their marks. -/
import Derived.Test.YtjieilicjdoaaaaApp
namespace Go.Proofs.Ytjieilicjdoaaaa
open Go.RowKit

def seqI (k : Int) (n : Nat) : List Int := (List.range n).map fun i => k + (i : Nat)
theorem seqI_len (k : Int) (n : Nat) : (seqI k n).length = n := by simp [seqI]
theorem seqI_get (k : Int) (n i : Nat) (h : i < (seqI k n).length) : (seqI k n)[i] = k + i := by simp [seqI]
theorem seqI_succ (k : Int) (n : Nat) : seqI k (n + 1) = seqI k n ++ [k + n] := by simp [seqI, List.range_succ]

/-- A slice value that the call's own memory from base on holds: nothing, or a writable row. -/
def OwnI (w : World) (base : Nat) (A : Option Addr) (xs : List Int) : Prop := 0 < xs.length → ∃ g, A = some ⟨g, 0, none⟩ ∧ base ≤ g ∧ Wr w g 3 (iv xs)

theorem OwnI.ints {w : World} {base : Nat} {A : Option Addr} {xs : List Int} (h : OwnI w base A xs) (hl : xs.length ≤ 9223372036854775807) : Ints w w.heap.size A xs :=
  ⟨hl, fun h0 => by
    obtain ⟨g, hA, _, hw⟩ := h h0
    subst hA
    exact (hw.ints hw.lt hl).2 h0⟩
theorem OwnI.later {w w' : World} {base : Nat} {A : Option Addr} {xs : List Int} (h : OwnI w base A xs) (hb : Below w.heap.size w w') : OwnI w' base A xs := fun h0 => by
  obtain ⟨g, hA, hg, hw⟩ := h h0
  exact ⟨g, hA, hg, hw.later hb⟩
theorem OwnI.mono {w : World} {base base' : Nat} {A : Option Addr} {xs : List Int} (h : OwnI w base A xs) (hb : base' ≤ base) : OwnI w base' A xs := fun h0 => by
  obtain ⟨g, hA, hg, hw⟩ := h h0
  exact ⟨g, hA, by omega, hw⟩

/-- The world w' is w but for the blocks from lo to hi. -/
structure Inside (lo hi : Nat) (w w' : World) : Prop where
  os : w'.os = w.os
  tape : w'.tape = w.tape
  output : w'.output = w.output
  size : w'.heap.size = w.heap.size
  block : ∀ b, (b < lo ∨ hi ≤ b) → w'.heap[b]? = w.heap[b]?

theorem Inside.refl (lo hi : Nat) (w : World) : Inside lo hi w w := ⟨rfl, rfl, rfl, rfl, fun _ _ => rfl⟩
theorem Inside.trans {lo hi : Nat} {a b c : World} (h : Inside lo hi a b) (k : Inside lo hi b c) : Inside lo hi a c :=
  ⟨k.os.trans h.os, k.tape.trans h.tape, k.output.trans h.output, k.size.trans h.size, fun i hi => (k.block i hi).trans (h.block i hi)⟩
theorem Inside.setCell {lo hi : Nat} {w : World} {p : Addr} (h1 : lo ≤ p.block) (h2 : p.block < hi) (u : Value) : Inside lo hi w (w.setCell p u) :=
  ⟨rfl, rfl, rfl, by simp [World.setCell], fun b hb => Below.heap_setCell w p u b (by omega)⟩
theorem Inside.below {lo hi B : Nat} {w w' : World} (h : Inside lo hi w w') (hB : B ≤ lo) : Below B w w' := ⟨h.os, h.tape, h.output, by rw [h.size]; exact Nat.le_refl _, fun k hk => h.block k (.inl (by omega))⟩

theorem OwnI.inside {w w' : World} {base lo hi : Nat} {A : Option Addr} {xs : List Int} (h : OwnI w base A xs) (hi' : Inside lo hi w w') (hh : hi ≤ base) : OwnI w' base A xs := fun h0 => by
  obtain ⟨g, hA, hg, hw⟩ := h h0
  exact ⟨g, hA, hg, hw.keep (hi'.block g (.inr (by omega)))⟩
theorem OwnI.drewN {w : World} {base : Nat} {A : Option Addr} {xs : List Int} (h : OwnI w base A xs) (n : Nat) : OwnI (w.drewN n) base A xs := h
theorem OwnI.of_v {w : World} {base : Nat} {v : Value} {xs : List Int} (h : OwnV w base v xs) : ∃ A c, v = .slice A xs.length c ∧ OwnI w base A xs := by
  obtain ⟨A, c, hv, hA⟩ := h.form
  exact ⟨A, c, hv, hA⟩
theorem OwnI.hi {w : World} {base : Nat} {A : Option Addr} {xs : List Int} (h : OwnI w base A xs) (hn : 0 < xs.length) : ∀ g, A = some ⟨g, 0, none⟩ → g < w.heap.size := fun g hg => by
  obtain ⟨g', hA, _, hw⟩ := h hn
  rw [hA] at hg
  cases hg
  exact hw.lt

theorem mark_step (k : Int) (j : Nat) (xs : List Int) (hj : j < xs.length) : (iv (seqI k j ++ xs.drop j)).set j (.int .i64 (k + j)) = iv (seqI k (j + 1) ++ xs.drop (j + 1)) := by
  have h1 : xs.drop j = xs[j] :: xs.drop (j + 1) := List.drop_eq_getElem_cons hj
  rw [h1, iv_append, List.set_append_right _ _ (by rw [iv_len, seqI_len]; omega), iv_len, seqI_len, Nat.sub_self, seqI_succ, List.append_assoc, iv_append]
  rfl
theorem mark_old (k : Int) (j : Nat) (xs : List Int) (hj : j < xs.length) : (iv (seqI k j ++ xs.drop j))[j]? = some (.int .i64 xs[j]) := by
  have h1 : xs.drop j = xs[j] :: xs.drop (j + 1) := List.drop_eq_getElem_cons hj
  rw [h1]
  refine iv_get ?_
  rw [List.getElem?_append_right (by rw [seqI_len]; omega), seqI_len, Nat.sub_self]
  rfl

/-- What marking a slice of the call's own leaves. -/
def MarkedOwn (w : World) (base hi : Nat) (A : Option Addr) (k : Int) (n : Nat) (e : Ending) (w' : World) : Prop :=
  e = .returned (.int .i64 (k + n)) ∧ OwnI w' base A (seqI k n) ∧ Inside base hi w w'

set_option maxHeartbeats 400000 in
theorem laws_markIntS_own (A : Option Addr) (c : Nat) (xs : List Int) (k : Int) (w : World) (base hi : Nat) (h : OwnI w base A xs) (hhi : 0 < xs.length → ∀ g, A = some ⟨g, 0, none⟩ → g < hi) (hl : xs.length ≤ 16777216) (hk0 : 0 ≤ k) (hk : k ≤ 4611686018427387904) :
    Calls Try.prog 15 #[.slice A xs.length c, .int .i64 k] w (MarkedOwn w base hi A k xs.length) := by
  have HH := Lib.hid h
  clear h
  go_enter Try.func15, Try.ntmps15
  go_wp2
  go_loopg [1, 5] xs.length (fun gg s1 s5 wr => ∃ j : Nat, j ≤ xs.length ∧ xs.length - j ≤ gg ∧ s5 = .int .i64 j ∧ s1 = .int .i64 (k + j) ∧ Aside (Inside base hi w wr) ∧ Aside (OwnI wr base A (seqI k j ++ xs.drop j)))
  case atStart => exact ⟨0, Nat.zero_le _, by omega, rfl, by simp, Inside.refl _ _ _, by show OwnI _ _ _ _; simpa [seqI] using HH.out⟩
  case round =>
    obtain ⟨j, hj, hg, rfl, rfl, IN, OW⟩ := hrel
    by_cases hlt : j < xs.length
    · have hltz : (j : Int) < (xs.length : Int) := by omega
      obtain ⟨g, rfl, hgb, hW⟩ := OW.out (by simp [seqI]; omega)
      have hcell := hW.cell (mark_old k j xs hlt)
      have hfr := hW.frozen j
      have HS := Lib.hid (hW.set j (.int .i64 (k + j)))
      have HI := Lib.hid (IN.out.trans (Inside.setCell (p := ⟨g, j, none⟩) hgb (hhi (by omega) g rfl) (.int .i64 (k + j))))
      have HM := Lib.hid (mark_step k j xs hlt)
      have HG := Lib.hid hhi
      clear hW hhi
      generalize xs[j] = y at hcell
      go_wp2
      go_roundg (xs.length - (j + 1))
      case measure => omega
      case rel => exact ⟨j + 1, by omega, by omega, by go_num, by go_num, HI.out, fun _ => ⟨g, rfl, hgb, by rw [← HM.out]; exact HS.out⟩⟩
    · have hltz : ¬ (j : Int) < (xs.length : Int) := by omega
      have he : j = xs.length := by omega
      have HE := Lib.hid he
      clear he hhi
      go_wp2
      go_ret
      refine ⟨by rw [HE.out]; rfl, ?_, IN.out⟩
      have h1 := OW.out
      rw [HE.out, List.drop_length, List.append_nil] at h1
      exact h1

theorem laws_heldIntS (A : Option Addr) (c : Nat) (n : Nat) (k : Int) (w : World) (B : Nat) (hx : Ints w B A (seqI k n)) (hl : n ≤ 16777216) (hk0 : 0 ≤ k) (hk : k ≤ 4611686018427387904) :
    Calls Try.prog 44 #[.slice A n c, .int .i64 k] w fun e w' => e = .returned (.int .i64 (k + n)) ∧ w = w' := by
  have HX := Lib.hid hx
  clear hx
  go_enter Try.func44, Try.ntmps44
  go_wp2
  go_loopg [1, 5] n (fun gg s1 s5 wr => ∃ j : Nat, j ≤ n ∧ n - j ≤ gg ∧ s5 = .int .i64 j ∧ s1 = .int .i64 (k + j) ∧ Aside (w = wr))
  case atStart => exact ⟨0, Nat.zero_le _, by omega, rfl, by simp, rfl⟩
  case round =>
    obtain ⟨j, hj, hg, rfl, rfl, EW⟩ := hrel
    obtain rfl := EW.out
    by_cases hlt : j < n
    · have hltz : (j : Int) < (n : Int) := by omega
      obtain ⟨b, off, rfl, hb, hc⟩ := HX.out.at_ (k := j) (by rw [seqI_len]; exact hlt)
      rw [seqI_get] at hc
      go_wp2
      go_roundg (n - (j + 1))
      case measure => omega
      case rel => exact ⟨j + 1, by omega, by omega, by go_num, by go_num, rfl⟩
    · have hltz : ¬ (j : Int) < (n : Int) := by omega
      have he : j = n := by omega
      have HE := Lib.hid he
      clear he
      go_wp2
      go_ret
      exact ⟨by rw [HE.out]; rfl, rfl⟩
end Go.Proofs.Ytjieilicjdoaaaa
