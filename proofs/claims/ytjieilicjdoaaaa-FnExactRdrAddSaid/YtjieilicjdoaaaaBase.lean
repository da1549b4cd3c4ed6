/- The words for memory that all texts of this seat share: a slice of ints that reads as a list, kept over worlds that differ only above a block; and tests of bounds. -/
import Derived.Test.YtjieilicjdoaaaaProg
import Derived.WalkKit
import Derived.Handy
import Derived.BigQuiet
import Derived.Deep.QuietTactic
import Derived.Deep.LoopGhost
import Derived.Lib.Hide
import Derived.Shelf.Abstract
namespace Go.Proofs.Ytjieilicjdoaaaa
open Go.RowKit

/-- A test that a number lies within bounds. -/
def inB (n lo hi : Int) : Bool := decide (lo ≤ n) && decide (n ≤ hi)
theorem inB_true {n lo hi : Int} (h1 : lo ≤ n) (h2 : n ≤ hi) : inB n lo hi = true := by simp [inB, h1, h2]
theorem inB_iff {n lo hi : Int} : inB n lo hi = true ↔ lo ≤ n ∧ n ≤ hi := by simp [inB]
theorem inB_not {n lo hi : Int} : inB n lo hi = false ↔ (n < lo ∨ hi < n) := by
  rw [Bool.eq_false_iff, ne_eq, inB_iff]; omega

theorem impl_in (n lo hi : Int) (w : World) : Calls Try.prog 51 #[.int .i64 n, .int .i64 lo, .int .i64 hi] w fun e w' => e = .returned (.bool (inB n lo hi)) ∧ w = w' := by
  by_cases h : lo ≤ n
  · go_enter Try.func51, Try.ntmps51
    go_wp2
    go_ret
    exact ⟨by simp [inB, h], rfl⟩
  · have hd : decide (lo ≤ n) = false := by simpa using h
    go_enter Try.func51, Try.ntmps51
    go_wp2
    go_ret
    exact ⟨by simp [inB, hd], rfl⟩

theorem l1In (n lo hi : Int) (w : World) : Calls Try.prog 32 #[.int .i64 n, .int .i64 lo, .int .i64 hi] w fun e w' => e = .returned (.bool (inB n lo hi)) ∧ w = w' := by
  by_cases h : lo ≤ n
  · go_enter Try.func32, Try.ntmps32
    go_wp2
    go_ret
    exact ⟨by simp [inB, h], rfl⟩
  · have hd : decide (lo ≤ n) = false := by simpa using h
    go_enter Try.func32, Try.ntmps32
    go_wp2
    go_ret
    exact ⟨by simp [inB, hd], rfl⟩

/-- The cells that lie behind a slice's address: n rows of sz cells each, row k holding some cells that stand in relation R to k. -/
def Ints (w : World) (B : Nat) (A : Option Addr) (xs : List Int) : Prop :=
  xs.length ≤ 9223372036854775807 ∧ (0 < xs.length → ∃ b off, A = some ⟨b, off, none⟩ ∧ b < B ∧ ∀ j x, xs[j]? = some x → w.cell? ⟨b, off + j, none⟩ = some (.int .i64 x))

theorem Ints.nil {w : World} {B : Nat} {A : Option Addr} : Ints w B A [] := ⟨by simp, fun h => absurd h (by simp)⟩
theorem Ints.below {w w' : World} {B : Nat} {A : Option Addr} {xs : List Int} (h : Ints w B A xs) (hb : Below B w w') : Ints w' B A xs :=
  ⟨h.1, fun hl => by
    obtain ⟨b, off, hA, hB, hc⟩ := h.2 hl
    exact ⟨b, off, hA, hB, fun j x hx => (hb.cell (p := ⟨b, off + j, none⟩) hB).trans (hc j x hx)⟩⟩
theorem Ints.more {w : World} {B B' : Nat} {A : Option Addr} {xs : List Int} (h : Ints w B A xs) (hB : B ≤ B') : Ints w B' A xs :=
  ⟨h.1, fun hl => by
    obtain ⟨b, off, hA, hb, hc⟩ := h.2 hl
    exact ⟨b, off, hA, by omega, hc⟩⟩
theorem Ints.later {w w' : World} {A : Option Addr} {xs : List Int} (h : Ints w w.heap.size A xs) (hb : Below w.heap.size w w') : Ints w' w'.heap.size A xs :=
  (h.below hb).more hb.size
theorem Ints.at_ {w : World} {B : Nat} {A : Option Addr} {xs : List Int} (h : Ints w B A xs) {k : Nat} (hk : k < xs.length) :
    ∃ b off, A = some ⟨b, off, none⟩ ∧ b < B ∧ w.cell? ⟨b, off + k, none⟩ = some (.int .i64 (xs[k]'hk)) := by
  obtain ⟨b, off, hA, hb, hc⟩ := h.2 (by omega)
  exact ⟨b, off, hA, hb, hc k _ (List.getElem?_eq_getElem hk)⟩

theorem bdN {B : Nat} {a w : World} (h : Below B a w) (n : Nat) : Below B a (w.drewN n) := ⟨h.os, h.tape, h.output, h.size, h.block⟩

/-- A predicate handed over as a function value: in every later world it answers p x and leaves what lay as it was. -/
def PredInt (g : Nat) (lb : Array Value) (p : Int → Bool) (w : World) : Prop :=
  ∀ (W : World) (x : Int), Below w.heap.size w W → Calls Try.prog g (#[.int .i64 x] ++ lb) W fun e w' => e = .returned (.bool (p x)) ∧ Below W.heap.size W w'

theorem any_split {α : Type} (p : α → Bool) (xs : List α) (k : Nat) (hk : k < xs.length) (h : (xs.take k).any p = false) : (xs.take (k + 1)).any p = p xs[k] := by
  rw [List.take_succ_eq_append_getElem hk, List.any_append, h]; simp

/-- slices.IndexFunc over ints: whether the answer is at least 0. -/
theorem indexFunc_int (g : Nat) (lb : Array Value) (p : Int → Bool) (eg : ∀ args w, (callFunc g args).run Try.prog w = .ok (.enter g args) w)
    (A : Option Addr) (c : Nat) (xs : List Int) (w : World) (hp : PredInt g lb p w) (hx : Ints w w.heap.size A xs) :
    Calls Try.prog 67 #[.slice A xs.length c, .func (.func g) #[] lb] w fun e w' => (∃ r : Int, e = .returned (.int .i64 r) ∧ (decide (0 ≤ r) = xs.any p)) ∧ Below w.heap.size w w' := by
  have hlen := hx.1
  have HX := Lib.hid hx
  have HP := Lib.hid hp
  clear hx hp
  go_enter Try.func67, Try.ntmps67
  go_wp2
  go_loopg [5, 8] xs.length (fun gg _ s8 wr => ∃ k : Nat, k ≤ xs.length ∧ xs.length - k ≤ gg ∧ s8 = .int .i64 k ∧ Aside (Below w.heap.size w wr) ∧ Aside ((xs.take k).any p = false))
  case atStart => exact ⟨0, Nat.zero_le _, by omega, rfl, Below.refl _ w, by show ((xs.take 0).any p = false); simp⟩
  case round =>
    obtain ⟨k, hk, hg, rfl, BW, AN⟩ := hrel
    by_cases hlt : k < xs.length
    · have hltz : (k : Int) < (xs.length : Int) := by omega
      obtain ⟨b, off, rfl, hb, hc⟩ := HX.out.at_ hlt
      have hc2 := (BW.out.cell (p := ⟨b, off + k, none⟩) hb).trans hc
      clear hc
      have hcall := HP.out wr xs[k] BW.out
      have hs := any_split p xs k hlt AN.out
      have HS := Lib.hid hs
      clear hs
      have HY : Hid (∃ y, y = xs[k]) := ⟨_, rfl⟩
      generalize xs[k] = y at hc2 hcall HS
      cases hq : p y with
      | true =>
        rw [hq] at hcall HS
        go_wp2_with (go_at_fn g; refine hcall.mono ?_; rintro e w' ⟨rfl, hb'⟩)
        go_ret
        refine ⟨⟨_, rfl, ?_⟩, BW.out.trans (hb'.mono BW.out.size)⟩
        have h1 : xs.any p = true := by
          rw [← List.take_append_drop (k + 1) xs, List.any_append, HS.out, Bool.true_or]
        rw [h1]; simp
      | false =>
        rw [hq] at hcall HS
        go_wp2_with (go_at_fn g; refine hcall.mono ?_; rintro e w' ⟨rfl, hb'⟩)
        go_roundg (xs.length - (k + 1))
        case measure => omega
        case rel => exact ⟨k + 1, by omega, by omega, by go_num, BW.out.trans (hb'.mono BW.out.size), HS.out⟩
    · have hltz : ¬ (k : Int) < (xs.length : Int) := by omega
      have he : k = xs.length := by omega
      have HE := Lib.hid he
      clear he
      go_wp2
      go_ret
      refine ⟨⟨_, rfl, ?_⟩, BW.out⟩
      have h1 := AN.out
      rw [HE.out, List.take_length] at h1
      rw [h1]; rfl

theorem containsFunc_int (g : Nat) (lb : Array Value) (p : Int → Bool) (eg : ∀ args w, (callFunc g args).run Try.prog w = .ok (.enter g args) w)
    (A : Option Addr) (c : Nat) (xs : List Int) (w : World) (hp : PredInt g lb p w) (hx : Ints w w.heap.size A xs) :
    Calls Try.prog 52 #[.slice A xs.length c, .func (.func g) #[] lb] w fun e w' => e = .returned (.bool (xs.any p)) ∧ Below w.heap.size w w' := by
  have hi := indexFunc_int g lb p eg A c xs w hp hx
  have HI := Lib.hid hi
  clear hi hp hx
  go_enter Try.func52, Try.ntmps52
  go_wp2_with (go_at_call 67; refine HI.out.mono ?_; rintro e w' ⟨⟨r, rfl, hr⟩, hb'⟩; have HR := Lib.hid hr; clear hr)
  go_ret
  exact ⟨by rw [← HR.out]; rfl, hb'⟩
end Go.Proofs.Ytjieilicjdoaaaa
