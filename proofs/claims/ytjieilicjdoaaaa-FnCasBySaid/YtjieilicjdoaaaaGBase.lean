/- The words for memory that all texts of this seat share: a slice of ints that reads as a list, kept over worlds that differ only above a block; and tests of bounds. -/
import Derived.Test.YtjieilicjdoaaaaProg
import Derived.WalkKit
import Derived.Handy
import Derived.BigQuiet
import Derived.Deep.QuietTactic
import Derived.Deep.LoopGhost
import Derived.Lib.Hide
import Derived.Shelf.Abstract
import Derived.Deep.OwnRows
import Derived.Deep.Light
import Derived.Maps.AppendAt
import Derived.Laws.OwnMore
import Derived.Deep.RegionHeld3
import Derived.Deep.Upon
namespace Go.Proofs.Ytjieilicjdoaaaa
open Go.RowKit

/-- A test that a number lies within bounds. -/
def inB (n lo hi : Int) : Bool := decide (lo ≤ n) && decide (n ≤ hi)
theorem inB_true {n lo hi : Int} (h1 : lo ≤ n) (h2 : n ≤ hi) : inB n lo hi = true := by simp [inB, h1, h2]
theorem inB_iff {n lo hi : Int} : inB n lo hi = true ↔ lo ≤ n ∧ n ≤ hi := by simp [inB]
theorem impl_in (n lo hi : Int) (w : World) : Calls Try.prog 51 #[.int .i64 n, .int .i64 lo, .int .i64 hi] w fun e w' => e = .returned (.bool (inB n lo hi)) ∧ w = w' := by
 by_cases h : lo ≤ n
 ·
  go_enter Try.func51, Try.ntmps51
  go_wp2
  go_ret
  exact ⟨by simp [inB, h], rfl⟩
 ·
  have hd : decide (lo ≤ n) = false := by simpa using h
  go_enter Try.func51, Try.ntmps51
  go_wp2
  go_ret
  exact ⟨by simp [inB, hd], rfl⟩

theorem l1In (n lo hi : Int) (w : World) : Calls Try.prog 32 #[.int .i64 n, .int .i64 lo, .int .i64 hi] w fun e w' => e = .returned (.bool (inB n lo hi)) ∧ w = w' := by
 by_cases h : lo ≤ n
 ·
  go_enter Try.func32, Try.ntmps32
  go_wp2
  go_ret
  exact ⟨by simp [inB, h], rfl⟩
 ·
  have hd : decide (lo ≤ n) = false := by simpa using h
  go_enter Try.func32, Try.ntmps32
  go_wp2
  go_ret
  exact ⟨by simp [inB, hd], rfl⟩

/-- The cells that lie behind a slice's address: n rows of sz cells each, row k holding some cells that stand in relation R to k. -/
def Ints (w : World) (B : Nat) (A : Option Addr) (xs : List Int) : Prop :=
 xs.length ≤ 9223372036854775807 ∧ (0 < xs.length → ∃ b off, A = some ⟨b, off, none⟩ ∧ b < B ∧ ∀ j x, xs[j]? = some x → w.cell? ⟨b, off + j, none⟩ = some (.int .i64 x))

theorem Ints.nil {w : World} {B : Nat} {A : Option Addr} : Ints w B A [] := ⟨by simp, fun h => absurd h (by simp)⟩
theorem Ints.below {w w' : World} {B : Nat} {A : Option Addr} {xs : List Int} (h : Ints w B A xs) (hb : Below B w w') : Ints w' B A xs :=
 ⟨h.1, fun hl => by
  obtain ⟨b, off, hA, hB, hc⟩ := h.2 hl
  exact ⟨b, off, hA, hB, fun j x hx => (hb.cell (p := ⟨b, off + j, none⟩) hB).trans (hc j x hx)⟩⟩
theorem Ints.more {w : World} {B B' : Nat} {A : Option Addr} {xs : List Int} (h : Ints w B A xs) (hB : B ≤ B') : Ints w B' A xs :=
 ⟨h.1, fun hl => by
  obtain ⟨b, off, hA, hb, hc⟩ := h.2 hl
  exact ⟨b, off, hA, by omega, hc⟩⟩
theorem Ints.later {w w' : World} {A : Option Addr} {xs : List Int} (h : Ints w w.heap.size A xs) (hb : Below w.heap.size w w') : Ints w' w'.heap.size A xs :=
 (h.below hb).more hb.size
theorem Ints.at_ {w : World} {B : Nat} {A : Option Addr} {xs : List Int} (h : Ints w B A xs) {k : Nat} (hk : k < xs.length) :
  ∃ b off, A = some ⟨b, off, none⟩ ∧ b < B ∧ w.cell? ⟨b, off + k, none⟩ = some (.int .i64 (xs[k]'hk)) := by
 obtain ⟨b, off, hA, hb, hc⟩ := h.2 (by omega)
 exact ⟨b, off, hA, hb, hc k _ (List.getElem?_eq_getElem hk)⟩

theorem bdN {B : Nat} {a w : World} (h : Below B a w) (n : Nat) : Below B a (w.drewN n) := ⟨h.os, h.tape, h.output, h.size, h.block⟩

/-- A predicate handed over as a function value: in every later world it answers p x and leaves what lay as it was. -/
def PredInt (g : Nat) (lb : Array Value) (p : Int → Bool) (w : World) : Prop :=
 ∀ (W : World) (x : Int), Below w.heap.size w W → Calls Try.prog g (#[.int .i64 x] ++ lb) W fun e w' => e = .returned (.bool (p x)) ∧ Below W.heap.size W w'

theorem any_split {α : Type} (p : α → Bool) (xs : List α) (k : Nat) (hk : k < xs.length) (h : (xs.take k).any p = false) : (xs.take (k + 1)).any p = p xs[k] := by
 rw [List.take_succ_eq_append_getElem hk, List.any_append, h]; simp

/-- slices.IndexFunc over ints: whether the answer is at least 0. -/
theorem indexFunc_int (g : Nat) (lb : Array Value) (p : Int → Bool) (eg : ∀ args w, (callFunc g args).run Try.prog w = .ok (.enter g args) w)
  (A : Option Addr) (c : Nat) (xs : List Int) (w : World) (hp : PredInt g lb p w) (hx : Ints w w.heap.size A xs) :
  Calls Try.prog 67 #[.slice A xs.length c, .func (.func g) #[] lb] w fun e w' => (∃ r : Int, e = .returned (.int .i64 r) ∧ (decide (0 ≤ r) = xs.any p)) ∧ Below w.heap.size w w' := by
 have hlen := hx.1
 have HX := Lib.hid hx
 have HP := Lib.hid hp
 clear hx hp
 go_enter Try.func67, Try.ntmps67
 go_wp2
 go_loopg [5, 8] xs.length (fun gg _ s8 wr => ∃ k : Nat, k ≤ xs.length ∧ xs.length - k ≤ gg ∧ s8 = .int .i64 k ∧ Aside (Below w.heap.size w wr) ∧ Aside ((xs.take k).any p = false))
 case atStart => exact ⟨0, Nat.zero_le _, by omega, rfl, Below.refl _ w, by show ((xs.take 0).any p = false); simp⟩
 case round =>
  obtain ⟨k, hk, hg, rfl, BW, AN⟩ := hrel
  by_cases hlt : k < xs.length
  ·
   have hltz : (k : Int) < (xs.length : Int) := by omega
   obtain ⟨b, off, rfl, hb, hc⟩ := HX.out.at_ hlt
   have hc2 := (BW.out.cell (p := ⟨b, off + k, none⟩) hb).trans hc
   clear hc
   have hcall := HP.out wr xs[k] BW.out
   have hs := any_split p xs k hlt AN.out
   have HS := Lib.hid hs
   clear hs
   have HY : Hid (∃ y, y = xs[k]) := ⟨_, rfl⟩
   generalize xs[k] = y at hc2 hcall HS
   cases hq : p y with
   | true =>
    rw [hq] at hcall HS
    go_wp2_with (go_at_fn g; refine hcall.mono ?_; rintro e w' ⟨rfl, hb'⟩)
    go_ret
    refine ⟨⟨_, rfl, ?_⟩, BW.out.trans (hb'.mono BW.out.size)⟩
    have h1 : xs.any p = true := by
     rw [← List.take_append_drop (k + 1) xs, List.any_append, HS.out, Bool.true_or]
    rw [h1]; simp
   | false =>
    rw [hq] at hcall HS
    go_wp2_with (go_at_fn g; refine hcall.mono ?_; rintro e w' ⟨rfl, hb'⟩)
    go_roundg (xs.length - (k + 1))
    case measure => omega
    case rel => exact ⟨k + 1, by omega, by omega, by go_num, BW.out.trans (hb'.mono BW.out.size), HS.out⟩
  ·
   have hltz : ¬ (k : Int) < (xs.length : Int) := by omega
   have he : k = xs.length := by omega
   have HE := Lib.hid he
   clear he
   go_wp2
   go_ret
   refine ⟨⟨_, rfl, ?_⟩, BW.out⟩
   have h1 := AN.out
   rw [HE.out, List.take_length] at h1
   rw [h1]; rfl

theorem containsFunc_int (g : Nat) (lb : Array Value) (p : Int → Bool) (eg : ∀ args w, (callFunc g args).run Try.prog w = .ok (.enter g args) w)
  (A : Option Addr) (c : Nat) (xs : List Int) (w : World) (hp : PredInt g lb p w) (hx : Ints w w.heap.size A xs) :
  Calls Try.prog 52 #[.slice A xs.length c, .func (.func g) #[] lb] w fun e w' => e = .returned (.bool (xs.any p)) ∧ Below w.heap.size w w' := by
 have hi := indexFunc_int g lb p eg A c xs w hp hx
 have HI := Lib.hid hi
 clear hi hp hx
 go_enter Try.func52, Try.ntmps52
 go_wp2_with (go_at_call 67; refine HI.out.mono ?_; rintro e w' ⟨⟨r, rfl, hr⟩, hb'⟩; have HR := Lib.hid hr; clear hr)
 go_ret
 exact ⟨by rw [← HR.out]; rfl, hb'⟩
end Go.Proofs.Ytjieilicjdoaaaa

/- slices.ContainsFunc over ints, with a predicate that need answer only for the numbers that lie there. -/
namespace Go.Proofs.Ytjieilicjdoaaaa
open Go.RowKit

end Go.Proofs.Ytjieilicjdoaaaa

/- Slices of ints: copied, compared, marked, asked for their marks; what each of these functions does, for every slice. -/
namespace Go.Proofs.Ytjieilicjdoaaaa
open Go.RowKit

/-- Block g is a writable row of type t whose first cells are l. -/
def Wr (w : World) (g : Nat) (t : TypeId) (l : List Value) : Prop := ∃ cur : Array Value, w.heap[g]? = some (.cells cur t (0, 0)) ∧ cur.toList.take l.length = l

section
variable {w w' : World} {g : Nat} {t : TypeId} {l : List Value}
theorem Wr.lt (h : Wr w g t l) : g < w.heap.size := by
 obtain ⟨cur, h1, _⟩ := h
 exact (Array.getElem?_eq_some_iff.1 h1).1
theorem Wr.cell (h : Wr w g t l) {i : Nat} {u : Value} (hu : l[i]? = some u) : w.cell? ⟨g, i, none⟩ = some u := by
 obtain ⟨cur, h1, h2⟩ := h
 rw [cell_of_row w g i cur t (0, 0) h1]
 rw [← h2, List.getElem?_take] at hu
 split at hu
 ·
  simpa using hu
 ·
  cases hu
theorem Wr.frozen (h : Wr w g t l) (i : Nat) : w.frozen? ⟨g, i, none⟩ = false := by
 obtain ⟨cur, h1, _⟩ := h
 exact frozen_of_row w g i cur t h1
theorem Wr.keep (h : Wr w g t l) (hk : w'.heap[g]? = w.heap[g]?) : Wr w' g t l := by
 obtain ⟨cur, h1, h2⟩ := h
 exact ⟨cur, hk.trans h1, h2⟩
theorem Wr.below {B : Nat} (h : Wr w g t l) (hb : Below B w w') (hg : g < B) : Wr w' g t l := h.keep (hb.block g hg)
theorem Wr.later (h : Wr w g t l) (hb : Below w.heap.size w w') : Wr w' g t l := h.below hb h.lt
theorem Wr.drew (h : Wr w g t l) : Wr w.drew g t l := h
theorem Wr.drewN (h : Wr w g t l) (n : Nat) : Wr (w.drewN n) g t l := h
theorem Wr.alloc (h : Wr w g t l) (o : Obj) : Wr (w.alloc o) g t l := h.keep (Below.heap_alloc w o g h.lt)
theorem Wr.far (h : Wr w g t l) {p : Addr} (hp : g ≠ p.block) (u : Value) : Wr (w.setCell p u) g t l := h.keep (Below.heap_setCell w p u g hp)
theorem Wr.set (h : Wr w g t l) (i : Nat) (u : Value) : Wr (w.setCell ⟨g, i, none⟩ u) g t (l.set i u) := by
 obtain ⟨cur, h1, h2⟩ := h
 refine ⟨cur.setIfInBounds i u, heap_setCell_same w g i cur t u h1, ?_⟩
 rw [Array.toList_setIfInBounds, List.length_set, List.take_set, h2]
theorem Wr.new (w : World) (t : TypeId) (cs : Array Value) : Wr (w.alloc (.cells cs t)) w.heap.size t cs.toList :=
 ⟨cs, heap_alloc_new w _, List.take_of_length_le (Nat.le_refl _)⟩
theorem Wr.of_own {base n c : Nat} {A : Option Addr} (h : w.ownsRow base t 1 (.slice A n c) n l) : (n = 0 ∧ l = []) ∨ ∃ g, A = some ⟨g, 0, none⟩ ∧ base ≤ g ∧ Wr w g t l := by
 rcases h.2 with ⟨h1, h2⟩ | ⟨g, cap, cur, hv, hb, hh, _, _, _, ht⟩
 ·
  subst h2
  exact .inl ⟨rfl, List.eq_nil_of_length_eq_zero (by simpa using h.1)⟩
 ·
  right
  simp only [Value.slice.injEq] at hv
  exact ⟨g, hv.1, hb, cur, hh, by rw [h.1]; exact ht⟩
end

/-- Ints as cells. -/
def iv (xs : List Int) : List Value := xs.map (Value.int .i64)
theorem iv_append (xs ys : List Int) : iv (xs ++ ys) = iv xs ++ iv ys := by simp [iv]
theorem iv_len (xs : List Int) : (iv xs).length = xs.length := by simp [iv]
theorem iv_get {xs : List Int} {i : Nat} {x : Int} (h : xs[i]? = some x) : (iv xs)[i]? = some (.int .i64 x) := by simp [iv, h]
theorem Wr.ints {w : World} {g B : Nat} {t : TypeId} {xs : List Int} (h : Wr w g t (iv xs)) (hB : g < B) (hl : xs.length ≤ 9223372036854775807) : Ints w B (some ⟨g, 0, none⟩) xs :=
 ⟨hl, fun _ => ⟨g, 0, rfl, hB, fun j x hx => by rw [Nat.zero_add]; exact h.cell (iv_get hx)⟩⟩

theorem info_int : (Try.prog.info? 3).map (fun i => (i.zero, i.size, i.bytes)) = some (some (.int .i64 0), 1, 8) := by kernel_rfl

theorem eq_step {xs ys : List Int} {k : Nat} (hk : k < xs.length) (hl : xs.length = ys.length) (h : xs.take k = ys.take k) (e : xs[k] = ys[k]) : xs.take (k + 1) = ys.take (k + 1) := by
 rw [List.take_succ_eq_append_getElem hk, List.take_succ_eq_append_getElem (by omega), h, e]
theorem eq_miss {xs ys : List Int} {k : Nat} (hk : k < xs.length) (hk' : k < ys.length) (e : ¬ xs[k] = ys[k]) : decide (xs = ys) = false := by
 simp only [decide_eq_false_iff_not]
 rintro rfl
 exact e rfl

/-- What comparing two slices leaves: whether they hold the same ints; the world has at most drawn. -/
def Same (xs ys : List Int) (w : World) (e : Ending) (w' : World) : Prop := e = .returned (.bool (decide (xs = ys))) ∧ ∃ n, w' = w.drewN n

set_option maxHeartbeats 400000 in
theorem laws_guInts (A A' : Option Addr) (c c' : Nat) (xs ys : List Int) (w : World) (B : Nat) (hx : Ints w B A xs) (hy : Ints w B A' ys) :
  Calls Try.prog 24 #[.slice A xs.length c, .slice A' ys.length c'] w (Same xs ys w) := by
 have hlx := hx.1
 have hly := hy.1
 have HX := Lib.hid hx
 have HY := Lib.hid hy
 clear hx hy
 by_cases hl : xs.length = ys.length
 ·
  have hne : ((xs.length : Int) != (ys.length : Int)) = false := by simp [hl]
  have HL := Lib.hid hl
  clear hl
  go_enter Try.func24, Try.ntmps24
  go_wp2
  go_loopg [5] xs.length (fun gg s5 wr => ∃ k : Nat, k ≤ xs.length ∧ xs.length - k ≤ gg ∧ s5 = .int .i64 k ∧ Aside (∃ n, wr = w.drewN n) ∧ Aside (xs.take k = ys.take k))
  case atStart => exact ⟨0, Nat.zero_le _, by omega, rfl, ⟨0, rfl⟩, by show xs.take 0 = ys.take 0; simp⟩
  case round =>
   obtain ⟨k, hk, hg, rfl, DW, TK⟩ := hrel
   by_cases hlt : k < xs.length
   ·
    have hltz : (k : Int) < (xs.length : Int) := by omega
    have hlt2 : k < ys.length := by have := HL.out; omega
    have hltz2 : (k : Int) < (ys.length : Int) := by omega
    have h0 : (0 : Int) ≤ (k : Int) := by omega
    obtain ⟨b, off, rfl, hb, hc⟩ := HX.out.at_ hlt
    obtain ⟨b', off', rfl, hb', hc'⟩ := HY.out.at_ hlt2
    obtain ⟨q, rfl⟩ := DW.out
    by_cases he : xs[k] = ys[k]
    ·
     have hbe : (xs[k] != ys[k]) = false := by simp [he]
     have HE := Lib.hid (eq_step hlt HL.out TK.out he)
     clear he TK
     generalize xs[k] = x at hc hbe
     generalize ys[k] = y at hc' hbe
     go_wp2
     go_quiet (fail)
     go_wp2
     go_roundg (xs.length - (k + 1))
     case measure => omega
     case rel => exact ⟨k + 1, by omega, by omega, by go_num, ⟨_, rfl⟩, HE.out⟩
    ·
     have hbe : (xs[k] != ys[k]) = true := by simp [he]
     have HE := Lib.hid (eq_miss hlt hlt2 he)
     clear he TK
     generalize xs[k] = x at hc hbe
     generalize ys[k] = y at hc' hbe
     go_wp2
     go_quiet (fail)
     go_wp2
     go_ret
     exact ⟨by rw [HE.out]; rfl, _, World.drewN_drewN _ _ _⟩
   ·
    have hltz : ¬ (k : Int) < (xs.length : Int) := by omega
    have he : k = xs.length := by omega
    have HE := Lib.hid he
    clear he
    go_wp2
    go_ret
    refine ⟨?_, DW.out⟩
    have h1 := TK.out
    rw [HE.out, List.take_length, HL.out, List.take_length] at h1
    rw [h1]; simp
 ·
  have hne : ((xs.length : Int) != (ys.length : Int)) = true := by simp; omega
  have hd : decide (xs = ys) = false := by
   simp only [decide_eq_false_iff_not]
   rintro rfl
   exact hl rfl
  have HD := Lib.hid hd
  clear hd hl
  go_enter Try.func24, Try.ntmps24
  go_wp2
  go_ret
  exact ⟨by rw [HD.out]; rfl, 0, rfl⟩
end Go.Proofs.Ytjieilicjdoaaaa

/- Slices of records: how a slice of structs reads as a list, over worlds that agree on the blocks that it lies in; plain records first. -/
namespace Go.Proofs.Ytjieilicjdoaaaa
open Go.RowKit

/-- A record of who performed which task. -/
structure GDid where
 task : Int
 who : Int
def GDid.cells (x : GDid) : List Value := [.int .i64 x.task, .int .i64 x.who]
/-- An active task. -/
structure GItem where
 task : Int
 who : Int
 did : Int
def GItem.cells (x : GItem) : List Value := [.int .i64 x.task, .int .i64 x.who, .int .i64 x.did]

/-- A block that a reading may use: below B; and, where m names a block, from that one on and writable. -/
def okB (m : Option Nat) (w : World) (B b : Nat) : Prop := b < B ∧ ∀ lo, m = some lo → lo ≤ b ∧ ∃ cur t, w.heap[b]? = some (.cells cur t (0, 0))
/-- Two worlds agree on all blocks that a reading may use. -/
def Agree (m : Option Nat) (B : Nat) (w w' : World) : Prop := ∀ b, b < B → (∀ lo, m = some lo → lo ≤ b) → w'.heap[b]? = w.heap[b]?
def Weaker (m m' : Option Nat) : Prop := ∀ lo', m' = some lo' → ∃ lo, m = some lo ∧ lo' ≤ lo

theorem Agree.of_below {m : Option Nat} {B : Nat} {w w' : World} (h : Below B w w') : Agree m B w w' := fun b hb _ => h.block b hb
theorem Agree.setCell {lo B : Nat} {w : World} {p : Addr} (hp : p.block < lo) (u : Value) : Agree (some lo) B w (w.setCell p u) :=
 fun b _ hl => Below.heap_setCell w p u b (by have := hl lo rfl; omega)
theorem Weaker.none (m : Option Nat) : Weaker m none := fun _ h => by cases h
theorem Weaker.some {lo lo' : Nat} (h : lo' ≤ lo) : Weaker (some lo) (some lo') := fun l h' => ⟨lo, rfl, by cases h'; exact h⟩
theorem Weaker.refl (m : Option Nat) : Weaker m m := fun l h => ⟨l, h, Nat.le_refl _⟩

theorem okB.keep {m : Option Nat} {w w' : World} {B b : Nat} (h : okB m w B b) (ha : Agree m B w w') : okB m w' B b :=
 ⟨h.1, fun lo hl => ⟨(h.2 lo hl).1, by
  obtain ⟨cur, t, hc⟩ := (h.2 lo hl).2
  exact ⟨cur, t, (ha b h.1 (fun l h' => (h.2 l h').1)).trans hc⟩⟩⟩
theorem okB.cell {m : Option Nat} {w w' : World} {B b : Nat} (h : okB m w B b) (ha : Agree m B w w') (i : Nat) : w'.cell? ⟨b, i, none⟩ = w.cell? ⟨b, i, none⟩ :=
 World.cell?_of_block (ha b h.1 (fun l h' => (h.2 l h').1))
theorem okB.more {m : Option Nat} {w : World} {B B' b : Nat} (h : okB m w B b) (hB : B ≤ B') : okB m w B' b := ⟨by have := h.1; omega, h.2⟩
theorem okB.weak {m m' : Option Nat} {w : World} {B b : Nat} (h : okB m w B b) (hm : Weaker m m') : okB m' w B b :=
 ⟨h.1, fun lo' hl' => by
  obtain ⟨lo, hl, hle⟩ := hm lo' hl'
  obtain ⟨h1, h2⟩ := h.2 lo hl
  exact ⟨by omega, h2⟩⟩

/-- How values of a struct type read as plain data: in how many cells, and which cells stand for which datum. -/
structure Cod (α : Type) where
 k : Nat
 R : Option Nat → World → Nat → α → List Value → Prop
 keep : ∀ {m w w' B x cs}, R m w B x cs → Agree m B w w' → R m w' B x cs
 more : ∀ {m w B B' x cs}, R m w B x cs → B ≤ B' → R m w B' x cs
 weak : ∀ {m m' w B x cs}, R m w B x cs → Weaker m m' → R m' w B x cs
 len : ∀ {m w B x cs}, R m w B x cs → cs.length = k

/-- Records whose cells are known outright. -/
def flat {α : Type} (k : Nat) (cells : α → List Value) (h : ∀ x, (cells x).length = k) : Cod α :=
 {
  k := k, R := fun _ _ _ x cs => cs = cells x, keep := fun h _ => h, more := fun h _ => h, weak := fun h _ => h, len := fun h' => by subst h'; exact h _ }

def intC : Cod Int := flat 1 (fun x => [.int .i64 x]) fun _ => rfl
def didC : Cod GDid := flat 2 GDid.cells fun _ => rfl
def itemC : Cod GItem := flat 3 GItem.cells fun _ => rfl

/-- The data xs lie behind the address A. -/
def Rows {α : Type} (C : Cod α) (m : Option Nat) (w : World) (B : Nat) (A : Option Addr) (xs : List α) : Prop :=
 xs.length ≤ 9223372036854775807 ∧ (0 < xs.length → ∃ b off, A = some ⟨b, off, none⟩ ∧ okB m w B b ∧ ∀ j x, xs[j]? = some x → ∃ cs, C.R m w B x cs ∧ ∀ i u, cs[i]? = some u → w.cell? ⟨b, off + j * C.k + i, none⟩ = some u)

section
variable {α : Type} {C : Cod α} {m m' : Option Nat} {w w' : World} {B B' : Nat} {A : Option Addr} {xs : List α}
theorem Rows.nil : Rows C m w B A [] := ⟨by simp, fun h => absurd h (by simp)⟩
theorem Rows.keep (h : Rows C m w B A xs) (ha : Agree m B w w') : Rows C m w' B A xs :=
 ⟨h.1, fun hl => by
  obtain ⟨b, off, hA, hB, hc⟩ := h.2 hl
  refine ⟨b, off, hA, hB.keep ha, fun j x hx => ?_⟩
  obtain ⟨cs, hR, hcs⟩ := hc j x hx
  exact ⟨cs, C.keep hR ha, fun i u hu => (hB.cell ha _).trans (hcs i u hu)⟩⟩
theorem Rows.more (h : Rows C m w B A xs) (hB : B ≤ B') : Rows C m w B' A xs :=
 ⟨h.1, fun hl => by
  obtain ⟨b, off, hA, hb, hc⟩ := h.2 hl
  refine ⟨b, off, hA, hb.more hB, fun j x hx => ?_⟩
  obtain ⟨cs, hR, hcs⟩ := hc j x hx
  exact ⟨cs, C.more hR hB, hcs⟩⟩
theorem Rows.weak (h : Rows C m w B A xs) (hm : Weaker m m') : Rows C m' w B A xs :=
 ⟨h.1, fun hl => by
  obtain ⟨b, off, hA, hb, hc⟩ := h.2 hl
  refine ⟨b, off, hA, hb.weak hm, fun j x hx => ?_⟩
  obtain ⟨cs, hR, hcs⟩ := hc j x hx
  exact ⟨cs, C.weak hR hm, hcs⟩⟩
theorem Rows.below (h : Rows C m w B A xs) (hb : Below B w w') : Rows C m w' B A xs := h.keep (Agree.of_below hb)
theorem Rows.later (h : Rows C m w w.heap.size A xs) (hb : Below w.heap.size w w') : Rows C m w' w'.heap.size A xs := (h.below hb).more hb.size
/-- Behind a store into an older block, and whatever leaves all that lay as it was. -/
theorem Rows.next {lo : Nat} {p : Addr} {u : Value} (h : Rows C (some lo) w w.heap.size A xs) (hp : p.block < lo) (hb : Below (w.setCell p u).heap.size (w.setCell p u) w') : Rows C (some lo) w' w'.heap.size A xs := by
 have h1 : Rows C (some lo) (w.setCell p u) (w.setCell p u).heap.size A xs := (h.keep (Agree.setCell hp u)).more (by simp [World.setCell])
 exact h1.later hb
theorem Rows.at_ (h : Rows C m w B A xs) {j : Nat} (hj : j < xs.length) :
  ∃ b off cs, A = some ⟨b, off, none⟩ ∧ okB m w B b ∧ C.R m w B xs[j] cs ∧ ∀ i u, cs[i]? = some u → w.cell? ⟨b, off + j * C.k + i, none⟩ = some u := by
 obtain ⟨b, off, hA, hb, hc⟩ := h.2 (by omega)
 obtain ⟨cs, hR, hcs⟩ := hc j _ (List.getElem?_eq_getElem hj)
 exact ⟨b, off, cs, hA, hb, hR, hcs⟩
end

section
variable {m : Option Nat} {w : World} {B : Nat} {A : Option Addr}
theorem Rows.ints {xs : List Int} (h : Rows intC m w B A xs) : Ints w B A xs :=
 ⟨h.1, fun hl => by
  obtain ⟨b, off, hA, hb, hc⟩ := h.2 hl
  refine ⟨b, off, hA, hb.1, fun j x hx => ?_⟩
  obtain ⟨cs, hR, hcs⟩ := hc j x hx
  have h1 := hcs 0 (.int .i64 x) (by rw [show cs = [.int .i64 x] from hR]; rfl)
  rw [show off + j * intC.k + 0 = off + j from by show off + j * 1 + 0 = off + j; omega] at h1
  exact h1⟩
theorem Ints.rows {xs : List Int} (h : Ints w B A xs) : Rows intC none w B A xs :=
 ⟨h.1, fun hl => by
  obtain ⟨b, off, hA, hb, hc⟩ := h.2 hl
  refine ⟨b, off, hA, ⟨hb, fun _ h => by cases h⟩, fun j x hx => ⟨_, rfl, fun i u hu => ?_⟩⟩
  match i, hu with
  | 0, hu =>
   simp only [List.getElem?_cons_zero, Option.some.injEq] at hu
   subst hu
   rw [show off + j * intC.k + 0 = off + j from by show off + j * 1 + 0 = off + j; omega]
   exact hc j x hx
  | i + 1, hu => simp at hu⟩
theorem Wr.rows {xs : List Int} {g lo : Nat} {t : TypeId} (h : Wr w g t (iv xs)) (hl : xs.length ≤ 9223372036854775807) (hlo : lo ≤ g) (hB : g < B) : Rows intC (some lo) w B (some ⟨g, 0, none⟩) xs :=
 ⟨hl, fun _ => ⟨g, 0, rfl, ⟨hB, fun l h' => by
   cases h'
   obtain ⟨cur, h1, _⟩ := h
   exact ⟨hlo, cur, t, h1⟩⟩, fun j x hx => ⟨_, rfl, fun i u hu => by
  match i, hu with
  | 0, hu =>
   simp only [List.getElem?_cons_zero, Option.some.injEq] at hu
   subst hu
   rw [show 0 + j * intC.k + 0 = j from by show 0 + j * 1 + 0 = j; omega]
   exact h.cell (iv_get hx)
  | i + 1, hu => simp at hu⟩⟩⟩
theorem did_at {xs : List GDid} (h : Rows didC m w B A xs) {j : Nat} (hj : j < xs.length) :
  ∃ b off, A = some ⟨b, off, none⟩ ∧ b < B ∧ w.cell? ⟨b, off + j * 2, none⟩ = some (.int .i64 xs[j].task) ∧ w.cell? ⟨b, off + j * 2 + 1, none⟩ = some (.int .i64 xs[j].who) := by
 obtain ⟨b, off, cs, hA, hb, hR, hc⟩ := h.at_ hj
 obtain rfl : cs = xs[j].cells := hR
 exact ⟨b, off, hA, hb.1, hc 0 _ rfl, hc 1 _ rfl⟩
theorem item_at {xs : List GItem} (h : Rows itemC m w B A xs) {j : Nat} (hj : j < xs.length) :
  ∃ b off, A = some ⟨b, off, none⟩ ∧ b < B ∧ w.cell? ⟨b, off + j * 3, none⟩ = some (.int .i64 xs[j].task) ∧ w.cell? ⟨b, off + j * 3 + 1, none⟩ = some (.int .i64 xs[j].who) ∧ w.cell? ⟨b, off + j * 3 + 2, none⟩ = some (.int .i64 xs[j].did) := by
 obtain ⟨b, off, cs, hA, hb, hR, hc⟩ := h.at_ hj
 obtain rfl : cs = xs[j].cells := hR
 exact ⟨b, off, hA, hb.1, hc 0 _ rfl, hc 1 _ rfl, hc 2 _ rfl⟩
end
/-- Block g holds just the cells cs of type t, none frozen. -/
def Bk (w : World) (g : Nat) (t : TypeId) (cs : Array Value) : Prop := w.heap[g]? = some (.cells cs t (0, 0))
section
variable {w w' : World} {g : Nat} {t : TypeId} {cs : Array Value}
theorem Bk.lt (h : Bk w g t cs) : g < w.heap.size := (Array.getElem?_eq_some_iff.1 h).1
theorem Bk.cell (h : Bk w g t cs) (i : Nat) : w.cell? ⟨g, i, none⟩ = cs[i]? := cell_of_row w g i cs t (0, 0) h
theorem Bk.frozen (h : Bk w g t cs) (i : Nat) : w.frozen? ⟨g, i, none⟩ = false := frozen_of_row w g i cs t h
theorem Bk.new {w : World} {t : TypeId} {cs : Array Value} (hg : g = w.heap.size) : Bk (w.alloc (.cells cs t)) g t cs := by subst hg; exact heap_alloc_new w _
theorem Bk.alloc (h : Bk w g t cs) (o : Obj) : Bk (w.alloc o) g t cs := (Below.heap_alloc w o g h.lt).trans h
theorem Bk.set (h : Bk w g t cs) (i : Nat) (u : Value) : Bk (w.setCell ⟨g, i, none⟩ u) g t (cs.setIfInBounds i u) := heap_setCell_same w g i cs t u h
theorem Bk.far (h : Bk w g t cs) {p : Addr} (hp : g ≠ p.block) (u : Value) : Bk (w.setCell p u) g t cs := (Below.heap_setCell w p u g hp).trans h
theorem Bk.later (h : Bk w g t cs) (hb : Below w.heap.size w w') : Bk w' g t cs := (hb.block g h.lt).trans h
theorem Bk.drewN (h : Bk w g t cs) (n : Nat) : Bk (w.drewN n) g t cs := h
theorem Bk.drew (h : Bk w g t cs) : Bk w.drew g t cs := h
end
/-- The world at a call under a name of its own. -/
theorem callsAt {f : FuncId} {args : Array Value} {w : World} {Q : Ending → World → Prop} (h : ∀ W, W = w → Calls Try.prog f args W Q) : Calls Try.prog f args w Q := h w rfl

theorem Agree.refl (m : Option Nat) (B : Nat) (w : World) : Agree m B w w := fun _ _ _ => rfl
theorem Agree.set {lo B : Nat} {w w1 : World} (h : Agree (some lo) B w w1) {p : Addr} (hp : p.block < lo) (u : Value) : Agree (some lo) B w (w1.setCell p u) :=
 fun b hb hl => (Below.heap_setCell w1 p u b (by have := hl lo rfl; omega)).trans (h b hb hl)
end Go.Proofs.Ytjieilicjdoaaaa

/- A row of structs that a loop fills one after the other: what holds after k rounds, and what the row reads as at the end. -/
namespace Go.Proofs.Ytjieilicjdoaaaa
open Go.RowKit

/-- Cells put one behind the other. -/
def putCells (w : World) (g o : Nat) : List Value → World
 | [] => w
 | c :: cs => putCells (w.setCell ⟨g, o, none⟩ c) g (o + 1) cs
def putList (l : List Value) (o : Nat) : List Value → List Value
 | [] => l
 | c :: cs => putList (l.set o c) (o + 1) cs

theorem Wr.put {g : Nat} {t : TypeId} (cs : List Value) : ∀ {w : World} {l : List Value} (o : Nat), Wr w g t l → Wr (putCells w g o cs) g t (putList l o cs) := by
 induction cs with
 | nil => intro w l o h; exact h
 | cons c cs ih => intro w l o h; exact ih (o + 1) (h.set o c)
theorem putList_mid (cs : List Value) : ∀ (P Z R : List Value), Z.length = cs.length → putList (P ++ Z ++ R) P.length cs = P ++ cs ++ R := by
 induction cs with
 | nil =>
  intro P Z R h
  have : Z = [] := List.eq_nil_of_length_eq_zero h
  subst this
  rfl
 | cons c cs ih =>
  intro P Z R h
  match Z, h with
  | z :: Z, h =>
   have h1 : (P ++ z :: Z ++ R).set P.length c = (P ++ [c]) ++ Z ++ R := by
    rw [List.append_assoc, List.set_append_right _ _ (Nat.le_refl _), Nat.sub_self]
    simp
   show putList ((P ++ z :: Z ++ R).set P.length c) (P.length + 1) cs = _
   rw [h1]
   have h2 : P.length + 1 = (P ++ [c]).length := by simp
   rw [h2, ih (P ++ [c]) Z R (by simpa using h)]
   simp
theorem heap_put (cs : List Value) : ∀ (w : World) (g o : Nat), (putCells w g o cs).heap.size = w.heap.size ∧ ∀ b, b ≠ g → (putCells w g o cs).heap[b]? = w.heap[b]? := by
 induction cs with
 | nil => intro w g o; exact ⟨rfl, fun _ _ => rfl⟩
 | cons c cs ih =>
  intro w g o
  obtain ⟨h1, h2⟩ := ih (w.setCell ⟨g, o, none⟩ c) g (o + 1)
  exact ⟨h1.trans (by simp [World.setCell]), fun b hb => (h2 b hb).trans (Below.heap_setCell w ⟨g, o, none⟩ c b hb)⟩
theorem bPut {B : Nat} {a : World} (cs : List Value) : ∀ {w : World} {g : Nat} (o : Nat), Below B a w → B ≤ g → Below B a (putCells w g o cs) := by
 induction cs with
 | nil => intro w g o h _; exact h
 | cons c cs ih => intro w g o h hg; exact ih (o + 1) (h.setCell (p := ⟨g, o, none⟩) hg c) hg

/-- After k rounds: the first k rows of block g stand for the first k data, the rest are as make left them. -/
def Filled {α : Type} (C : Cod α) (w : World) (g : Nat) (t : TypeId) (zc : List Value) (xs : List α) (k : Nat) : Prop :=
 ∃ css : List (List Value), css.length = k ∧ (∀ (j : Nat) (cs : List Value), css[j]? = some cs → ∃ x : α, xs[j]? = some x ∧ C.R (some (g + 1)) w w.heap.size x cs) ∧ Wr w g t (css.flatten ++ (List.replicate (xs.length - k) zc).flatten)

section
variable {α : Type} {C : Cod α} {w w' : World} {g : Nat} {t : TypeId} {zc : List Value} {xs : List α} {k : Nat}

theorem Filled.later (h : Filled C w g t zc xs k) (hb : Below w.heap.size w w') : Filled C w' g t zc xs k := by
 obtain ⟨css, h1, h2, h3⟩ := h
 refine ⟨css, h1, fun j cs hj => ?_, h3.later hb⟩
 obtain ⟨x, hx, hR⟩ := h2 j cs hj
 exact ⟨x, hx, C.more (C.keep hR (Agree.of_below hb)) hb.size⟩
theorem flat_len (css : List (List Value)) (sz : Nat) (h : ∀ cs ∈ css, cs.length = sz) : css.flatten.length = css.length * sz := by
 induction css with
 | nil => simp
 | cons c css ih =>
  rw [List.flatten_cons, List.length_append, h c (by simp), ih (fun x hx => h x (by simp [hx])), List.length_cons, Nat.add_mul]
  omega
theorem Filled.clen {css : List (List Value)} (h2 : ∀ (j : Nat) (cs : List Value), css[j]? = some cs → ∃ x : α, xs[j]? = some x ∧ C.R (some (g + 1)) w w.heap.size x cs) : ∀ cs ∈ css, cs.length = C.k := by
 intro cs hcs
 obtain ⟨j, hj⟩ := List.getElem?_of_mem hcs
 obtain ⟨x, _, hR⟩ := h2 j cs hj
 exact C.len hR
/-- The row that comes next still holds what make left. -/
theorem Filled.old (h : Filled C w g t zc xs k) (hk : k < xs.length) {i : Nat} {u : Value} (hu : zc[i]? = some u) : w.cell? ⟨g, k * C.k + i, none⟩ = some u := by
 obtain ⟨css, h1, h2, h3⟩ := h
 refine h3.cell ?_
 have hl := flat_len css C.k (Filled.clen h2)
 have hi := (List.getElem?_eq_some_iff.1 hu).1
 rw [List.getElem?_append_right (by rw [hl, h1]; omega), hl, h1, show xs.length - k = (xs.length - k - 1) + 1 from by omega, List.replicate_succ, List.flatten_cons,
  List.getElem?_append_left (by omega), show k * C.k + i - k * C.k = i from by omega]
 exact hu
theorem Filled.there (h : Filled C w g t zc xs k) (hk : k < xs.length) (o n : Nat) (ho : o = k * C.k) (hn : n ≤ zc.length) : ∀ j, j < n → (w.cell? ⟨g, o + j, none⟩).isSome = true := by
 intro j hj
 subst ho
 exact Option.isSome_iff_exists.2 ⟨_, h.old (i := j) hk (List.getElem?_eq_getElem (by omega))⟩
theorem Filled.frozen (h : Filled C w g t zc xs k) (i : Nat) : w.frozen? ⟨g, i, none⟩ = false := by
 obtain ⟨css, _, _, h3⟩ := h
 exact h3.frozen i
theorem Filled.lt (h : Filled C w g t zc xs k) : g < w.heap.size := by
 obtain ⟨css, _, _, h3⟩ := h
 exact h3.lt
theorem Filled.put (h : Filled C w g t zc xs k) (hk : k < xs.length) (hz : zc.length = C.k) {cs : List Value} (hR : C.R (some (g + 1)) w w.heap.size xs[k] cs) : Filled C (putCells w g (k * C.k) cs) g t zc xs (k + 1) := by
 obtain ⟨css, h1, h2, h3⟩ := h
 obtain ⟨hs, hh⟩ := heap_put cs w g (k * C.k)
 have hag : ∀ B, Agree (some (g + 1)) B w (putCells w g (k * C.k) cs) := fun B b _ hl => hh b (by have := hl _ rfl; omega)
 have hl := flat_len css C.k (Filled.clen h2)
 refine ⟨css ++ [cs], by simp [h1], fun j c hj => ?_, ?_⟩
 ·
  rw [hs]
  rw [List.getElem?_append] at hj
  split at hj
  ·
   obtain ⟨x, hx, hR'⟩ := h2 j c hj
   exact ⟨x, hx, C.keep hR' (hag _)⟩
  ·
   rename_i hjl
   have hj0 : j - css.length = 0 := by
    rcases Nat.eq_zero_or_pos (j - css.length) with h0 | h0
    ·
     exact h0
    ·
     rw [List.getElem?_eq_none (by simp only [List.length_cons, List.length_nil]; omega)] at hj
     cases hj
   rw [hj0] at hj
   simp only [List.getElem?_cons_zero, Option.some.injEq] at hj
   subst hj
   have : j = k := by omega
   subst this
   exact ⟨_, List.getElem?_eq_getElem hk, C.keep hR (hag _)⟩
 ·
  have h4 := h3.put cs (k * C.k)
  rw [show xs.length - k = (xs.length - (k + 1)) + 1 from by omega, List.replicate_succ, List.flatten_cons, ← List.append_assoc, ← h1, ← hl,
   putList_mid cs css.flatten zc _ (by rw [hz, C.len hR])] at h4
  rw [h1] at h4
  simpa [hl, h1] using h4
theorem flat_get (css : List (List Value)) (sz : Nat) (h : ∀ cs ∈ css, cs.length = sz) {j i : Nat} {cs : List Value} {u : Value} (hj : css[j]? = some cs) (hi : cs[i]? = some u) : css.flatten[j * sz + i]? = some u := by
 induction css generalizing j with
 | nil => simp at hj
 | cons c css ih =>
  have hc : c.length = sz := h c (by simp)
  rw [List.flatten_cons]
  match j, hj with
  | 0, hj =>
   simp only [List.getElem?_cons_zero, Option.some.injEq] at hj
   subst hj
   have := (List.getElem?_eq_some_iff.1 hi).1
   rw [List.getElem?_append_left (by omega), Nat.zero_mul, Nat.zero_add]
   exact hi
  | j + 1, hj =>
   rw [List.getElem?_append_right (by rw [hc, Nat.add_mul]; omega), hc, show (j + 1) * sz + i - sz = j * sz + i from by rw [Nat.add_mul]; omega]
   exact ih (fun x hx => h x (by simp [hx])) hj
theorem Filled.done (h : Filled C w g t zc xs xs.length) (hl : xs.length ≤ 9223372036854775807) : Rows C (some g) w w.heap.size (some ⟨g, 0, none⟩) xs := by
 have hlt := h.lt
 obtain ⟨css, h1, h2, h3⟩ := h
 refine ⟨hl, fun _ => ⟨g, 0, rfl, ⟨hlt, fun lo hlo => by
  cases hlo
  obtain ⟨cur, hc, _⟩ := h3
  exact ⟨Nat.le_refl _, cur, t, hc⟩⟩, fun j x hx => ?_⟩⟩
 have hj := (List.getElem?_eq_some_iff.1 hx).1
 have hjc : css[j]? = some (css[j]'(by omega)) := List.getElem?_eq_getElem (by omega)
 obtain ⟨y, hy, hR⟩ := h2 j _ hjc
 rw [hx] at hy
 cases hy
 refine ⟨_, C.weak hR (Weaker.some (by omega)), fun i u hu => ?_⟩
 rw [Nat.zero_add]
 refine h3.cell ?_
 have h5 := flat_get css C.k (Filled.clen h2) hjc hu
 rw [List.getElem?_append_left (by exact (List.getElem?_eq_some_iff.1 h5).1)]
 exact h5
end
end Go.Proofs.Ytjieilicjdoaaaa

/- One element appended to a slice of the call's own: what the longer slice holds. -/
namespace Go.Proofs.Ytjieilicjdoaaaa
open Go.RowKit

theorem append_row {ops : Array Oper} {rest : List Oper} {o : Oper} {a : Act} {w : World} {Q : Exit → Act → World → Prop} (hgd : o.guard = none) (s x : Operand) (t : TypeId)
  (ho : o.op = .call { callee := .builtin .append, args := #[s, x], argTypes := #[t, t] })
  (e : TypeId) (z : Value) (sz bytes : Nat) (ht : Try.prog.underlying t = some (.slice e)) (hinfo : (Try.prog.info? e).map (fun i => (i.zero, i.size, i.bytes)) = some (some z, sz, bytes)) (hzs : z.cells.size = sz) (hsz : 0 < sz) (hby : bytes ≤ 1024)
  (base : Nat) (v : Value) (n : Nat) (xs : List Value) (hs : a.eval s = v) (hown : w.ownsRow base e sz v n xs)
  (g : Nat) (news : List Value) (hx : a.eval x = .slice (some ⟨g, 0, none⟩) 1 1) (hl : news.length = sz) (hnews : ∀ j u, news[j]? = some u → w.cell? ⟨g, j, none⟩ = some u) (h1 : ∀ u ∈ news, u.oneCell' = true)
  (hn : n ≤ 16777216) (hbase : base ≤ w.heap.size)
  (h : ∀ v' w', w'.ownsRow base e sz v' (n + 1) (xs ++ news) → w.grownBy w' v.ownBlock → Below base w w' → wpList Try.prog ops Q rest (a.put o.dst v') w') : wpList Try.prog ops Q (o :: rest) a w := by
 obtain ⟨i, hi, hz, hsize, hbytes⟩ := info_parts hinfo
 have hmul : (n + 1) * bytes ≤ 140737488355328 := Nat.le_trans (Nat.mul_le_mul (show n + 1 ≤ 16777217 by omega) hby) (by omega)
 refine wpList_append_own w hgd s x t ho base e i z sz bytes ht hi hz hsize hbytes hzs hsz v n xs hs hown ⟨g, 0, none⟩ 1 1 news hx (by omega) (fun j u hu => ?_) h1 (by unfold maxLen; omega) hmul hbase fun v' w' h2 h3 _ => ?_
 ·
  have hadd : (⟨g, 0, none⟩ : Addr).add j = ⟨g, j, none⟩ := by unfold Addr.add; split <;> simp_all
  rw [hadd]
  exact hnews j u hu
 ·
  exact h v' w' h2 h3 ((Below.refl _ _).grown h3 hbase fun k hk => (hown.lt k hk).1)

/-- A slice of ints of the call's own. -/
def OwnV (w : World) (base : Nat) (v : Value) (xs : List Int) : Prop := w.ownsRow base 3 1 v xs.length (iv xs)

section
variable {w w' : World} {base : Nat} {v : Value} {xs : List Int}
theorem OwnV.nil (w : World) (base : Nat) : OwnV w base (.slice none 0 0) [] := World.ownsRow_nil _ _ _ _
theorem OwnV.later (h : OwnV w base v xs) (hb : Below w.heap.size w w') : OwnV w' base v xs :=
 World.ownsRow.kept (row := none) h ⟨hb.os, hb.tape, hb.output, hb.size, fun k hk _ => hb.block k hk⟩ (by cases hv : v.ownBlock <;> simp)
theorem OwnV.low {base' : Nat} (h : OwnV w base v xs) (hb : base' ≤ base) : OwnV w base' v xs := by
 unfold OwnV at h ⊢
 refine ⟨h.1, ?_⟩
 rcases h.2 with h2 | ⟨g, cap, cur, a1, a2, a3⟩
 ·
  exact .inl h2
 ·
  exact .inr ⟨g, cap, cur, a1, by omega, a3⟩
theorem OwnV.alloc (h : OwnV w base v xs) (o : Obj) : OwnV (w.alloc o) base v xs := World.ownsRow.alloc h o
theorem OwnV.form (h : OwnV w base v xs) : ∃ A c, v = .slice A xs.length c ∧ (0 < xs.length → ∃ g, A = some ⟨g, 0, none⟩ ∧ base ≤ g ∧ Wr w g 3 (iv xs)) := by
 rcases h.2 with ⟨h1, h2⟩ | ⟨g, cap, cur, hv, hb, hh, _, _, _, ht⟩
 ·
  exact ⟨none, 0, by rw [h1, h2], fun h0 => by omega⟩
 ·
  exact ⟨some ⟨g, 0, none⟩, cap, hv, fun _ => ⟨g, rfl, hb, cur, hh, by rw [iv_len]; simpa using ht⟩⟩
end

theorem append_int {ops : Array Oper} {rest : List Oper} {o : Oper} {a : Act} {w : World} {Q : Exit → Act → World → Prop} (hgd : o.guard = none) (s x : Operand)
  (ho : o.op = .call { callee := .builtin .append, args := #[s, x], argTypes := #[23, 23] })
  (base : Nat) (v : Value) (xs : List Int) (hs : a.eval s = v) (hown : OwnV w base v xs)
  (g : Nat) (y : Int) (hx : a.eval x = .slice (some ⟨g, 0, none⟩) 1 1) (hnew : w.cell? ⟨g, 0, none⟩ = some (.int .i64 y)) (hn : xs.length ≤ 16777216) (hbase : base ≤ w.heap.size)
  (h : ∀ v' w', OwnV w' base v' (xs ++ [y]) → Below base w w' → wpList Try.prog ops Q rest (a.put o.dst v') w') : wpList Try.prog ops Q (o :: rest) a w :=
 append_row hgd s x 23 ho 3 (.int .i64 0) 1 8 Try.underlying23 info_int rfl (by decide) (by decide) base v xs.length (iv xs) hs hown g [.int .i64 y] hx rfl
  (fun j u hu => by
   match j, hu with
   | 0, hu => simp only [List.getElem?_cons_zero, Option.some.injEq] at hu; subst hu; exact hnew
   | j + 1, hu => simp at hu) (by simp [Value.oneCell']) hn hbase
  fun v' w' h2 _ h4 => h v' w' (by unfold OwnV; rw [iv_append, List.length_append]; exact h2) h4
end Go.Proofs.Ytjieilicjdoaaaa

/- Elements appended to a slice of structs of the call's own: what the longer slice holds. -/
namespace Go.Proofs.Ytjieilicjdoaaaa
open Go.RowKit

/-- What lies from block base on is as it was. -/
def Kept (base : Nat) (w w' : World) : Prop := w.heap.size ≤ w'.heap.size ∧ ∀ b, b < w.heap.size → base ≤ b → w'.heap[b]? = w.heap[b]?
theorem Kept.of_below {base : Nat} {w w' : World} (h : Below w.heap.size w w') : Kept base w w' := ⟨h.size, fun b hb _ => h.block b hb⟩

/-- A slice of the call's own that reads as the list xs. -/
def OwnC {α : Type} (C : Cod α) (e : TypeId) (w : World) (base : Nat) (v : Value) (xs : List α) : Prop :=
 ∃ css : List (List Value), css.length = xs.length ∧
  (∀ (j : Nat) (cs : List Value), css[j]? = some cs → ∃ (x : α) (lo B : Nat), xs[j]? = some x ∧ base ≤ lo ∧ B ≤ w.heap.size ∧ (∀ g, v.ownBlock = some g → g < lo ∨ B ≤ g) ∧ C.R (some lo) w B x cs) ∧
  w.ownsRow base e C.k v xs.length css.flatten

section
variable {α : Type} {C : Cod α} {e : TypeId} {w w' : World} {base : Nat} {v : Value} {xs : List α}
theorem OwnC.clen {css : List (List Value)} (h2 : ∀ (j : Nat) (cs : List Value), css[j]? = some cs → ∃ (x : α) (lo B : Nat), xs[j]? = some x ∧ base ≤ lo ∧ B ≤ w.heap.size ∧ (∀ g, v.ownBlock = some g → g < lo ∨ B ≤ g) ∧ C.R (some lo) w B x cs) : ∀ cs ∈ css, cs.length = C.k := by
 intro cs hcs
 obtain ⟨j, hj⟩ := List.mem_iff_getElem?.1 hcs
 obtain ⟨x, lo, B, _, _, _, _, hR⟩ := h2 j cs hj
 exact C.len hR
theorem OwnC.kept (h : OwnC C e w base v xs) (hk : Kept base w w') : OwnC C e w' base v xs := by
 obtain ⟨css, h1, h2, h3⟩ := h
 refine ⟨css, h1, fun j cs hj => ?_, h3.1, ?_⟩
 ·
  obtain ⟨x, lo, B, a1, a2, a3, a4, a5⟩ := h2 j cs hj
  exact ⟨x, lo, B, a1, a2, by have := hk.1; omega, a4, C.keep a5 fun b hb hl => hk.2 b (by omega) (by have := hl lo rfl; omega)⟩
 ·
  rcases h3.2 with hn | ⟨g, cap, cur, hv, hb, hgg, rest⟩
  ·
   exact .inl hn
  ·
   exact .inr ⟨g, cap, cur, hv, hb, (hk.2 g (Array.getElem?_eq_some_iff.1 hgg).1 hb).trans hgg, rest⟩
theorem OwnC.later (h : OwnC C e w base v xs) (hb : Below w.heap.size w w') : OwnC C e w' base v xs := h.kept (Kept.of_below hb)
theorem OwnC.lt (h : OwnC C e w base v xs) : ∀ g, v.ownBlock = some g → base ≤ g ∧ g < w.heap.size := by
 obtain ⟨css, h1, h2, h3⟩ := h
 exact h3.lt
theorem OwnC.nil (w : World) (base : Nat) : OwnC C e w base (.slice none 0 0) [] := ⟨[], rfl, fun j cs h => by simp at h, World.ownsRow_nil _ _ _ _⟩
theorem OwnC.made (hb : base ≤ w.heap.size) (cap : Nat) (cur : Array Value) (hm : cap ≤ maxLen) (hs : cur.size = cap * C.k) : OwnC C e (w.alloc (.cells cur e)) base (.slice (some ⟨w.heap.size, 0, none⟩) 0 cap) [] :=
 ⟨[], rfl, fun j cs h => by simp at h, World.ownsRow_made w cur cap hb hm hs⟩
theorem OwnC.rows (h : OwnC C e w base v xs) (hl : xs.length ≤ 9223372036854775807) : ∃ A c, v = .slice A xs.length c ∧ Rows C (some base) w w.heap.size A xs := by
 obtain ⟨css, h1, h2, h3⟩ := h
 have hc := OwnC.clen h2
 rcases h3.2 with ⟨hv, hn⟩ | ⟨g, cap, cur, hv, hb, hgg, hcap, hmax, hcs, htake⟩
 ·
  refine ⟨none, 0, by rw [hn]; exact hv, hl, fun h0 => by omega⟩
 ·
  refine ⟨some ⟨g, 0, none⟩, cap, hv, hl, fun _ => ⟨g, 0, rfl, ⟨(Array.getElem?_eq_some_iff.1 hgg).1, fun lo hlo => ⟨by cases hlo; exact hb, cur, e, hgg⟩⟩, fun j x hx => ?_⟩⟩
  have hj : j < css.length := by rw [h1]; exact (List.getElem?_eq_some_iff.1 hx).1
  obtain ⟨x', lo, B, a1, a2, a3, a4, a5⟩ := h2 j css[j] (List.getElem?_eq_getElem hj)
  rw [hx] at a1
  cases a1
  refine ⟨css[j], C.more (C.weak a5 (Weaker.some a2)) a3, fun i u hu => ?_⟩
  have h4 := flat_get css C.k hc (List.getElem?_eq_getElem hj) hu
  have hlt : j * C.k + i < xs.length * C.k := by
   have := (List.getElem?_eq_some_iff.1 h4).1
   rw [flat_len css C.k hc, h1] at this
   exact this
  subst hv
  rw [Nat.zero_add, h3.cellAt _ hlt]
  exact h4
end

theorem append_C {α : Type} {ops : Array Oper} {rest : List Oper} {o : Oper} {a : Act} {w : World} {Q : Exit → Act → World → Prop} (hgd : o.guard = none) (s x : Operand) (t : TypeId)
  (ho : o.op = .call { callee := .builtin .append, args := #[s, x], argTypes := #[t, t] })
  (C : Cod α) (e : TypeId) (z : Value) (bytes : Nat) (ht : Try.prog.underlying t = some (.slice e)) (hinfo : (Try.prog.info? e).map (fun i => (i.zero, i.size, i.bytes)) = some (some z, C.k, bytes)) (hzs : z.cells.size = C.k) (hsz : 0 < C.k) (hby : bytes ≤ 1024)
  (base : Nat) (v : Value) (xs : List α) (hs : a.eval s = v) (hown : OwnC C e w base v xs)
  (y : α) (cs : List Value) (lo B : Nat) (hR : C.R (some lo) w B y cs) (hlo : base ≤ lo) (hB : B ≤ w.heap.size) (hsep : ∀ g, v.ownBlock = some g → g < lo ∨ B ≤ g)
  (g : Nat) (hx : a.eval x = .slice (some ⟨g, 0, none⟩) 1 1) (hnews : ∀ j u, cs[j]? = some u → w.cell? ⟨g, j, none⟩ = some u) (h1 : ∀ u ∈ cs, u.oneCell' = true)
  (hn : xs.length ≤ 16777216) (hbase : base ≤ w.heap.size)
  (h : ∀ v' w', OwnC C e w' base v' (xs ++ [y]) → w.grownBy w' v.ownBlock → Below base w w' → wpList Try.prog ops Q rest (a.put o.dst v') w') : wpList Try.prog ops Q (o :: rest) a w := by
 obtain ⟨css, c1, c2, c3⟩ := hown
 obtain ⟨i, hi, hz, hsize, hbytes⟩ := info_parts hinfo
 have hmul : (xs.length + 1) * bytes ≤ 140737488355328 := Nat.le_trans (Nat.mul_le_mul (show xs.length + 1 ≤ 16777217 by omega) hby) (by omega)
 have hlt := c3.lt
 refine wpList_append_own_at w hgd s x t ho base e i z C.k bytes ht hi hz hsize hbytes hzs hsz v xs.length css.flatten hs c3 ⟨g, 0, none⟩ 1 1 cs hx (by rw [C.len hR]; omega) (fun j u hu => ?_) h1 (by unfold maxLen; omega) hmul hbase fun v' w' h2 h3 _ h5 => ?_
 ·
  have hadd : (⟨g, 0, none⟩ : Addr).add j = ⟨g, j, none⟩ := by unfold Addr.add; split <;> simp_all
  rw [hadd]
  exact hnews j u hu
 ·
  refine h v' w' ⟨css ++ [cs], by simp [c1], fun j cs' hj => ?_, ?_⟩ h3 ((Below.refl _ _).grown h3 hbase fun k hk => (hlt k hk).1)
  ·
   have hkeep : ∀ {x : α} {lo B : Nat} {cs : List Value}, C.R (some lo) w B x cs → B ≤ w.heap.size → (∀ g, v.ownBlock = some g → g < lo ∨ B ≤ g) → C.R (some lo) w' B x cs := fun hr hb hs' => C.keep hr fun b hb' hl => h3.block b (by omega) fun he => by
    have h6 := hs' b he.symm
    have h7 := hl _ rfl
    omega
   have hsep' : ∀ {lo B : Nat}, B ≤ w.heap.size → (∀ g, v.ownBlock = some g → g < lo ∨ B ≤ g) → ∀ g, v'.ownBlock = some g → g < lo ∨ B ≤ g := fun hb hs' g hg => by
    rcases h5 with h5 | h5
    ·
     exact hs' g (by rw [← h5]; exact hg)
    ·
     rw [h5] at hg; cases hg; exact .inr hb
   have hsz' := h3.size
   by_cases hlt' : j < css.length
   ·
    rw [List.getElem?_append_left hlt'] at hj
    obtain ⟨x', lo', B', a1, a2, a3, a4, a5⟩ := c2 j cs' hj
    exact ⟨x', lo', B', by rw [List.getElem?_append_left (by omega)]; exact a1, a2, by omega, hsep' a3 a4, hkeep a5 a3 a4⟩
   ·
    rw [List.getElem?_append_right (by omega)] at hj
    have hj0 : j - css.length = 0 := by
     have := (List.getElem?_eq_some_iff.1 hj).1
     simp at this
     omega
    rw [hj0] at hj
    simp at hj
    subst hj
    exact ⟨y, lo, B, by rw [List.getElem?_append_right (by omega), ← c1, hj0]; rfl, hlo, by omega, hsep' hB hsep, hkeep hR hB hsep⟩
  ·
   rw [List.flatten_append, List.length_append]
   simpa using h2
end Go.Proofs.Ytjieilicjdoaaaa

/- Ints appended from any slice; ints copied by the program. -/
namespace Go.Proofs.Ytjieilicjdoaaaa
open Go.RowKit

/-- What a function leaves that answers ints in memory of its own. -/
def GivesL (xs : List Int) (w : World) (e : Ending) (w' : World) : Prop := ∃ v, e = .returned v ∧ OwnV w' w.heap.size v xs ∧ Below w.heap.size w w'

theorem append_none {ops : Array Oper} {rest : List Oper} {o : Oper} {a : Act} {w : World} {Q : Exit → Act → World → Prop} (hgd : o.guard = none) (s x : Operand) (t : TypeId)
  (ho : o.op = .call { callee := .builtin .append, args := #[s, x], argTypes := #[t, t] })
  (base : Nat) (e : TypeId) (i : TypeInfo) (size : Nat) (ht : Try.prog.underlying t = some (.slice e)) (hi : Try.prog.info? e = some i)
  (v : Value) (n c : Nat) (xs : List Value) (hs : a.eval s = v) (hown : w.ownsRow base e size v n xs) (hx : a.eval x = .slice none 0 c)
  (h : wpList Try.prog ops Q rest (a.put o.dst v) w) : wpList Try.prog ops Q (o :: rest) a w := by
 refine wpList_plain hgd fun K hK => ?_
 have hrun : (Builtin.append_ #[t, t] o.type #[v, .slice none 0 c]).run Try.prog w = .ok v w := by
  rcases hown.2 with ⟨rfl, rfl⟩ | ⟨g, cap, cur, rfl, _, _, hnc, _⟩
  ·
   simp [Builtin.append_, run_underlying ht, sizeOf, typeInfo, hi, Builtin.lenOf, Builtin.firstCells]
  ·
   simp [Builtin.append_, run_underlying ht, sizeOf, typeInfo, hi, Builtin.lenOf, Builtin.firstCells, hnc, storeCells]
 unfold Oper.wp
 simp [execOp, ho, resolve, invoke, builtin, hs, hx, hrun, Result.andThen]
 exact hK _ _ h

/-- Ints appended from a slice that lies anywhere. -/
theorem append_intsA {ops : Array Oper} {rest : List Oper} {o : Oper} {a : Act} {w : World} {Q : Exit → Act → World → Prop} (hgd : o.guard = none) (s x : Operand)
  (ho : o.op = .call { callee := .builtin .append, args := #[s, x], argTypes := #[23, 23] })
  (base : Nat) (v : Value) (xs : List Int) (hs : a.eval s = v) (hown : OwnV w base v xs)
  (A : Option Addr) (c B : Nat) (ys : List Int) (hx : a.eval x = .slice A ys.length c) (hy : Ints w B A ys) (hn : xs.length + ys.length ≤ 16777217) (hbase : base ≤ w.heap.size)
  (h : ∀ v' w', OwnV w' base v' (xs ++ ys) → w.grownBy w' v.ownBlock → Below base w w' → wpList Try.prog ops Q rest (a.put o.dst v') w') : wpList Try.prog ops Q (o :: rest) a w := by
 obtain ⟨i, hi, hz, hsize, hbytes⟩ := info_parts info_int
 cases A with
 | none =>
  have hy0 : ys = [] := by
   rcases Nat.eq_zero_or_pos ys.length with h0 | h0
   ·
    exact List.eq_nil_of_length_eq_zero h0
   ·
    obtain ⟨b, off, hA, _⟩ := hy.2 h0
    cases hA
  subst hy0
  refine append_none hgd s x 23 ho base 3 i 1 Try.underlying23 hi v xs.length c (iv xs) hs hown hx (h v w (by rw [List.append_nil]; exact hown) ⟨rfl, rfl, rfl, Nat.le_refl _, fun _ _ _ => rfl⟩ (Below.refl _ _))
 | some ad =>
  have hnews : ∀ j u, (iv ys)[j]? = some u → w.cell? (ad.add j) = some u := fun j u hu => by
   simp only [iv, List.getElem?_map, Option.map_eq_some_iff] at hu
   obtain ⟨y, hyj, rfl⟩ := hu
   have hj := (List.getElem?_eq_some_iff.1 hyj).1
   obtain ⟨b, off, hA, _, hc⟩ := hy.2 (by omega)
   cases hA
   have hadd : (⟨b, off, none⟩ : Addr).add j = ⟨b, off + j, none⟩ := by unfold Addr.add; split <;> simp_all
   rw [hadd]
   exact hc j y hyj
  refine wpList_append_own w hgd s x 23 ho base 3 i (.int .i64 0) 1 8 Try.underlying23 hi hz hsize hbytes rfl (by decide) v xs.length (iv xs) hs hown ad ys.length c (iv ys) hx (by rw [iv_len]; omega) hnews (fun u hu => ?_) (by unfold maxLen; omega) (by omega) hbase fun v' w' h2 h3 _ => ?_
  ·
   simp only [iv, List.mem_map] at hu
   obtain ⟨y, _, rfl⟩ := hu
   rfl
  ·
   exact h v' w' (by unfold OwnV; rw [iv_append, List.length_append]; exact h2) h3 ((Below.refl _ _).grown h3 hbase fun k hk => (hown.lt k hk).1)

theorem OwnV.rows {w : World} {base : Nat} {v : Value} {xs : List Int} (h : OwnV w base v xs) (hl : xs.length ≤ 9223372036854775807) : ∃ A c, v = .slice A xs.length c ∧ Rows intC (some base) w w.heap.size A xs := by
 obtain ⟨A, c, hv, hA⟩ := h.form
 refine ⟨A, c, hv, ?_⟩
 rcases Nat.eq_zero_or_pos xs.length with h0 | h0
 ·
  have : xs = [] := List.eq_nil_of_length_eq_zero h0
  subst this
  exact Rows.nil
 ·
  obtain ⟨g, rfl, hb, hw⟩ := hA h0
  exact hw.rows hl hb hw.lt
theorem OwnV.made' {w : World} {base : Nat} (hb : base ≤ w.heap.size) : OwnV (w.alloc (.cells #[] 3)) base (.slice (some ⟨w.heap.size, 0, none⟩) 0 0) [] :=
 World.ownsRow_made w #[] 0 hb (by decide) rfl

theorem impl_cloneInts (A : Option Addr) (c : Nat) (xs : List Int) (w : World) (hx : Ints w w.heap.size A xs) (hl : xs.length ≤ 1048576) :
  Calls Try.prog 42 #[.slice A xs.length c] w (GivesL xs w) := by
 have HX := Lib.hid hx
 clear hx
 go_enter Try.func42, Try.ntmps42
 go_wp2_with (at_builtin; refine append_intsA rfl (.const (.slice none 0 0)) (.tmp 3) rfl w.heap.size _ [] rfl (OwnV.nil w w.heap.size) A c w.heap.size xs rfl HX.out (by simp; omega) (Nat.le_refl _) ?_; intro v' w2 hown2 hg2 hb2; have HO2 := Lib.hid hown2; have HB2 := Lib.hid hb2; clear hown2 hg2 hb2)
 go_ret
 exact ⟨_, rfl, HO2.out, HB2.out⟩
end Go.Proofs.Ytjieilicjdoaaaa

/- Plain records appended from a slice that lies anywhere, to a slice of the call's own. -/
namespace Go.Proofs.Ytjieilicjdoaaaa
open Go.RowKit

theorem addr_add (b off j : Nat) : (⟨b, off, none⟩ : Addr).add j = ⟨b, off + j, none⟩ := by unfold Addr.add; split <;> simp_all
/-- Plain records appended from a slice that lies anywhere, to a slice of the call's own. -/
theorem append_flatA {α : Type} {k : Nat} {cells : α → List Value} {hk : ∀ x, (cells x).length = k} {ops : Array Oper} {rest : List Oper} {o : Oper} {a : Act} {w : World} {Q : Exit → Act → World → Prop} (hgd : o.guard = none) (s x : Operand) (t e : TypeId)
  (ho : o.op = .call { callee := .builtin .append, args := #[s, x], argTypes := #[t, t] })
  (z : Value) (bytes : Nat) (ht : Try.prog.underlying t = some (.slice e)) (hinfo : (Try.prog.info? e).map (fun i => (i.zero, i.size, i.bytes)) = some (some z, k, bytes)) (hzs : z.cells.size = k) (hsz : 0 < k) (hby : bytes ≤ 1024) (h1 : ∀ x, ∀ u ∈ cells x, u.oneCell' = true)
  (base : Nat) (v : Value) (xs : List α) (hs : a.eval s = v) (hown : OwnC (flat k cells hk) e w base v xs)
  (A : Option Addr) (c B : Nat) (m : Option Nat) (ys : List α) (hx : a.eval x = .slice A ys.length c) (hy : Rows (flat k cells hk) m w B A ys) (hn : xs.length + ys.length ≤ 1000) (hbase : base ≤ w.heap.size)
  (h : ∀ v' w', OwnC (flat k cells hk) e w' base v' (xs ++ ys) → w.grownBy w' v.ownBlock → Below base w w' → wpList Try.prog ops Q rest (a.put o.dst v') w') : wpList Try.prog ops Q (o :: rest) a w := by
 obtain ⟨i, hi, hz, hsize, hbytes⟩ := info_parts hinfo
 obtain ⟨css, c1, c2, c3⟩ := hown
 have hcs : css = xs.map cells := List.ext_getElem? fun j => by
  rw [List.getElem?_map]
  cases hj : css[j]? with
  | none =>
   have : xs[j]? = none := List.getElem?_eq_none (by have := List.getElem?_eq_none_iff.1 hj; omega)
   rw [this]; rfl
  | some cs =>
   obtain ⟨y, lo, B', hy', _, _, _, hR⟩ := c2 j cs hj
   rw [hy']
   exact congrArg some (show cs = cells y from hR)
 subst hcs
 have mk : ∀ (v' : Value) (w' : World), w'.ownsRow base e k v' (xs.length + ys.length) ((xs.map cells).flatten ++ (ys.map cells).flatten) → OwnC (flat k cells hk) e w' base v' (xs ++ ys) := fun v' w' h2 =>
  ⟨(xs ++ ys).map cells, by simp, fun j cs hj => by
   rw [List.getElem?_map, Option.map_eq_some_iff] at hj
   obtain ⟨y, hy', rfl⟩ := hj
   exact ⟨y, base, 0, hy', Nat.le_refl _, Nat.zero_le _, fun g _ => .inr (Nat.zero_le _), rfl⟩, by
   rw [List.map_append, List.flatten_append, List.length_append]
   exact h2⟩
 cases A with
 | none =>
  have hy0 : ys = [] := by
   rcases Nat.eq_zero_or_pos ys.length with h0 | h0
   ·
    exact List.eq_nil_of_length_eq_zero h0
   ·
    obtain ⟨b, off, hA, _⟩ := hy.2 h0
    cases hA
  subst hy0
  refine append_none hgd s x t ho base e i k ht hi v xs.length c _ hs c3 hx (h v w (mk v w (by simpa using (show w.ownsRow base e k v xs.length (xs.map cells).flatten from c3))) ⟨rfl, rfl, rfl, Nat.le_refl _, fun _ _ _ => rfl⟩ (Below.refl _ _))
 | some ad =>
  have hlen : ∀ l : List α, ((l.map cells).flatten).length = l.length * k := fun l => by
   rw [flat_len _ k (fun cs hcs => by
    obtain ⟨y, _, rfl⟩ := List.mem_map.1 hcs
    exact hk y), List.length_map]
  have hnews : ∀ j u, ((ys.map cells).flatten)[j]? = some u → w.cell? (ad.add j) = some u := fun j u hu => by
   have hj := (List.getElem?_eq_some_iff.1 hu).1
   rw [hlen] at hj
   have hq : j / k < ys.length := Nat.div_lt_of_lt_mul (by rw [Nat.mul_comm]; exact hj)
   have hr : j % k < k := Nat.mod_lt _ hsz
   have hij : j = (j / k) * k + j % k := by rw [Nat.mul_comm]; exact (Nat.div_add_mod j k).symm
   obtain ⟨b, off, hA, _, hc⟩ := hy.2 (Nat.lt_of_le_of_lt (Nat.zero_le _) hq)
   cases hA
   obtain ⟨cs, hR, hcs⟩ := hc (j / k) _ (List.getElem?_eq_getElem hq)
   obtain rfl : cs = cells ys[j / k] := hR
   rw [addr_add b off j]
   have h5 := flat_get (ys.map cells) k (fun cs hcs => by
    obtain ⟨y, _, rfl⟩ := List.mem_map.1 hcs
    exact hk y) (j := j / k) (i := j % k) (cs := cells ys[j / k]) (by simp [hq]) (List.getElem?_eq_getElem (by rw [hk]; exact hr))
   rw [← hij, hu] at h5
   have h6 := hcs (j % k) _ (List.getElem?_eq_getElem (by rw [hk]; exact hr))
   rw [show off + j / k * (flat k cells hk).k + j % k = off + j from by show off + j / k * k + j % k = off + j; omega] at h6
   rw [h6, h5]
  refine wpList_append_own w hgd s x t ho base e i z k bytes ht hi hz hsize hbytes hzs hsz v xs.length _ hs c3 ad ys.length c ((ys.map cells).flatten) hx (hlen ys) hnews (fun u hu => ?_) (by unfold maxLen; omega) ?_ hbase fun v' w' h2 h3 _ => ?_
  ·
   obtain ⟨cs, hcs, huc⟩ := List.mem_flatten.1 hu
   obtain ⟨y, _, rfl⟩ := List.mem_map.1 hcs
   exact h1 y u huc
  ·
   exact Nat.le_trans (Nat.mul_le_mul hn hby) (by omega)
  ·
   exact h v' w' (mk v' w' h2) h3 ((Below.refl _ _).grown h3 hbase fun q hq => (c3.lt q hq).1)

end Go.Proofs.Ytjieilicjdoaaaa

/- Appends as steps of a region that draws its order. -/
namespace Go.Proofs.Ytjieilicjdoaaaa
open Go.RowKit

theorem step_of_run {ops : Array Oper} {o : Oper} {a : Act} {w : World} {K : Act → World → Prop} {Q : Exit → Act → World → Prop} {E : Prop}
  (hg : o.guard = none) (s x : Operand) (t : TypeId) (hop : o.op = Op.call { callee := Callee.builtin Builtin.append, args := #[s, x], argTypes := #[t, t] })
  {v xv v' : Value} {w' : World} (hs : a.eval s = v) (hx : a.eval x = xv) (hrun : (Builtin.append_ #[t, t] o.type #[v, xv]).run Try.prog w = .ok v' w')
  (hK : K (a.put o.dst v') w') : if Region.wanted o (yielded ops a.tmps) = true then Oper.wp Try.prog o a w K Q else E := by
 have hw : Region.wanted o (yielded ops a.tmps) = true := by simp [Region.wanted, hg]
 rw [if_pos hw]
 unfold Oper.wp
 simp [execOp, hop, resolve, invoke, builtin, hs, hx, hrun, Result.andThen]
 exact hK

theorem run_C {α : Type} (C : Cod α) (t ty e : TypeId) (z : Value) (bytes : Nat) (ht : Try.prog.underlying t = some (.slice e)) (hinfo : (Try.prog.info? e).map (fun i => (i.zero, i.size, i.bytes)) = some (some z, C.k, bytes)) (hzs : z.cells.size = C.k) (hsz : 0 < C.k) (hby : bytes ≤ 1024)
  (base : Nat) (v : Value) (xs : List α) {w : World} (hown : OwnC C e w base v xs)
  (y : α) (cs : List Value) (lo B : Nat) (hR : C.R (some lo) w B y cs) (hlo : base ≤ lo) (hB : B ≤ w.heap.size) (hsep : ∀ g, v.ownBlock = some g → g < lo ∨ B ≤ g)
  (g : Nat) (hnews : ∀ j u, cs[j]? = some u → w.cell? ⟨g, j, none⟩ = some u) (h1 : ∀ u ∈ cs, u.oneCell' = true) (hn : xs.length ≤ 16777216) (hbase : base ≤ w.heap.size) :
  ∃ v' w', (Builtin.append_ #[t, t] ty #[v, .slice (some ⟨g, 0, none⟩) 1 1]).run Try.prog w = .ok v' w' ∧ OwnC C e w' base v' (xs ++ [y]) ∧ Below base w w' := by
 obtain ⟨css, c1, c2, c3⟩ := hown
 obtain ⟨i, hi, hz, hsize, hbytes⟩ := info_parts hinfo
 have hmul : (xs.length + 1) * bytes ≤ 140737488355328 := Nat.le_trans (Nat.mul_le_mul (show xs.length + 1 ≤ 16777217 by omega) hby) (by omega)
 have hlt := c3.lt
 obtain ⟨v', w', hr, h2, h3, _, h5⟩ := run_append_own_at (P := Try.prog) w base t ty e i z C.k bytes ht hi hz hsize hbytes hzs hsz v xs.length css.flatten c3 ⟨g, 0, none⟩ 1 1 cs (by rw [C.len hR]; omega) (fun j u hu => by
  have hadd : (⟨g, 0, none⟩ : Addr).add j = ⟨g, j, none⟩ := by unfold Addr.add; split <;> simp_all
  rw [hadd]
  exact hnews j u hu) h1 (by unfold maxLen; omega) hmul hbase
 refine ⟨v', w', hr, ⟨css ++ [cs], by simp [c1], fun j cs' hj => ?_, ?_⟩, (Below.refl _ _).grown h3 hbase fun k hk => (hlt k hk).1⟩
 ·
  have hkeep : ∀ {x : α} {lo B : Nat} {cs : List Value}, C.R (some lo) w B x cs → B ≤ w.heap.size → (∀ g, v.ownBlock = some g → g < lo ∨ B ≤ g) → C.R (some lo) w' B x cs := fun hr hb hs' => C.keep hr fun b hb' hl => h3.block b (by omega) fun he => by
   have h6 := hs' b he.symm
   have h7 := hl _ rfl
   omega
  have hsep' : ∀ {lo B : Nat}, B ≤ w.heap.size → (∀ g, v.ownBlock = some g → g < lo ∨ B ≤ g) → ∀ g, v'.ownBlock = some g → g < lo ∨ B ≤ g := fun hb hs' g hg => by
   rcases h5 with h5 | h5
   ·
    exact hs' g (by rw [← h5]; exact hg)
   ·
    rw [h5] at hg; cases hg; exact .inr hb
  have hsz' := h3.size
  by_cases hlt' : j < css.length
  ·
   rw [List.getElem?_append_left hlt'] at hj
   obtain ⟨x', lo', B', a1, a2, a3, a4, a5⟩ := c2 j cs' hj
   exact ⟨x', lo', B', by rw [List.getElem?_append_left (by omega)]; exact a1, a2, by omega, hsep' a3 a4, hkeep a5 a3 a4⟩
  ·
   rw [List.getElem?_append_right (by omega)] at hj
   have hj0 : j - css.length = 0 := by
    have := (List.getElem?_eq_some_iff.1 hj).1
    simp at this
    omega
   rw [hj0] at hj
   simp at hj
   subst hj
   exact ⟨y, lo, B, by rw [List.getElem?_append_right (by omega), ← c1, hj0]; rfl, hlo, by omega, hsep' hB hsep, hkeep hR hB hsep⟩
 ·
  rw [List.flatten_append, List.length_append]
  simpa using h2

theorem step_C {α : Type} {ops : Array Oper} {o : Oper} {a : Act} {w : World} {K : Act → World → Prop} {Q : Exit → Act → World → Prop} {E : Prop} (hg : o.guard = none) (s x : Operand) (t : TypeId)
  (hop : o.op = .call { callee := .builtin .append, args := #[s, x], argTypes := #[t, t] })
  (C : Cod α) (e : TypeId) (z : Value) (bytes : Nat) (ht : Try.prog.underlying t = some (.slice e)) (hinfo : (Try.prog.info? e).map (fun i => (i.zero, i.size, i.bytes)) = some (some z, C.k, bytes)) (hzs : z.cells.size = C.k) (hsz : 0 < C.k) (hby : bytes ≤ 1024)
  (base : Nat) (v : Value) (xs : List α) (hs : a.eval s = v) (hown : OwnC C e w base v xs)
  (y : α) (cs : List Value) (lo B : Nat) (hR : C.R (some lo) w B y cs) (hlo : base ≤ lo) (hB : B ≤ w.heap.size) (hsep : ∀ g, v.ownBlock = some g → g < lo ∨ B ≤ g)
  (g : Nat) (hx : a.eval x = .slice (some ⟨g, 0, none⟩) 1 1) (hnews : ∀ j u, cs[j]? = some u → w.cell? ⟨g, j, none⟩ = some u) (h1 : ∀ u ∈ cs, u.oneCell' = true) (hn : xs.length ≤ 16777216) (hbase : base ≤ w.heap.size)
  (hK : ∀ v' w', OwnC C e w' base v' (xs ++ [y]) → Below base w w' → K (a.put o.dst v') w') : if Region.wanted o (yielded ops a.tmps) = true then Oper.wp Try.prog o a w K Q else E := by
 obtain ⟨v', w', hr, h2, h3⟩ := run_C C t o.type e z bytes ht hinfo hzs hsz hby base v xs hown y cs lo B hR hlo hB hsep g hnews h1 hn hbase
 exact step_of_run hg s x t hop hs hx hr (hK v' w' h2 h3)
end Go.Proofs.Ytjieilicjdoaaaa

/- A plain list appended to an empty literal: nothing that was there changes. -/
namespace Go.Proofs.Ytjieilicjdoaaaa
open Go.RowKit

theorem run_lit {α : Type} {k : Nat} {cells : α → List Value} {hk : ∀ x, (cells x).length = k} (t ty e : TypeId) (z : Value) (bytes : Nat) (ht : Try.prog.underlying t = some (.slice e)) (hinfo : (Try.prog.info? e).map (fun i => (i.zero, i.size, i.bytes)) = some (some z, k, bytes)) (hzs : z.cells.size = k) (hsz : 0 < k) (hby : bytes ≤ 1024) (h1 : ∀ x, ∀ u ∈ cells x, u.oneCell' = true)
  {w : World} (g lo : Nat) (hlo : lo ≤ g) (hg : Bk w g e #[]) (A : Option Addr) (c B : Nat) (m : Option Nat) (ys : List α) (hy : Rows (flat k cells hk) m w B A ys) (hn : ys.length ≤ 1000) :
  ∃ v' w', (Builtin.append_ #[t, t] ty #[.slice (some ⟨g, 0, none⟩) 0 0, .slice A ys.length c]).run Try.prog w = .ok v' w' ∧ OwnC (flat k cells hk) e w' lo v' ys ∧ Below w.heap.size w w' ∧ (v'.ownBlock = some g ∨ v'.ownBlock = some w.heap.size) := by
 obtain ⟨i, hi, hz, hsize, hbytes⟩ := info_parts hinfo
 have hgl : g < w.heap.size := hg.lt
 have mk : ∀ (v' : Value) (w' : World), w'.ownsRow lo e k v' ys.length (ys.map cells).flatten → OwnC (flat k cells hk) e w' lo v' ys := fun v' w' h2 =>
  ⟨ys.map cells, by simp, fun j cs hj => by
   rw [List.getElem?_map, Option.map_eq_some_iff] at hj
   obtain ⟨y, hy', rfl⟩ := hj
   exact ⟨y, lo, 0, hy', Nat.le_refl _, Nat.zero_le _, fun g _ => .inr (Nat.zero_le _), rfl⟩, h2⟩
 subst hsize
 subst hbytes
 rcases Nat.eq_zero_or_pos ys.length with h0 | hpos
 ·
  have hy0 : ys = [] := List.eq_nil_of_length_eq_zero h0
  subst hy0
  have hs : Src Try.prog i.size t (.slice A 0 c) 0 [] w := by
   cases A with
   | none => exact Src.ofNil w ht c
   | some ad => exact Src.ofSlice w ht ad 0 c [] (by simp) (fun j u hu => by simp at hu) (fun u hu => by cases hu)
  refine ⟨_, w, run_append_nothing w t t ty e i ht hi (some ⟨g, 0, none⟩) 0 0 (Nat.le_refl _) _ hs, mk _ _ ?_, Below.refl _ _, .inl rfl⟩
  exact ⟨by simp, .inr ⟨g, 0, #[], rfl, hlo, hg, Nat.le_refl _, by decide, by simp, by simp⟩⟩
 ·
  obtain ⟨b, off, hA, _, hc⟩ := hy.2 hpos
  subst hA
  have hlen : ((ys.map cells).flatten).length = ys.length * i.size := by
   rw [flat_len _ i.size (fun cs hcs => by
    obtain ⟨y, _, rfl⟩ := List.mem_map.1 hcs
    exact hk y), List.length_map]
  have hnews : ∀ j u, ((ys.map cells).flatten)[j]? = some u → w.cell? ((⟨b, off, none⟩ : Addr).add j) = some u := fun j u hu => by
   have hj := (List.getElem?_eq_some_iff.1 hu).1
   rw [hlen] at hj
   have hq : j / i.size < ys.length := Nat.div_lt_of_lt_mul (by rw [Nat.mul_comm]; exact hj)
   have hr : j % i.size < i.size := Nat.mod_lt _ hsz
   have hij : j = (j / i.size) * i.size + j % i.size := by rw [Nat.mul_comm]; exact (Nat.div_add_mod j i.size).symm
   obtain ⟨cs, hR, hcs⟩ := hc (j / i.size) _ (List.getElem?_eq_getElem hq)
   obtain rfl : cs = cells ys[j / i.size] := hR
   rw [addr_add b off j]
   have h5 := flat_get (ys.map cells) i.size (fun cs hcs => by
    obtain ⟨y, _, rfl⟩ := List.mem_map.1 hcs
    exact hk y) (j := j / i.size) (i := j % i.size) (cs := cells ys[j / i.size]) (by simp [hq]) (List.getElem?_eq_getElem (by rw [hk]; exact hr))
   rw [← hij, hu] at h5
   have h6 := hcs (j % i.size) _ (List.getElem?_eq_getElem (by rw [hk]; exact hr))
   rw [show off + j / i.size * (flat i.size cells hk).k + j % i.size = off + j from by show off + j / i.size * i.size + j % i.size = off + j; omega] at h6
   rw [h6, h5]
  have hs : Src Try.prog i.size t (.slice (some ⟨b, off, none⟩) ys.length c) ys.length ((ys.map cells).flatten) w := Src.ofSlice w ht _ _ c _ hlen hnews (fun u hu => by
   obtain ⟨cs, hcs, huc⟩ := List.mem_flatten.1 hu
   obtain ⟨y, _, rfl⟩ := List.mem_map.1 hcs
   exact h1 y u huc)
  have hmul : (0 + ys.length) * i.bytes ≤ 140737488355328 := Nat.le_trans (Nat.mul_le_mul (show 0 + ys.length ≤ 1000 by omega) hby) (by omega)
  have hrun := run_append_grow_src (P := Try.prog) w t t ty e i z ht hi hz (some ⟨g, 0, none⟩) 0 0 [] (run_firstCells_some w.drew i.size 0 ⟨g, 0, none⟩ 0 0 [] (by simp) (fun j u hu => by cases hu)) _ ys.length _ hs (by omega) (by omega) (growslice_fits (by omega) hmul)
  have hge := grownCap_ge w (0 + ys.length) 0 e
  have hcm : grownCap w (0 + ys.length) 0 e ≤ maxLen := grownCap_le_maxLen w (0 + ys.length) 0 e (by unfold maxLen; omega)
  rw [Nat.zero_add] at hrun hge hcm
  generalize grownCap w ys.length 0 e = cap at hrun hge hcm
  refine ⟨_, _, hrun, mk _ _ ?_, ?_, .inr rfl⟩
  ·
   refine ⟨hlen, .inr ⟨w.heap.size, _, _, rfl, by omega, heap_alloc_new w.drew _, hge, hcm, ?_, ?_⟩⟩
   ·
    rw [Array.size_append, List.size_toArray, size_zeroCells, hzs, List.nil_append, hlen, ← Nat.add_mul, show ys.length + (cap - ys.length) = cap from by omega]
   ·
    simp only [Array.toList_append, List.nil_append]
    rw [← hlen]
    exact List.take_left
  ·
   exact ((Below.refl w.heap.size w).drew).alloc (Nat.le_refl _) _

/-- As a step of a drawn region. -/
theorem step_lit {α : Type} {k : Nat} {cells : α → List Value} {hk : ∀ x, (cells x).length = k} {ops : Array Oper} {o : Oper} {a : Act} {w : World} {K : Act → World → Prop} {Q : Exit → Act → World → Prop} {E : Prop} (hgd : o.guard = none) (s x : Operand) (t : TypeId)
  (ho : o.op = .call { callee := .builtin .append, args := #[s, x], argTypes := #[t, t] })
  (e : TypeId) (z : Value) (bytes : Nat) (ht : Try.prog.underlying t = some (.slice e)) (hinfo : (Try.prog.info? e).map (fun i => (i.zero, i.size, i.bytes)) = some (some z, k, bytes)) (hzs : z.cells.size = k) (hsz : 0 < k) (hby : bytes ≤ 1024) (h1 : ∀ x, ∀ u ∈ cells x, u.oneCell' = true)
  (g lo : Nat) (hlo : lo ≤ g) (hg : Bk w g e #[]) (hs : a.eval s = .slice (some ⟨g, 0, none⟩) 0 0) (A : Option Addr) (c B : Nat) (m : Option Nat) (ys : List α) (hx : a.eval x = .slice A ys.length c) (hy : Rows (flat k cells hk) m w B A ys) (hn : ys.length ≤ 1000)
  (hK : ∀ v' w', OwnC (flat k cells hk) e w' lo v' ys → Below w.heap.size w w' → (v'.ownBlock = some g ∨ v'.ownBlock = some w.heap.size) → K (a.put o.dst v') w') : if Region.wanted o (yielded ops a.tmps) = true then Oper.wp Try.prog o a w K Q else E := by
 obtain ⟨v', w', hr, h2, h3, h4⟩ := run_lit t o.type e z bytes ht hinfo hzs hsz hby h1 g lo hlo hg A c B m ys hy hn
 exact step_of_run hgd s x t ho hs hx hr (hK v' w' h2 h3 h4)

end Go.Proofs.Ytjieilicjdoaaaa

/- Slices of ints marked one after the other, and asked for their marks. -/
namespace Go.Proofs.Ytjieilicjdoaaaa
open Go.RowKit

/-- A slice value that the call's own memory from base on holds: nothing, or a writable row. -/
def OwnI (w : World) (base : Nat) (A : Option Addr) (xs : List Int) : Prop := 0 < xs.length → ∃ g, A = some ⟨g, 0, none⟩ ∧ base ≤ g ∧ Wr w g 3 (iv xs)

theorem OwnI.ints {w : World} {base : Nat} {A : Option Addr} {xs : List Int} (h : OwnI w base A xs) (hl : xs.length ≤ 9223372036854775807) : Ints w w.heap.size A xs :=
 ⟨hl, fun h0 => by
  obtain ⟨g, hA, _, hw⟩ := h h0
  subst hA
  exact (hw.ints hw.lt hl).2 h0⟩
theorem OwnI.later {w w' : World} {base : Nat} {A : Option Addr} {xs : List Int} (h : OwnI w base A xs) (hb : Below w.heap.size w w') : OwnI w' base A xs := fun h0 => by
 obtain ⟨g, hA, hg, hw⟩ := h h0
 exact ⟨g, hA, hg, hw.later hb⟩
theorem OwnI.mono {w : World} {base base' : Nat} {A : Option Addr} {xs : List Int} (h : OwnI w base A xs) (hb : base' ≤ base) : OwnI w base' A xs := fun h0 => by
 obtain ⟨g, hA, hg, hw⟩ := h h0
 exact ⟨g, hA, by omega, hw⟩

/-- The world w' is w but for the blocks from lo to hi. -/
structure Inside (lo hi : Nat) (w w' : World) : Prop where
 os : w'.os = w.os
 tape : w'.tape = w.tape
 output : w'.output = w.output
 size : w'.heap.size = w.heap.size
 block : ∀ b, (b < lo ∨ hi ≤ b) → w'.heap[b]? = w.heap[b]?

theorem Inside.refl (lo hi : Nat) (w : World) : Inside lo hi w w := ⟨rfl, rfl, rfl, rfl, fun _ _ => rfl⟩
theorem Inside.trans {lo hi : Nat} {a b c : World} (h : Inside lo hi a b) (k : Inside lo hi b c) : Inside lo hi a c :=
 ⟨k.os.trans h.os, k.tape.trans h.tape, k.output.trans h.output, k.size.trans h.size, fun i hi => (k.block i hi).trans (h.block i hi)⟩
theorem Inside.setCell {lo hi : Nat} {w : World} {p : Addr} (h1 : lo ≤ p.block) (h2 : p.block < hi) (u : Value) : Inside lo hi w (w.setCell p u) :=
 ⟨rfl, rfl, rfl, by simp [World.setCell], fun b hb => Below.heap_setCell w p u b (by omega)⟩
theorem Inside.below {lo hi B : Nat} {w w' : World} (h : Inside lo hi w w') (hB : B ≤ lo) : Below B w w' := ⟨h.os, h.tape, h.output, by rw [h.size]; exact Nat.le_refl _, fun k hk => h.block k (.inl (by omega))⟩

theorem OwnI.drewN {w : World} {base : Nat} {A : Option Addr} {xs : List Int} (h : OwnI w base A xs) (n : Nat) : OwnI (w.drewN n) base A xs := h
theorem OwnI.of_v {w : World} {base : Nat} {v : Value} {xs : List Int} (h : OwnV w base v xs) : ∃ A c, v = .slice A xs.length c ∧ OwnI w base A xs := by
 obtain ⟨A, c, hv, hA⟩ := h.form
 exact ⟨A, c, hv, hA⟩
theorem OwnI.hi {w : World} {base : Nat} {A : Option Addr} {xs : List Int} (h : OwnI w base A xs) (hn : 0 < xs.length) : ∀ g, A = some ⟨g, 0, none⟩ → g < w.heap.size := fun g hg => by
 obtain ⟨g', hA, _, hw⟩ := h hn
 rw [hA] at hg
 cases hg
 exact hw.lt

end Go.Proofs.Ytjieilicjdoaaaa

/- Short words (a claim's bytes are counted): taking an operation first. -/
namespace Go.Proofs.Ytjieilicjdoaaaa
open Go.RowKit

theorem tk {md : Region.Mode} {ops : Array Oper} {Q : Exit → Act → World → Prop} {S : World → Prop} {i : Nat} {oi : Oper} {v : Value} {fuel : Nat} {listed : Array Bool} {a : Act} {w : World} (hi : ops[i]? = some oi) (hy : YieldsIf Try.prog ops S oi v a)
  (h : wpAnyH Try.prog md ops Q S fuel (listed.setIfInBounds i true) (a.put oi.dst v) w) (hs : Region.noSelect ops = true := by kernel_rfl) (hf : Region.free md ops listed i = true := by kernel_rfl) (hr : (Region.ready md ops listed).contains i = true := by kernel_rfl)
  (hQ : ∀ c a w, Q (.panic c) (a.put oi.dst v) w → Q (.panic c) a w := by exact fun _ _ _ h => h) (hS : S w := by assumption) : wpAnyH Try.prog md ops Q S (fuel + 1) listed a w :=
 wpAnyH_take hi hs hf hr hQ hy hS h
/-- A panic's post hangs on no frame. -/
def PanQ (Q : Exit → Act → World → Prop) : Prop := ∀ (c : _) (a : Act) (d : Option Tmp) (v : Value) (w : World), Q (.panic c) (a.put d v) w → Q (.panic c) a w
end Go.Proofs.Ytjieilicjdoaaaa

