/- Slices of records: how a slice of structs reads as a list, over worlds that agree on the blocks that it lies in; plain records first. -/
import Derived.Test.YtjieilicjdoaaaaInts
namespace Go.Proofs.Ytjieilicjdoaaaa
open Go.RowKit

/-- A record of who performed which task. -/
structure GDid where
  task : Int
  who : Int
def GDid.cells (x : GDid) : List Value := [.int .i64 x.task, .int .i64 x.who]
/-- An active task. -/
structure GItem where
  task : Int
  who : Int
  did : Int
def GItem.cells (x : GItem) : List Value := [.int .i64 x.task, .int .i64 x.who, .int .i64 x.did]

/-- A block that a reading may use: below B; and, where m names a block, from that one on and writable. -/
def okB (m : Option Nat) (w : World) (B b : Nat) : Prop := b < B ∧ ∀ lo, m = some lo → lo ≤ b ∧ ∃ cur t, w.heap[b]? = some (.cells cur t (0, 0))
/-- Two worlds agree on all blocks that a reading may use. -/
def Agree (m : Option Nat) (B : Nat) (w w' : World) : Prop := ∀ b, b < B → (∀ lo, m = some lo → lo ≤ b) → w'.heap[b]? = w.heap[b]?
def Weaker (m m' : Option Nat) : Prop := ∀ lo', m' = some lo' → ∃ lo, m = some lo ∧ lo' ≤ lo

theorem Agree.of_below {m : Option Nat} {B : Nat} {w w' : World} (h : Below B w w') : Agree m B w w' := fun b hb _ => h.block b hb
theorem Agree.setCell {lo B : Nat} {w : World} {p : Addr} (hp : p.block < lo) (u : Value) : Agree (some lo) B w (w.setCell p u) :=
  fun b _ hl => Below.heap_setCell w p u b (by have := hl lo rfl; omega)
theorem Weaker.none (m : Option Nat) : Weaker m none := fun _ h => by cases h
theorem Weaker.some {lo lo' : Nat} (h : lo' ≤ lo) : Weaker (some lo) (some lo') := fun l h' => ⟨lo, rfl, by cases h'; exact h⟩
theorem Weaker.refl (m : Option Nat) : Weaker m m := fun l h => ⟨l, h, Nat.le_refl _⟩

theorem okB.keep {m : Option Nat} {w w' : World} {B b : Nat} (h : okB m w B b) (ha : Agree m B w w') : okB m w' B b :=
  ⟨h.1, fun lo hl => ⟨(h.2 lo hl).1, by
    obtain ⟨cur, t, hc⟩ := (h.2 lo hl).2
    exact ⟨cur, t, (ha b h.1 (fun l h' => (h.2 l h').1)).trans hc⟩⟩⟩
theorem okB.cell {m : Option Nat} {w w' : World} {B b : Nat} (h : okB m w B b) (ha : Agree m B w w') (i : Nat) : w'.cell? ⟨b, i, none⟩ = w.cell? ⟨b, i, none⟩ :=
  World.cell?_of_block (ha b h.1 (fun l h' => (h.2 l h').1))
theorem okB.more {m : Option Nat} {w : World} {B B' b : Nat} (h : okB m w B b) (hB : B ≤ B') : okB m w B' b := ⟨by have := h.1; omega, h.2⟩
theorem okB.weak {m m' : Option Nat} {w : World} {B b : Nat} (h : okB m w B b) (hm : Weaker m m') : okB m' w B b :=
  ⟨h.1, fun lo' hl' => by
    obtain ⟨lo, hl, hle⟩ := hm lo' hl'
    obtain ⟨h1, h2⟩ := h.2 lo hl
    exact ⟨by omega, h2⟩⟩

/-- How values of a struct type read as plain data: in how many cells, and which cells stand for which datum. -/
structure Cod (α : Type) where
  k : Nat
  R : Option Nat → World → Nat → α → List Value → Prop
  keep : ∀ {m w w' B x cs}, R m w B x cs → Agree m B w w' → R m w' B x cs
  more : ∀ {m w B B' x cs}, R m w B x cs → B ≤ B' → R m w B' x cs
  weak : ∀ {m m' w B x cs}, R m w B x cs → Weaker m m' → R m' w B x cs
  len : ∀ {m w B x cs}, R m w B x cs → cs.length = k

/-- Records whose cells are known outright. -/
def flat {α : Type} (k : Nat) (cells : α → List Value) (h : ∀ x, (cells x).length = k) : Cod α :=
  { k := k, R := fun _ _ _ x cs => cs = cells x, keep := fun h _ => h, more := fun h _ => h, weak := fun h _ => h, len := fun h' => by subst h'; exact h _ }

def intC : Cod Int := flat 1 (fun x => [.int .i64 x]) fun _ => rfl
def didC : Cod GDid := flat 2 GDid.cells fun _ => rfl
def itemC : Cod GItem := flat 3 GItem.cells fun _ => rfl

/-- The data xs lie behind the address A. -/
def Rows {α : Type} (C : Cod α) (m : Option Nat) (w : World) (B : Nat) (A : Option Addr) (xs : List α) : Prop :=
  xs.length ≤ 9223372036854775807 ∧ (0 < xs.length → ∃ b off, A = some ⟨b, off, none⟩ ∧ okB m w B b ∧ ∀ j x, xs[j]? = some x → ∃ cs, C.R m w B x cs ∧ ∀ i u, cs[i]? = some u → w.cell? ⟨b, off + j * C.k + i, none⟩ = some u)

section
variable {α : Type} {C : Cod α} {m m' : Option Nat} {w w' : World} {B B' : Nat} {A : Option Addr} {xs : List α}
theorem Rows.nil : Rows C m w B A [] := ⟨by simp, fun h => absurd h (by simp)⟩
theorem Rows.keep (h : Rows C m w B A xs) (ha : Agree m B w w') : Rows C m w' B A xs :=
  ⟨h.1, fun hl => by
    obtain ⟨b, off, hA, hB, hc⟩ := h.2 hl
    refine ⟨b, off, hA, hB.keep ha, fun j x hx => ?_⟩
    obtain ⟨cs, hR, hcs⟩ := hc j x hx
    exact ⟨cs, C.keep hR ha, fun i u hu => (hB.cell ha _).trans (hcs i u hu)⟩⟩
theorem Rows.more (h : Rows C m w B A xs) (hB : B ≤ B') : Rows C m w B' A xs :=
  ⟨h.1, fun hl => by
    obtain ⟨b, off, hA, hb, hc⟩ := h.2 hl
    refine ⟨b, off, hA, hb.more hB, fun j x hx => ?_⟩
    obtain ⟨cs, hR, hcs⟩ := hc j x hx
    exact ⟨cs, C.more hR hB, hcs⟩⟩
theorem Rows.weak (h : Rows C m w B A xs) (hm : Weaker m m') : Rows C m' w B A xs :=
  ⟨h.1, fun hl => by
    obtain ⟨b, off, hA, hb, hc⟩ := h.2 hl
    refine ⟨b, off, hA, hb.weak hm, fun j x hx => ?_⟩
    obtain ⟨cs, hR, hcs⟩ := hc j x hx
    exact ⟨cs, C.weak hR hm, hcs⟩⟩
theorem Rows.below (h : Rows C m w B A xs) (hb : Below B w w') : Rows C m w' B A xs := h.keep (Agree.of_below hb)
theorem Rows.later (h : Rows C m w w.heap.size A xs) (hb : Below w.heap.size w w') : Rows C m w' w'.heap.size A xs := (h.below hb).more hb.size
/-- Behind a store into an older block, and whatever leaves all that lay as it was. -/
theorem Rows.next {lo : Nat} {p : Addr} {u : Value} (h : Rows C (some lo) w w.heap.size A xs) (hp : p.block < lo) (hb : Below (w.setCell p u).heap.size (w.setCell p u) w') : Rows C (some lo) w' w'.heap.size A xs := by
  have h1 : Rows C (some lo) (w.setCell p u) (w.setCell p u).heap.size A xs := (h.keep (Agree.setCell hp u)).more (by simp [World.setCell])
  exact h1.later hb
theorem Rows.at_ (h : Rows C m w B A xs) {j : Nat} (hj : j < xs.length) :
    ∃ b off cs, A = some ⟨b, off, none⟩ ∧ okB m w B b ∧ C.R m w B xs[j] cs ∧ ∀ i u, cs[i]? = some u → w.cell? ⟨b, off + j * C.k + i, none⟩ = some u := by
  obtain ⟨b, off, hA, hb, hc⟩ := h.2 (by omega)
  obtain ⟨cs, hR, hcs⟩ := hc j _ (List.getElem?_eq_getElem hj)
  exact ⟨b, off, cs, hA, hb, hR, hcs⟩
end

section
variable {m : Option Nat} {w : World} {B : Nat} {A : Option Addr}
theorem Rows.ints {xs : List Int} (h : Rows intC m w B A xs) : Ints w B A xs :=
  ⟨h.1, fun hl => by
    obtain ⟨b, off, hA, hb, hc⟩ := h.2 hl
    refine ⟨b, off, hA, hb.1, fun j x hx => ?_⟩
    obtain ⟨cs, hR, hcs⟩ := hc j x hx
    have h1 := hcs 0 (.int .i64 x) (by rw [show cs = [.int .i64 x] from hR]; rfl)
    rw [show off + j * intC.k + 0 = off + j from by show off + j * 1 + 0 = off + j; omega] at h1
    exact h1⟩
theorem Ints.rows {xs : List Int} (h : Ints w B A xs) : Rows intC none w B A xs :=
  ⟨h.1, fun hl => by
    obtain ⟨b, off, hA, hb, hc⟩ := h.2 hl
    refine ⟨b, off, hA, ⟨hb, fun _ h => by cases h⟩, fun j x hx => ⟨_, rfl, fun i u hu => ?_⟩⟩
    match i, hu with
    | 0, hu =>
      simp only [List.getElem?_cons_zero, Option.some.injEq] at hu
      subst hu
      rw [show off + j * intC.k + 0 = off + j from by show off + j * 1 + 0 = off + j; omega]
      exact hc j x hx
    | i + 1, hu => simp at hu⟩
theorem Wr.rows {xs : List Int} {g lo : Nat} {t : TypeId} (h : Wr w g t (iv xs)) (hl : xs.length ≤ 9223372036854775807) (hlo : lo ≤ g) (hB : g < B) : Rows intC (some lo) w B (some ⟨g, 0, none⟩) xs :=
  ⟨hl, fun _ => ⟨g, 0, rfl, ⟨hB, fun l h' => by
      cases h'
      obtain ⟨cur, h1, _⟩ := h
      exact ⟨hlo, cur, t, h1⟩⟩, fun j x hx => ⟨_, rfl, fun i u hu => by
    match i, hu with
    | 0, hu =>
      simp only [List.getElem?_cons_zero, Option.some.injEq] at hu
      subst hu
      rw [show 0 + j * intC.k + 0 = j from by show 0 + j * 1 + 0 = j; omega]
      exact h.cell (iv_get hx)
    | i + 1, hu => simp at hu⟩⟩⟩
theorem did_at {xs : List GDid} (h : Rows didC m w B A xs) {j : Nat} (hj : j < xs.length) :
    ∃ b off, A = some ⟨b, off, none⟩ ∧ b < B ∧ w.cell? ⟨b, off + j * 2, none⟩ = some (.int .i64 xs[j].task) ∧ w.cell? ⟨b, off + j * 2 + 1, none⟩ = some (.int .i64 xs[j].who) := by
  obtain ⟨b, off, cs, hA, hb, hR, hc⟩ := h.at_ hj
  obtain rfl : cs = xs[j].cells := hR
  exact ⟨b, off, hA, hb.1, hc 0 _ rfl, hc 1 _ rfl⟩
theorem item_at {xs : List GItem} (h : Rows itemC m w B A xs) {j : Nat} (hj : j < xs.length) :
    ∃ b off, A = some ⟨b, off, none⟩ ∧ b < B ∧ w.cell? ⟨b, off + j * 3, none⟩ = some (.int .i64 xs[j].task) ∧ w.cell? ⟨b, off + j * 3 + 1, none⟩ = some (.int .i64 xs[j].who) ∧ w.cell? ⟨b, off + j * 3 + 2, none⟩ = some (.int .i64 xs[j].did) := by
  obtain ⟨b, off, cs, hA, hb, hR, hc⟩ := h.at_ hj
  obtain rfl : cs = xs[j].cells := hR
  exact ⟨b, off, hA, hb.1, hc 0 _ rfl, hc 1 _ rfl, hc 2 _ rfl⟩
end
/-- Block g holds just the cells cs of type t, none frozen. -/
def Bk (w : World) (g : Nat) (t : TypeId) (cs : Array Value) : Prop := w.heap[g]? = some (.cells cs t (0, 0))
section
variable {w w' : World} {g : Nat} {t : TypeId} {cs : Array Value}
theorem Bk.lt (h : Bk w g t cs) : g < w.heap.size := (Array.getElem?_eq_some_iff.1 h).1
theorem Bk.cell (h : Bk w g t cs) (i : Nat) : w.cell? ⟨g, i, none⟩ = cs[i]? := cell_of_row w g i cs t (0, 0) h
theorem Bk.frozen (h : Bk w g t cs) (i : Nat) : w.frozen? ⟨g, i, none⟩ = false := frozen_of_row w g i cs t h
theorem Bk.new {w : World} {t : TypeId} {cs : Array Value} (hg : g = w.heap.size) : Bk (w.alloc (.cells cs t)) g t cs := by subst hg; exact heap_alloc_new w _
theorem Bk.alloc (h : Bk w g t cs) (o : Obj) : Bk (w.alloc o) g t cs := (Below.heap_alloc w o g h.lt).trans h
theorem Bk.set (h : Bk w g t cs) (i : Nat) (u : Value) : Bk (w.setCell ⟨g, i, none⟩ u) g t (cs.setIfInBounds i u) := heap_setCell_same w g i cs t u h
theorem Bk.far (h : Bk w g t cs) {p : Addr} (hp : g ≠ p.block) (u : Value) : Bk (w.setCell p u) g t cs := (Below.heap_setCell w p u g hp).trans h
theorem Bk.later (h : Bk w g t cs) (hb : Below w.heap.size w w') : Bk w' g t cs := (hb.block g h.lt).trans h
theorem Bk.drewN (h : Bk w g t cs) (n : Nat) : Bk (w.drewN n) g t cs := h
theorem Bk.drew (h : Bk w g t cs) : Bk w.drew g t cs := h
end
/-- The world at a call under a name of its own. -/
theorem callsAt {f : FuncId} {args : Array Value} {w : World} {Q : Ending → World → Prop} (h : ∀ W, W = w → Calls Try.prog f args W Q) : Calls Try.prog f args w Q := h w rfl

theorem Agree.refl (m : Option Nat) (B : Nat) (w : World) : Agree m B w w := fun _ _ _ => rfl
theorem Agree.set {lo B : Nat} {w w1 : World} (h : Agree (some lo) B w w1) {p : Addr} (hp : p.block < lo) (u : Value) : Agree (some lo) B w (w1.setCell p u) :=
  fun b hb hl => (Below.heap_setCell w1 p u b (by have := hl lo rfl; omega)).trans (h b hb hl)
/-- All old cells and all old marks read as before. -/
theorem bcell {W w1 : World} (hb : Below W.heap.size W w1) : (∀ b o, b < W.heap.size → w1.cell? ⟨b, o, none⟩ = W.cell? ⟨b, o, none⟩) ∧ (∀ b o, b < W.heap.size → w1.frozen? ⟨b, o, none⟩ = W.frozen? ⟨b, o, none⟩) :=
  ⟨fun b o h => hb.cell (p := ⟨b, o, none⟩) h, fun b o h => hb.frozen (p := ⟨b, o, none⟩) h⟩

/-- Copying a struct: a new one that reads as the same, in memory of its own. -/
def MadeR {α : Type} (C : Cod α) (x : α) (w : World) (e : Ending) (w' : World) : Prop :=
  ∃ cs, e = .returned (.agg cs.toArray) ∧ C.R (some w.heap.size) w' w'.heap.size x cs ∧ Below w.heap.size w w'
theorem madeAt {α : Type} {C : Cod α} {x : α} {w : World} {e : Ending} {w' : World} (h : ∀ W, W = w' → MadeR C x w e W) : MadeR C x w e w' := h w' rfl
end Go.Proofs.Ytjieilicjdoaaaa
