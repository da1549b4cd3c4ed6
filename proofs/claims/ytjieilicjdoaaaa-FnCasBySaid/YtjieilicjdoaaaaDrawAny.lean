/- A net drawn, one in so many with something wrong: l20AnyNet. -/
import Derived.Test.YtjieilicjdoaaaaDrawNet
import Derived.Test.YtjieilicjdoaaaaGBase
import Derived.Test.YtjieilicjdoaaaaGCopy
import Derived.Test.YtjieilicjdoaaaaGFir
import Derived.Deep.RegionHeld3
namespace Go.Proofs.Ytjieilicjdoaaaa
open Go.RowKit
open List renaming getElem_toArray → sA, getElem_cons_succ → sB, getElem_cons_zero → sC, setIfInBounds_toArray → sD, set_cons_zero → sE, set_cons_succ → sF
set_option linter.unusedSimpArgs false
set_option linter.unusedVariables false

def taskSmall (t : GTask) : Prop := t.inn.length ≤ 10 ∧ t.out.length ≤ 10 ∧ t.clear.length ≤ 10 ∧ t.need ≤ 100
def anyOk (x : GNet) : Prop := 1 ≤ x.tasks.length ∧ x.tasks.length ≤ 6 ∧ 0 ≤ x.places ∧ x.places ≤ 9 ∧ ∀ t ∈ x.tasks, taskSmall t
theorem task_small {t : GTask} {places tasks : Int} (h : taskOk t places tasks = true) (hp : places ≤ 8) : t.inn.length ≤ 3 ∧ t.out.length ≤ 3 ∧ t.clear.length ≤ 8 ∧ t.need ≤ 3 ∧ 1 ≤ t.all ∧ t.all ≤ 3 := by
 unfold taskOk rises flowsOk at h
 simp only [Bool.and_eq_true, inB_iff] at h
 omega
theorem netOk_any {x : GNet} (h : netOk x = true) : anyOk x ∧ ∀ t ∈ x.tasks, t.inn.length ≤ 3 ∧ t.out.length ≤ 3 ∧ t.clear.length ≤ 8 ∧ t.need ≤ 3 ∧ 1 ≤ t.all ∧ t.all ≤ 3 := by
 unfold netOk at h
 simp only [Bool.and_eq_true, inB_iff, List.all_eq_true] at h
 have ht : ∀ t ∈ x.tasks, t.inn.length ≤ 3 ∧ t.out.length ≤ 3 ∧ t.clear.length ≤ 8 ∧ t.need ≤ 3 ∧ 1 ≤ t.all ∧ t.all ≤ 3 := fun t hm => task_small (h.2.2 t hm) (by omega)
 refine ⟨⟨by omega, by omega, by omega, by omega, fun t hm => ?_⟩, ht⟩
 have := ht t hm
 unfold taskSmall
 omega

theorem anyOk.put {x : GNet} (h : anyOk x) (k : Nat) (y : GTask) (hy : taskSmall y) : anyOk ⟨x.places, x.tasks.set k y⟩ := by
 obtain ⟨h1, h2, h3, h4, h5⟩ := h
 exact ⟨by simpa using h1, by simpa using h2, h3, h4, fun t ht => by
  rcases List.mem_or_eq_of_mem_set ht with h6 | h6
  ·
   exact h5 t h6
  ·
   rw [h6]; exact hy⟩

/-- While a net is spoilt: the result's cell N, the net E, the task T, the tasks' block g; the task's slices are as they were. -/
structure AnySt (R : Nat) (w0 : World) (N E T P g c : Nat) (A1 : Option Addr) (c1 : Nat) (A2 : Option Addr) (c2 : Nat) (A3 : Option Addr) (c3 : Nat) (x : GNet) (y : GTask) (W : World) : Prop where
 bN : Bk W N 75 #[.int .i64 0, .slice none 0 0]
 bE : Bk W E 75 #[.int .i64 x.places, .slice (some ⟨g, 0, none⟩) x.tasks.length c]
 bT : Bk W T 99 #[.int .i64 y.join, .int .i64 y.split, .slice A1 y.inn.length c1, .slice A2 y.out.length c2, .slice A3 y.clear.length c3, .int .i64 y.role, .int .i64 y.apart, .int .i64 y.all, .int .i64 y.need]
 rd : RdB W R P
 tu : Turned R w0 W
 net : ∃ wt : World, wt.heap.size ≤ T ∧ NetG wt (N + 1) g x.tasks ∧ SlR intC wt (N + 1) g A1 y.inn ∧ SlR flowC wt (N + 1) g A2 y.out ∧ SlR intC wt (N + 1) g A3 y.clear ∧ ∀ b, N + 1 ≤ b → b < T → W.heap[b]? = wt.heap[b]?
 o1 : N < E
 o2 : E < T
 o3 : E ≠ g
 o4 : g < T
/-- What is left of it ahead of the end. -/
structure AnyEnd (R : Nat) (w0 : World) (N E T P g c : Nat) (x : GNet) (y : GTask) (cs : List Value) (W : World) : Prop where
 bN : Bk W N 75 #[.int .i64 0, .slice none 0 0]
 bE : Bk W E 75 #[.int .i64 x.places, .slice (some ⟨g, 0, none⟩) x.tasks.length c]
 bT : Bk W T 99 cs.toArray
 ta : TaskG W (N + 1) g y cs
 net : NetG W (N + 1) g x.tasks
 rd : RdB W R P
 tu : Turned R w0 W
 o1 : N < E
 o3 : E ≠ g
section
variable {R : Nat} {w0 W W' : World} {N E T P Q g c : Nat} {A1 : Option Addr} {c1 : Nat} {A2 : Option Addr} {c2 : Nat} {A3 : Option Addr} {c3 : Nat} {x : GNet} {y : GTask}
theorem AnySt.mono (h : AnySt R w0 N E T P g c A1 c1 A2 c2 A3 c3 x y W) (hq : P ≤ Q) : AnySt R w0 N E T Q g c A1 c1 A2 c2 A3 c3 x y W := { h with rd := h.rd.mono hq }
theorem AnySt.pick (h : AnySt R w0 N E T P g c A1 c1 A2 c2 A3 c3 x y W) (hN : R < N) (hr : RdB W' R Q) (ht : Turned R W W') : AnySt R w0 N E T Q g c A1 c1 A2 c2 A3 c3 x y W' := by
 have o1 := h.o1
 have o2 := h.o2
 have hT := h.bT.lt
 obtain ⟨wt, a, b, d, e, f, k⟩ := h.net
 exact ⟨h.bN.turned ht (by omega), h.bE.turned ht (by omega), h.bT.turned ht (by omega), hr, h.tu.trans ht, ⟨wt, a, b, d, e, f, fun q h1 h2 => (ht.block q (by omega) (by omega)).trans (k q h1 h2)⟩, o1, o2, h.o3, h.o4⟩
theorem AnySt.low (h : AnySt R w0 N E T P g c A1 c1 A2 c2 A3 c3 x y W) (hN : R < N) (h0 : w0.heap.size ≤ N) (hb : Below (T + 1) W W') : AnySt R w0 N E T P g c A1 c1 A2 c2 A3 c3 x y W' := by
 have o1 := h.o1
 have o2 := h.o2
 obtain ⟨wt, a, b, d, e, f, k⟩ := h.net
 exact ⟨(hb.block N (by omega)).trans h.bN, (hb.block E (by omega)).trans h.bE, (hb.block T (by omega)).trans h.bT, h.rd.low hb (by omega), h.tu.trans' (hb.mono (by omega)), ⟨wt, a, b, d, e, f, fun q h1 h2 => (hb.block q (by omega)).trans (k q h1 h2)⟩, o1, o2, h.o3, h.o4⟩
theorem AnySt.turn (h : AnySt R w0 N E T P g c A1 c1 A2 c2 A3 c3 x y W) (hN : R < N) (h0 : w0.heap.size ≤ N) (i : Nat) (u : Value) :
  (Bk (W.setCell ⟨T, i, none⟩ u) N 75 #[.int .i64 0, .slice none 0 0]) ∧ (Bk (W.setCell ⟨T, i, none⟩ u) E 75 #[.int .i64 x.places, .slice (some ⟨g, 0, none⟩) x.tasks.length c]) ∧ RdB (W.setCell ⟨T, i, none⟩ u) R P ∧ Turned R w0 (W.setCell ⟨T, i, none⟩ u) ∧
   (∀ wt : World, (∀ b, N + 1 ≤ b → b < T → W.heap[b]? = wt.heap[b]?) → ∀ b, N + 1 ≤ b → b < T → (W.setCell ⟨T, i, none⟩ u).heap[b]? = wt.heap[b]?) := by
 have o1 := h.o1
 have o2 := h.o2
 exact ⟨h.bN.far (p := ⟨T, i, none⟩) (by show N ≠ T; omega) u, h.bE.far (p := ⟨T, i, none⟩) (by show E ≠ T; omega) u, h.rd.low ((Below.refl T W).setCell (p := ⟨T, i, none⟩) (Nat.le_refl _) u) (by omega), h.tu.trans' ((Below.refl w0.heap.size W).setCell (p := ⟨T, i, none⟩) (by show w0.heap.size ≤ T; omega) u), fun wt k b h1 h2 => (Below.heap_setCell W ⟨T, i, none⟩ u b (by show b ≠ T; omega)).trans (k b h1 h2)⟩
theorem AnySt.join_ (h : AnySt R w0 N E T P g c A1 c1 A2 c2 A3 c3 x y W) (hN : R < N) (h0 : w0.heap.size ≤ N) (z : Int) : AnySt R w0 N E T P g c A1 c1 A2 c2 A3 c3 x { y with «join» := z } (W.setCell ⟨T, 0, none⟩ (.int .i64 z)) := by
 obtain ⟨p1, p2, p3, p4, p5⟩ := h.turn hN h0 0 (.int .i64 z)
 obtain ⟨wt, a, b, d, e, f, k⟩ := h.net
 exact ⟨p1, p2, h.bT.set 0 _, p3, p4, ⟨wt, a, b, d, e, f, p5 wt k⟩, h.o1, h.o2, h.o3, h.o4⟩
theorem AnySt.split_ (h : AnySt R w0 N E T P g c A1 c1 A2 c2 A3 c3 x y W) (hN : R < N) (h0 : w0.heap.size ≤ N) (z : Int) : AnySt R w0 N E T P g c A1 c1 A2 c2 A3 c3 x { y with «split» := z } (W.setCell ⟨T, 1, none⟩ (.int .i64 z)) := by
 obtain ⟨p1, p2, p3, p4, p5⟩ := h.turn hN h0 1 (.int .i64 z)
 obtain ⟨wt, a, b, d, e, f, k⟩ := h.net
 exact ⟨p1, p2, h.bT.set 1 _, p3, p4, ⟨wt, a, b, d, e, f, p5 wt k⟩, h.o1, h.o2, h.o3, h.o4⟩
theorem AnySt.role_ (h : AnySt R w0 N E T P g c A1 c1 A2 c2 A3 c3 x y W) (hN : R < N) (h0 : w0.heap.size ≤ N) (z : Int) : AnySt R w0 N E T P g c A1 c1 A2 c2 A3 c3 x { y with «role» := z } (W.setCell ⟨T, 5, none⟩ (.int .i64 z)) := by
 obtain ⟨p1, p2, p3, p4, p5⟩ := h.turn hN h0 5 (.int .i64 z)
 obtain ⟨wt, a, b, d, e, f, k⟩ := h.net
 exact ⟨p1, p2, h.bT.set 5 _, p3, p4, ⟨wt, a, b, d, e, f, p5 wt k⟩, h.o1, h.o2, h.o3, h.o4⟩
theorem AnySt.apart_ (h : AnySt R w0 N E T P g c A1 c1 A2 c2 A3 c3 x y W) (hN : R < N) (h0 : w0.heap.size ≤ N) (z : Int) : AnySt R w0 N E T P g c A1 c1 A2 c2 A3 c3 x { y with «apart» := z } (W.setCell ⟨T, 6, none⟩ (.int .i64 z)) := by
 obtain ⟨p1, p2, p3, p4, p5⟩ := h.turn hN h0 6 (.int .i64 z)
 obtain ⟨wt, a, b, d, e, f, k⟩ := h.net
 exact ⟨p1, p2, h.bT.set 6 _, p3, p4, ⟨wt, a, b, d, e, f, p5 wt k⟩, h.o1, h.o2, h.o3, h.o4⟩
theorem AnySt.all_ (h : AnySt R w0 N E T P g c A1 c1 A2 c2 A3 c3 x y W) (hN : R < N) (h0 : w0.heap.size ≤ N) (z : Int) : AnySt R w0 N E T P g c A1 c1 A2 c2 A3 c3 x { y with «all» := z } (W.setCell ⟨T, 7, none⟩ (.int .i64 z)) := by
 obtain ⟨p1, p2, p3, p4, p5⟩ := h.turn hN h0 7 (.int .i64 z)
 obtain ⟨wt, a, b, d, e, f, k⟩ := h.net
 exact ⟨p1, p2, h.bT.set 7 _, p3, p4, ⟨wt, a, b, d, e, f, p5 wt k⟩, h.o1, h.o2, h.o3, h.o4⟩
theorem AnySt.need_ (h : AnySt R w0 N E T P g c A1 c1 A2 c2 A3 c3 x y W) (hN : R < N) (h0 : w0.heap.size ≤ N) (z : Int) : AnySt R w0 N E T P g c A1 c1 A2 c2 A3 c3 x { y with «need» := z } (W.setCell ⟨T, 8, none⟩ (.int .i64 z)) := by
 obtain ⟨p1, p2, p3, p4, p5⟩ := h.turn hN h0 8 (.int .i64 z)
 obtain ⟨wt, a, b, d, e, f, k⟩ := h.net
 exact ⟨p1, p2, h.bT.set 8 _, p3, p4, ⟨wt, a, b, d, e, f, p5 wt k⟩, h.o1, h.o2, h.o3, h.o4⟩
theorem AnySt.done (h : AnySt R w0 N E T P g c A1 c1 A2 c2 A3 c3 x y W) :
  AnyEnd R w0 N E T P g c x y [.int .i64 y.join, .int .i64 y.split, .slice A1 y.inn.length c1, .slice A2 y.out.length c2, .slice A3 y.clear.length c3, .int .i64 y.role, .int .i64 y.apart, .int .i64 y.all, .int .i64 y.need] W := by
 have hT := h.bT.lt
 obtain ⟨wt, a, b, d, e, f, k⟩ := h.net
 have hk : ∀ q, N + 1 ≤ q → q < wt.heap.size → W.heap[q]? = wt.heap[q]? := fun q h1 h2 => k q h1 (by omega)
 exact ⟨h.bN, h.bE, h.bT, ⟨A1, c1, A2, c2, A3, c3, rfl, SlR.kept (k := 1) d (by omega) fun q h1 h2 _ => hk q h1 h2, SlR.kept (k := 4) e (by omega) fun q h1 h2 _ => hk q h1 h2, SlR.kept (k := 1) f (by omega) fun q h1 h2 _ => hk q h1 h2⟩, b.kept (by omega) hk, h.rd, h.tu, h.o1, h.o3⟩
/-- One of the task's slices turned: hs says that the new one lies neither in T nor in g. -/
theorem AnySt.inn_ (h : AnySt R w0 N E T P g c A1 c1 A2 c2 A3 c3 x y W) (hN : R < N) (h0 : w0.heap.size ≤ N) {B1 : Option Addr} {d1 : Nat} {xs : List Int} (hs : SlR intC W (N + 1) T B1 xs) (hg : ∀ b off, 0 < xs.length → B1 = some ⟨b, off, none⟩ → b ≠ g) :
  AnyEnd R w0 N E T P g c x { y with «inn» := xs } [.int .i64 y.join, .int .i64 y.split, .slice B1 xs.length d1, .slice A2 y.out.length c2, .slice A3 y.clear.length c3, .int .i64 y.role, .int .i64 y.apart, .int .i64 y.all, .int .i64 y.need] (W.setCell ⟨T, 2, none⟩ (.slice B1 xs.length d1)) := by
 have hT := h.bT.lt
 obtain ⟨p1, p2, p3, p4, p5⟩ := h.turn hN h0 2 (.slice B1 xs.length d1)
 obtain ⟨wt, a, b, d, e, f, k⟩ := h.net
 have hsz : (W.setCell ⟨T, 2, none⟩ (.slice B1 xs.length d1)).heap.size = W.heap.size := by simp [World.setCell]
 have hk : ∀ q, N + 1 ≤ q → q < wt.heap.size → (W.setCell ⟨T, 2, none⟩ (.slice B1 xs.length d1)).heap[q]? = wt.heap[q]? := fun q h1 h2 => p5 wt k q h1 (by omega)
 have hs' : SlR intC (W.setCell ⟨T, 2, none⟩ (.slice B1 xs.length d1)) (N + 1) g B1 xs := ⟨(SlR.kept (k := 1) hs (by rw [hsz]; exact Nat.le_refl _) fun q _ _ hq => Below.heap_setCell W ⟨T, 2, none⟩ _ q hq).1, hg⟩
 exact ⟨p1, p2, h.bT.set 2 _, ⟨B1, d1, A2, c2, A3, c3, rfl, hs', SlR.kept (k := 4) e (by rw [hsz]; omega) fun q h1 h2 _ => hk q h1 h2, SlR.kept (k := 1) f (by rw [hsz]; omega) fun q h1 h2 _ => hk q h1 h2⟩, b.kept (by rw [hsz]; omega) hk, p3, p4, h.o1, h.o3⟩
/-- One of the task's slices turned: hs says that the new one lies neither in T nor in g. -/
theorem AnySt.out_ (h : AnySt R w0 N E T P g c A1 c1 A2 c2 A3 c3 x y W) (hN : R < N) (h0 : w0.heap.size ≤ N) {B1 : Option Addr} {d1 : Nat} {xs : List GFlow} (hs : SlR flowC W (N + 1) T B1 xs) (hg : ∀ b off, 0 < xs.length → B1 = some ⟨b, off, none⟩ → b ≠ g) :
  AnyEnd R w0 N E T P g c x { y with «out» := xs } [.int .i64 y.join, .int .i64 y.split, .slice A1 y.inn.length c1, .slice B1 xs.length d1, .slice A3 y.clear.length c3, .int .i64 y.role, .int .i64 y.apart, .int .i64 y.all, .int .i64 y.need] (W.setCell ⟨T, 3, none⟩ (.slice B1 xs.length d1)) := by
 have hT := h.bT.lt
 obtain ⟨p1, p2, p3, p4, p5⟩ := h.turn hN h0 3 (.slice B1 xs.length d1)
 obtain ⟨wt, a, b, d, e, f, k⟩ := h.net
 have hsz : (W.setCell ⟨T, 3, none⟩ (.slice B1 xs.length d1)).heap.size = W.heap.size := by simp [World.setCell]
 have hk : ∀ q, N + 1 ≤ q → q < wt.heap.size → (W.setCell ⟨T, 3, none⟩ (.slice B1 xs.length d1)).heap[q]? = wt.heap[q]? := fun q h1 h2 => p5 wt k q h1 (by omega)
 have hs' : SlR flowC (W.setCell ⟨T, 3, none⟩ (.slice B1 xs.length d1)) (N + 1) g B1 xs := ⟨(SlR.kept (k := 4) hs (by rw [hsz]; exact Nat.le_refl _) fun q _ _ hq => Below.heap_setCell W ⟨T, 3, none⟩ _ q hq).1, hg⟩
 exact ⟨p1, p2, h.bT.set 3 _, ⟨A1, c1, B1, d1, A3, c3, rfl, SlR.kept (k := 1) d (by rw [hsz]; omega) fun q h1 h2 _ => hk q h1 h2, hs', SlR.kept (k := 1) f (by rw [hsz]; omega) fun q h1 h2 _ => hk q h1 h2⟩, b.kept (by rw [hsz]; omega) hk, p3, p4, h.o1, h.o3⟩
/-- One of the task's slices turned: hs says that the new one lies neither in T nor in g. -/
theorem AnySt.clear_ (h : AnySt R w0 N E T P g c A1 c1 A2 c2 A3 c3 x y W) (hN : R < N) (h0 : w0.heap.size ≤ N) {B1 : Option Addr} {d1 : Nat} {xs : List Int} (hs : SlR intC W (N + 1) T B1 xs) (hg : ∀ b off, 0 < xs.length → B1 = some ⟨b, off, none⟩ → b ≠ g) :
  AnyEnd R w0 N E T P g c x { y with «clear» := xs } [.int .i64 y.join, .int .i64 y.split, .slice A1 y.inn.length c1, .slice A2 y.out.length c2, .slice B1 xs.length d1, .int .i64 y.role, .int .i64 y.apart, .int .i64 y.all, .int .i64 y.need] (W.setCell ⟨T, 4, none⟩ (.slice B1 xs.length d1)) := by
 have hT := h.bT.lt
 obtain ⟨p1, p2, p3, p4, p5⟩ := h.turn hN h0 4 (.slice B1 xs.length d1)
 obtain ⟨wt, a, b, d, e, f, k⟩ := h.net
 have hsz : (W.setCell ⟨T, 4, none⟩ (.slice B1 xs.length d1)).heap.size = W.heap.size := by simp [World.setCell]
 have hk : ∀ q, N + 1 ≤ q → q < wt.heap.size → (W.setCell ⟨T, 4, none⟩ (.slice B1 xs.length d1)).heap[q]? = wt.heap[q]? := fun q h1 h2 => p5 wt k q h1 (by omega)
 have hs' : SlR intC (W.setCell ⟨T, 4, none⟩ (.slice B1 xs.length d1)) (N + 1) g B1 xs := ⟨(SlR.kept (k := 1) hs (by rw [hsz]; exact Nat.le_refl _) fun q _ _ hq => Below.heap_setCell W ⟨T, 4, none⟩ _ q hq).1, hg⟩
 exact ⟨p1, p2, h.bT.set 4 _, ⟨A1, c1, A2, c2, B1, d1, rfl, SlR.kept (k := 1) d (by rw [hsz]; omega) fun q h1 h2 _ => hk q h1 h2, SlR.kept (k := 4) e (by rw [hsz]; omega) fun q h1 h2 _ => hk q h1 h2, hs'⟩, b.kept (by rw [hsz]; omega) hk, p3, p4, h.o1, h.o3⟩
end

set_option maxRecDepth 100000 in
set_option maxHeartbeats 8000000 in
theorem l20AnyNet (R P : Nat) (n : Int) (w : World) (h : RdB w R P) (hP : P ≤ 600000) (hn : n ≤ 1000) :
  Calls Try.prog 63 #[.pointer (some ⟨R, 0, none⟩), .int .i64 n] w (DrawnG R (P + 400) anyOk w) := by
 have HR := Lib.hid h
 have hR := h.lt
 clear h
 go_enter Try.func63, Try.ntmps63
 go_wp2_with fail
 refine callsAt fun W hW => ?_
 have bN : Bk W w.heap.size 75 #[.int .i64 0, .slice none 0 0] := by rw [hW]; exact Bk.new rfl
 have hB : Below w.heap.size w W := by rw [hW]; exact (Below.refl _ _).alloc (Nat.le_refl _) _
 have hWs : W.heap.size = w.heap.size + 1 := by rw [hW]; simp
 clear hW
 refine (l20Net R P W (HR.out.low hB hR) (by omega)).mono ?_
 rintro e w1 ⟨x, g, c, rfl, hng, hok, hr1, ht1⟩
 obtain ⟨hany, hsm⟩ := netOk_any hok
 have HOK := Lib.hid hany
 have HSM := Lib.hid hsm
 obtain ⟨hx1, hx6, _, _, _⟩ := hany
 have HG := Lib.hid (hng.low (by omega : w.heap.size + 1 ≤ W.heap.size))
 have HN := Lib.hid (bN.turned ht1 (by omega))
 have HT := Lib.hid ((Turned.of_below hB).trans ht1)
 have HRD := Lib.hid hr1
 have hN1 := HN.out.lt
 have hg1 := HG.out.lt
 clear bN hB hWs hng hr1 ht1 hok hsm
 go_wp2_with fail
 refine callsAt fun V hV => ?_
 have S2 : Hid (NtSt R w w.heap.size w1.heap.size (P + 300) g c x.tasks.length x V) := by
  show NtSt _ _ _ _ _ _ _ _ _ _
  rw [hV]
  exact ⟨HN.out.alloc _, Bk.new rfl, HG.out.later ((Below.refl _ _).alloc (Nat.le_refl _) _), HRD.out.grown ((Below.refl _ _).alloc (Nat.le_refl _) _), HT.out.alloc _, by omega, hN1⟩
 have KV0 : Hid (∀ b, b < w1.heap.size → V.heap[b]? = w1.heap[b]?) := fun b hb => by rw [hV]; exact Below.heap_alloc _ _ _ hb
 clear hV HN HT HRD
 have KV : Hid (∀ b, b < w1.heap.size → V.heap[b]? = w1.heap[b]?) := KV0.out
 clear KV0
 generalize hEE : w1.heap.size = E at S2 hN1 hg1 KV ⊢
 have HEE := Lib.hid hEE
 clear hEE
 refine (l20Rd_pick R _ n _ S2.out.rd (by omega) (by omega)).mono ?_
 rintro e w2 ⟨v2, rfl, hv2, hu2, _, hr2, ht2⟩
 have S3 := Lib.hid (S2.out.pick hR hr2 ht2)
 have hEV := S2.out.lt
 have K2 : Hid (∀ b, w.heap.size + 1 ≤ b → b < E → w2.heap[b]? = w1.heap[b]?) := fun b h1 h2 => (ht2.block b (by omega) (by omega)).trans (KV.out b (by have := HEE.out; omega))
 clear hr2 ht2 S2 hu2
 by_cases h2 : 0 < v2
 ·
  have kE := fun i => S3.out.2.1.cell i
  have kN := fun i => S3.out.1.cell i
  have fN := fun i => S3.out.1.frozen i
  go_wp2
  generalize hV2 : (World.setCell (World.setCell w2 _ _) _ _) = V2
  have bV : Bk V2 w.heap.size 75 #[.int .i64 x.places, .slice (some ⟨g, 0, none⟩) x.tasks.length c] := by rw [← hV2]; exact (S3.out.1.set 0 _).set 1 _
  have hbl : ∀ b, w.heap.size + 1 ≤ b → V2.heap[b]? = w2.heap[b]? := fun b hb => by
   rw [← hV2]
   exact (Below.heap_setCell _ ⟨w.heap.size, 1, none⟩ _ b (by show b ≠ w.heap.size; omega)).trans (Below.heap_setCell _ ⟨w.heap.size, 0, none⟩ _ b (by show b ≠ w.heap.size; omega))
  have hsz : V2.heap.size = w2.heap.size := by rw [← hV2]; simp [World.setCell]
  have gV := (S3.out.2.2.1.kept (by rw [hsz]; exact Nat.le_refl _) fun b h1 _ => hbl b h1).low (Nat.le_succ w.heap.size)
  have tV : Turned R w V2 := by rw [← hV2]; exact S3.out.2.2.2.2.1.trans' (((Below.refl _ _).setCell (p := ⟨w.heap.size, 0, none⟩) (Nat.le_refl _) _).setCell (p := ⟨w.heap.size, 1, none⟩) (Nat.le_refl _) _)
  have rV : RdB V2 R (P + 400) := by rw [← hV2]; exact (S3.out.rd.low (((Below.refl w.heap.size _).setCell (p := ⟨w.heap.size, 0, none⟩) (Nat.le_refl _) _).setCell (p := ⟨w.heap.size, 1, none⟩) (Nat.le_refl _) _) hR).mono (by omega)
  clear hV2 kE kN fN hbl hsz
  have k1 := fun i => bV.cell i
  refine bodyPost_ret (v := .agg #[.int .i64 x.places, .slice (some ⟨g, 0, none⟩) x.tasks.length c]) (by simp [results, Try.results63, go_sem, k1]) rfl ?_
  exact ⟨x, g, c, rfl, gV, HOK.out, rV, tV⟩
 go_wp2_with fail
 refine (l20Rd_pick R _ 6 _ S3.out.rd (by omega) (by omega)).mono ?_
 rintro e w3 ⟨v3, rfl, hv3, hu3, _, hr3, ht3⟩
 have S4 := Lib.hid (S3.out.pick hR hr3 ht3)
 have hE2 := S3.out.lt
 have K3 : Hid (∀ b, w.heap.size + 1 ≤ b → b < E → w3.heap[b]? = w1.heap[b]?) := fun b h1 h2 => (ht3.block b (by omega) (by omega)).trans (K2.out b h1 h2)
 clear hr3 ht3 S3 hu3 h2
 by_cases h3 : v3 = 0
 ·
  subst h3
  go_wp2_with fail
  refine callsAt fun V hV => ?_
  have bL : Bk V w3.heap.size 3 (iv [1, 2, 9]).toArray := by rw [hV]; exact Bk.new rfl
  have hbV : Below w3.heap.size w3 V := by rw [hV]; exact (Below.refl _ _).alloc (Nat.le_refl _) _
  clear hV
  have SV := Lib.hid (S4.out.more hbV)
  have hR3 : R < w3.heap.size := by have := S4.out.lt; omega
  refine (l20Rd_pick R _ 3 _ SV.out.rd (by omega) (by omega)).mono ?_
  rintro e w5 ⟨v5, rfl, hv5, hu5, _, hr5, ht5⟩
  obtain ⟨k5, rfl⟩ := Int.eq_ofNat_of_zero_le hv5
  have hk5 : (k5 : Int) < 3 := by have := hu5 (by omega); omega
  have S5 := Lib.hid (SV.out.pick hR hr5 ht5)
  have hE3 := S4.out.lt
  have hEV5 := SV.out.lt
  have K5 : Hid (∀ b, w.heap.size + 1 ≤ b → b < E → w5.heap[b]? = w1.heap[b]?) := fun b h1 h2 => (ht5.block b (by omega) (by omega)).trans ((hbV.block b (by omega)).trans (K3.out b h1 h2))
  obtain ⟨z5, hz5, hz50, hz59⟩ : ∃ z : Int, w5.cell? ⟨w3.heap.size, k5, none⟩ = some (.int .i64 z) ∧ 0 ≤ z ∧ z ≤ 9 := by
   have hb := (bL.turned ht5 (by omega)).cell k5
   rcases (by omega : k5 = 0 ∨ k5 = 1 ∨ k5 = 2) with rfl | rfl | rfl
   ·
    exact ⟨1, hb, by omega, by omega⟩
   ·
    exact ⟨2, hb, by omega, by omega⟩
   ·
    exact ⟨9, hb, by omega, by omega⟩
  clear hr5 ht5 SV bL hbV S4 hu5
  have kE := fun i => S5.out.2.1.cell i
  have fE := fun i => S5.out.2.1.frozen i
  go_upto_region 6 with fail
  clear kE fE hz5
  generalize hV : World.setCell w5 _ _ = V6
  obtain ⟨y, hy⟩ : ∃ y : GNet, y = ⟨z5, x.tasks⟩ := ⟨_, rfl⟩
  have S6 : Hid (NtSt R w w.heap.size E (P + 304) g c x.tasks.length y V6) := by
   show NtSt _ _ _ _ _ _ _ _ _ _
   obtain ⟨h1, h2, h3, h4, h5, h6, h7⟩ := S5.out
   have hng : NetG (w5.setCell ⟨E, 0, none⟩ (.int .i64 z5)) (w.heap.size + 1) g x.tasks := by
    have hl5 := S5.out.lt
    refine HG.out.kept (by have := HEE.out; simp [World.setCell]; omega) fun b q1 q2 => ?_
    have := HEE.out
    exact (Below.heap_setCell w5 ⟨E, 0, none⟩ _ b (by show b ≠ E; omega)).trans (K5.out b q1 (by omega))
   rw [← hV, hy]
   exact ⟨h1.far (p := ⟨E, 0, none⟩) (by show w.heap.size ≠ E; omega) _, h2.set 0 _, hng, (h4.low ((Below.refl E _).setCell (p := ⟨E, 0, none⟩) (Nat.le_refl _) _) (by omega)).mono (by omega), h5.trans' ((Below.refl w.heap.size _).setCell (p := ⟨E, 0, none⟩) (by show w.heap.size ≤ E; omega) _), h6, h7⟩
  have HOKY : Hid (anyOk y) := by
   show anyOk y
   rw [hy]
   obtain ⟨q1, q2, q3, q4, q5⟩ := HOK.out
   exact ⟨q1, q2, hz50, hz59, q5⟩
  have hyp : y.places = z5 := by rw [hy]
  have hyt : y.tasks = x.tasks := by rw [hy]
  rw [← hyt] at hx1 hx6 S6 ⊢
  clear hV S5 hy
  have kE := fun i => S6.out.2.1.cell i
  have kN := fun i => S6.out.1.cell i
  have fN := fun i => S6.out.1.frozen i
  go_wp2
  generalize hV2 : (World.setCell (World.setCell V6 _ _) _ _) = V2
  have bV : Bk V2 w.heap.size 75 #[.int .i64 z5, .slice (some ⟨g, 0, none⟩) x.tasks.length c] := by rw [← hV2]; exact (S6.out.1.set 0 _).set 1 _
  have hbl : ∀ b, w.heap.size + 1 ≤ b → V2.heap[b]? = V6.heap[b]? := fun b hb => by
   rw [← hV2]
   exact (Below.heap_setCell _ ⟨w.heap.size, 1, none⟩ _ b (by show b ≠ w.heap.size; omega)).trans (Below.heap_setCell _ ⟨w.heap.size, 0, none⟩ _ b (by show b ≠ w.heap.size; omega))
  have hsz : V2.heap.size = V6.heap.size := by rw [← hV2]; simp [World.setCell]
  have gV := (S6.out.2.2.1.kept (by rw [hsz]; exact Nat.le_refl _) fun b h1 _ => hbl b h1).low (Nat.le_succ w.heap.size)
  have tV : Turned R w V2 := by rw [← hV2]; exact S6.out.2.2.2.2.1.trans' (((Below.refl _ _).setCell (p := ⟨w.heap.size, 0, none⟩) (Nat.le_refl _) _).setCell (p := ⟨w.heap.size, 1, none⟩) (Nat.le_refl _) _)
  have rV : RdB V2 R (P + 400) := by rw [← hV2]; exact (S6.out.rd.low (((Below.refl w.heap.size _).setCell (p := ⟨w.heap.size, 0, none⟩) (Nat.le_refl _) _).setCell (p := ⟨w.heap.size, 1, none⟩) (Nat.le_refl _) _) hR).mono (by omega)
  clear hV2 kE kN fN hbl hsz
  have k1 := fun i => bV.cell i
  refine bodyPost_ret (v := .agg #[.int .i64 z5, .slice (some ⟨g, 0, none⟩) x.tasks.length c]) (by simp [results, Try.results63, go_sem, k1]) rfl ?_
  exact ⟨y, g, c, by rw [hyp, hyt], gV, HOKY.out, rV, tV⟩
 have b3 : (v3 == 0) = false := by simp [h3]
 clear h3
 have kE := fun i => S4.out.2.1.cell i
 go_wp2_with fail
 clear kE
 refine (l20Rd_pick R _ (x.tasks.length : Int) _ S4.out.rd (by omega) (by omega)).mono ?_
 rintro e w4 ⟨v4, rfl, hv4, hu4, _, hr4, ht4⟩
 have S5 := Lib.hid (S4.out.pick hR hr4 ht4)
 obtain ⟨k, rfl⟩ := Int.eq_ofNat_of_zero_le hv4
 have hk : k < x.tasks.length := by have := hu4 (by omega); omega
 have hkz : (k : Int) < (x.tasks.length : Int) := by omega
 clear hr4 ht4 S4 hu4 K2 KV HG K3
 obtain ⟨cs, ⟨A1, c1, A2, c2, A3, c3, hcs, s1, s2, s3⟩, hcell⟩ := S5.out.2.2.1.2.2 k hk
 subst hcs
 have hsmall := HSM.out x.tasks[k] (List.getElem_mem hk)
 have e0 := hcell 0 _ rfl
 rw [Nat.add_zero] at e0
 have e1 := hcell 1 _ rfl
 have e2 := hcell 2 _ rfl
 have e3 := hcell 3 _ rfl
 have e4 := hcell 4 _ rfl
 have e5 := hcell 5 _ rfl
 have e6 := hcell 6 _ rfl
 have e7 := hcell 7 _ rfl
 have e8 := hcell 8 _ rfl
 clear hcell HSM
 generalize hyy : x.tasks[k] = y at s1 s2 s3 e0 e1 e2 e3 e4 e5 e6 e7 e8 hsmall
 have HSY := Lib.hid hsmall
 have Z1 := Lib.hid s1
 have Z2 := Lib.hid s2
 have Z3 := Lib.hid s3
 clear s1 s2 s3 hyy hsmall
 have kE := fun i => S5.out.2.1.cell i
 have hE4 := S5.out.lt
 have hg4 := S5.out.2.2.1.lt
 have hgN := S5.out.2.2.1.1
 go_wp2_with fail
 refine callsAt fun V hV => ?_
 have S6 : Hid (AnySt R w w.heap.size E w4.heap.size (P + 303) g c A1 c1 A2 c2 A3 c3 x y V) := by
  have hbV : Below w4.heap.size w4 V := by rw [hV]; exact (Below.refl _ _).alloc (Nat.le_refl _) _
  obtain ⟨p1, p2, p3, p4, p5, p6, p7⟩ := S5.out
  exact ⟨p1.later hbV, p2.later hbV, by rw [hV]; exact Bk.new rfl, (p4.grown hbV).mono (by omega), p5.then hbV, ⟨w4, Nat.le_refl _, p3, Z1.out, Z2.out, Z3.out, fun q _ h2 => hbV.block q h2⟩, p7, hE4, p6, hg4⟩
 clear hV e0 e1 e2 e3 e4 e5 e6 e7 e8 kE S5 Z1 Z2 Z3
 generalize w4.heap.size = T at S6 hE4 hg4 ⊢
 refine (l20Rd_pick R _ 9 _ S6.out.rd (by omega) (by omega)).mono ?_
 rintro e w5 ⟨v5, rfl, hv5, hu5, _, hr5, ht5⟩
 have S7 := Lib.hid (S6.out.pick (by omega) hr5 ht5)
 clear hr5 ht5 S6
 have h59 : v5 < 9 := hu5 (by omega)
 clear hu5
 rcases (by omega : v5 = 0 ∨ v5 = 1 ∨ v5 = 2 ∨ v5 = 3 ∨ v5 = 4 ∨ v5 = 5 ∨ v5 = 6 ∨ v5 = 7 ∨ v5 = 8) with rfl | rfl | rfl | rfl | rfl | rfl | rfl | rfl | rfl
 ·
  go_wp2_with fail
  refine callsAt fun V8 hV => ?_
  have bL : Bk V8 w5.heap.size 3 (iv [0, 4]).toArray := by rw [hV]; exact Bk.new rfl
  have hTl := S7.out.bT.lt
  have SV := Lib.hid (S7.out.low (by omega) (Nat.le_refl _) (by rw [hV]; exact (Below.refl _ _).alloc (by omega) _ : Below (T + 1) w5 V8))
  clear hV
  refine (l20Rd_pick R _ 2 _ SV.out.rd (by omega) (by omega)).mono ?_
  rintro e w8 ⟨v8, rfl, hv8, hu8, _, hr8, ht8⟩
  obtain ⟨q8, rfl⟩ := Int.eq_ofNat_of_zero_le hv8
  have hq8 : (q8 : Int) < 2 := hu8 (by omega)
  have S8 := Lib.hid (SV.out.pick (by omega) hr8 ht8)
  obtain ⟨z, hz⟩ := lit_at (bL.turned ht8 (by omega)) (k := q8) (by simp; omega)
  clear hr8 ht8 SV bL hu8
  have kT := fun i => S8.out.bT.cell i
  have fT := fun i => S8.out.bT.frozen i
  go_upto_region 27 with fail
  have S9 := Lib.hid (S8.out.join_ (by omega) (Nat.le_refl _) z).done
  clear kT fT hz S7
  generalize World.setCell w8 ⟨T, 0, none⟩ (.int .i64 z) = w9 at S9 ⊢
  have LT := S9.out.bT.lt
  have kT := fun i => S9.out.bT.cell i
  have kE := fun i => S9.out.bE.cell i
  have hgl := S9.out.net.lt
  have hfrg := fun i => S9.out.net.frozen i
  have hthere : ∀ q, q < 9 → (w9.cell? ⟨g, k * 9 + q, none⟩).isSome = true := fun q hq => by
   obtain ⟨cs0, a, b⟩ := S9.out.net.2.2 k hk
   rw [b q _ (List.getElem?_eq_getElem (by rw [a.len]; exact hq))]; rfl
  go_upto_region 28 with (refine wpList_store_agg rfl 99 (.tmp 132) (.tmp 131) ?_ g (k * 9) [.int .i64 z, .int .i64 y.split, .slice A1 y.inn.length c1, .slice A2 y.out.length c2, .slice A3 y.clear.length c3, .int .i64 y.role, .int .i64 y.apart, .int .i64 y.all, .int .i64 y.need] ?_ ?_ ?_ ?_ ?_ ?_ ?_; rfl; rfl; rfl; kernel_rfl; exact fun q hq => hthere q (by simpa using hq); exact fun q => hfrg q; simp [Value.oneCell'])
  have NP := Lib.hid (S9.out.net.put hk S9.out.ta)
  obtain ⟨z1, z2⟩ := heap_put [.int .i64 z, .int .i64 y.split, .slice A1 y.inn.length c1, .slice A2 y.out.length c2, .slice A3 y.clear.length c3, .int .i64 y.role, .int .i64 y.apart, .int .i64 y.all, .int .i64 y.need] w9 g (k * 9)
  have bE9 : Bk (putCells w9 g (k * 9) [.int .i64 z, .int .i64 y.split, .slice A1 y.inn.length c1, .slice A2 y.out.length c2, .slice A3 y.clear.length c3, .int .i64 y.role, .int .i64 y.apart, .int .i64 y.all, .int .i64 y.need]) E 75 _ := (z2 E S9.out.o3).trans S9.out.bE
  have hgN9 : w.heap.size + 1 ≤ g := S9.out.net.1
  have bN9 : Bk (putCells w9 g (k * 9) [.int .i64 z, .int .i64 y.split, .slice A1 y.inn.length c1, .slice A2 y.out.length c2, .slice A3 y.clear.length c3, .int .i64 y.role, .int .i64 y.apart, .int .i64 y.all, .int .i64 y.need]) w.heap.size 75 _ := (z2 w.heap.size (by omega)).trans S9.out.bN
  have hB9 : Below g w9 (putCells w9 g (k * 9) [.int .i64 z, .int .i64 y.split, .slice A1 y.inn.length c1, .slice A2 y.out.length c2, .slice A3 y.clear.length c3, .int .i64 y.role, .int .i64 y.apart, .int .i64 y.all, .int .i64 y.need]) := bPut _ _ (Below.refl _ _) (Nat.le_refl _)
  have T9 := Lib.hid (S9.out.tu.trans' (hB9.mono (by omega)))
  have R9 := Lib.hid (S9.out.rd.low hB9 (by omega))
  clear kT kE hfrg hthere hB9
  generalize putCells w9 g (k * 9) [.int .i64 z, .int .i64 y.split, .slice A1 y.inn.length c1, .slice A2 y.out.length c2, .slice A3 y.clear.length c3, .int .i64 y.role, .int .i64 y.apart, .int .i64 y.all, .int .i64 y.need] = W9 at NP z1 bE9 bN9 T9 R9 ⊢
  have HNP := Lib.hid NP.out
  have kE := fun i => bE9.cell i
  have kN := fun i => bN9.cell i
  have fN := fun i => bN9.frozen i
  have HBN := Lib.hid bN9
  go_wp2
  generalize hV2 : (World.setCell (World.setCell W9 _ _) _ _) = V2
  have bV : Bk V2 w.heap.size 75 #[.int .i64 x.places, .slice (some ⟨g, 0, none⟩) x.tasks.length c] := by rw [← hV2]; exact (HBN.out.set 0 _).set 1 _
  have hbl : ∀ b, w.heap.size + 1 ≤ b → V2.heap[b]? = W9.heap[b]? := fun b hb => by
   rw [← hV2]
   exact (Below.heap_setCell _ ⟨w.heap.size, 1, none⟩ _ b (by show b ≠ w.heap.size; omega)).trans (Below.heap_setCell _ ⟨w.heap.size, 0, none⟩ _ b (by show b ≠ w.heap.size; omega))
  have hsz : V2.heap.size = W9.heap.size := by rw [← hV2]; simp [World.setCell]
  have gV := (HNP.out.kept (by rw [hsz]; exact Nat.le_refl _) fun b h1 _ => hbl b h1).low (Nat.le_succ w.heap.size)
  have tV : Turned R w V2 := by rw [← hV2]; exact T9.out.trans' (((Below.refl _ _).setCell (p := ⟨w.heap.size, 0, none⟩) (Nat.le_refl _) _).setCell (p := ⟨w.heap.size, 1, none⟩) (Nat.le_refl _) _)
  have rV : RdB V2 R (P + 400) := by rw [← hV2]; exact (R9.out.low (((Below.refl w.heap.size _).setCell (p := ⟨w.heap.size, 0, none⟩) (Nat.le_refl _) _).setCell (p := ⟨w.heap.size, 1, none⟩) (Nat.le_refl _) _) hR).mono (by omega)
  clear hV2 kE kN fN hbl hsz z1 z2 bE9 bN9
  have k1 := fun i => bV.cell i
  refine bodyPost_ret (v := .agg #[.int .i64 x.places, .slice (some ⟨g, 0, none⟩) x.tasks.length c]) (by simp [results, Try.results63, go_sem, k1]) rfl ?_
  exact ⟨⟨x.places, x.tasks.set k { y with «join» := z }⟩, g, c, by simp, gV, HOK.out.put k { y with «join» := z } (by obtain ⟨q1, q2, q3, q4, _⟩ := HSY.out; exact ⟨by show y.inn.length ≤ 10; omega, by show y.out.length ≤ 10; omega, by show y.clear.length ≤ 10; omega, by show y.need ≤ 100; omega⟩), rV, tV⟩
 ·
  go_wp2_with fail
  refine callsAt fun V8 hV => ?_
  have bL : Bk V8 w5.heap.size 3 (iv [0, 4, 1, 2]).toArray := by rw [hV]; exact Bk.new rfl
  have hTl := S7.out.bT.lt
  have SV := Lib.hid (S7.out.low (by omega) (Nat.le_refl _) (by rw [hV]; exact (Below.refl _ _).alloc (by omega) _ : Below (T + 1) w5 V8))
  clear hV
  refine (l20Rd_pick R _ 4 _ SV.out.rd (by omega) (by omega)).mono ?_
  rintro e w8 ⟨v8, rfl, hv8, hu8, _, hr8, ht8⟩
  obtain ⟨q8, rfl⟩ := Int.eq_ofNat_of_zero_le hv8
  have hq8 : (q8 : Int) < 4 := hu8 (by omega)
  have S8 := Lib.hid (SV.out.pick (by omega) hr8 ht8)
  obtain ⟨z, hz⟩ := lit_at (bL.turned ht8 (by omega)) (k := q8) (by simp; omega)
  clear hr8 ht8 SV bL hu8
  have kT := fun i => S8.out.bT.cell i
  have fT := fun i => S8.out.bT.frozen i
  go_upto_region 27 with fail
  have S9 := Lib.hid (S8.out.split_ (by omega) (Nat.le_refl _) z).done
  clear kT fT hz S7
  generalize World.setCell w8 ⟨T, 1, none⟩ (.int .i64 z) = w9 at S9 ⊢
  have LT := S9.out.bT.lt
  have kT := fun i => S9.out.bT.cell i
  have kE := fun i => S9.out.bE.cell i
  have hgl := S9.out.net.lt
  have hfrg := fun i => S9.out.net.frozen i
  have hthere : ∀ q, q < 9 → (w9.cell? ⟨g, k * 9 + q, none⟩).isSome = true := fun q hq => by
   obtain ⟨cs0, a, b⟩ := S9.out.net.2.2 k hk
   rw [b q _ (List.getElem?_eq_getElem (by rw [a.len]; exact hq))]; rfl
  go_upto_region 28 with (refine wpList_store_agg rfl 99 (.tmp 132) (.tmp 131) ?_ g (k * 9) [.int .i64 y.join, .int .i64 z, .slice A1 y.inn.length c1, .slice A2 y.out.length c2, .slice A3 y.clear.length c3, .int .i64 y.role, .int .i64 y.apart, .int .i64 y.all, .int .i64 y.need] ?_ ?_ ?_ ?_ ?_ ?_ ?_; rfl; rfl; rfl; kernel_rfl; exact fun q hq => hthere q (by simpa using hq); exact fun q => hfrg q; simp [Value.oneCell'])
  have NP := Lib.hid (S9.out.net.put hk S9.out.ta)
  obtain ⟨z1, z2⟩ := heap_put [.int .i64 y.join, .int .i64 z, .slice A1 y.inn.length c1, .slice A2 y.out.length c2, .slice A3 y.clear.length c3, .int .i64 y.role, .int .i64 y.apart, .int .i64 y.all, .int .i64 y.need] w9 g (k * 9)
  have bE9 : Bk (putCells w9 g (k * 9) [.int .i64 y.join, .int .i64 z, .slice A1 y.inn.length c1, .slice A2 y.out.length c2, .slice A3 y.clear.length c3, .int .i64 y.role, .int .i64 y.apart, .int .i64 y.all, .int .i64 y.need]) E 75 _ := (z2 E S9.out.o3).trans S9.out.bE
  have hgN9 : w.heap.size + 1 ≤ g := S9.out.net.1
  have bN9 : Bk (putCells w9 g (k * 9) [.int .i64 y.join, .int .i64 z, .slice A1 y.inn.length c1, .slice A2 y.out.length c2, .slice A3 y.clear.length c3, .int .i64 y.role, .int .i64 y.apart, .int .i64 y.all, .int .i64 y.need]) w.heap.size 75 _ := (z2 w.heap.size (by omega)).trans S9.out.bN
  have hB9 : Below g w9 (putCells w9 g (k * 9) [.int .i64 y.join, .int .i64 z, .slice A1 y.inn.length c1, .slice A2 y.out.length c2, .slice A3 y.clear.length c3, .int .i64 y.role, .int .i64 y.apart, .int .i64 y.all, .int .i64 y.need]) := bPut _ _ (Below.refl _ _) (Nat.le_refl _)
  have T9 := Lib.hid (S9.out.tu.trans' (hB9.mono (by omega)))
  have R9 := Lib.hid (S9.out.rd.low hB9 (by omega))
  clear kT kE hfrg hthere hB9
  generalize putCells w9 g (k * 9) [.int .i64 y.join, .int .i64 z, .slice A1 y.inn.length c1, .slice A2 y.out.length c2, .slice A3 y.clear.length c3, .int .i64 y.role, .int .i64 y.apart, .int .i64 y.all, .int .i64 y.need] = W9 at NP z1 bE9 bN9 T9 R9 ⊢
  have HNP := Lib.hid NP.out
  have kE := fun i => bE9.cell i
  have kN := fun i => bN9.cell i
  have fN := fun i => bN9.frozen i
  have HBN := Lib.hid bN9
  go_wp2
  generalize hV2 : (World.setCell (World.setCell W9 _ _) _ _) = V2
  have bV : Bk V2 w.heap.size 75 #[.int .i64 x.places, .slice (some ⟨g, 0, none⟩) x.tasks.length c] := by rw [← hV2]; exact (HBN.out.set 0 _).set 1 _
  have hbl : ∀ b, w.heap.size + 1 ≤ b → V2.heap[b]? = W9.heap[b]? := fun b hb => by
   rw [← hV2]
   exact (Below.heap_setCell _ ⟨w.heap.size, 1, none⟩ _ b (by show b ≠ w.heap.size; omega)).trans (Below.heap_setCell _ ⟨w.heap.size, 0, none⟩ _ b (by show b ≠ w.heap.size; omega))
  have hsz : V2.heap.size = W9.heap.size := by rw [← hV2]; simp [World.setCell]
  have gV := (HNP.out.kept (by rw [hsz]; exact Nat.le_refl _) fun b h1 _ => hbl b h1).low (Nat.le_succ w.heap.size)
  have tV : Turned R w V2 := by rw [← hV2]; exact T9.out.trans' (((Below.refl _ _).setCell (p := ⟨w.heap.size, 0, none⟩) (Nat.le_refl _) _).setCell (p := ⟨w.heap.size, 1, none⟩) (Nat.le_refl _) _)
  have rV : RdB V2 R (P + 400) := by rw [← hV2]; exact (R9.out.low (((Below.refl w.heap.size _).setCell (p := ⟨w.heap.size, 0, none⟩) (Nat.le_refl _) _).setCell (p := ⟨w.heap.size, 1, none⟩) (Nat.le_refl _) _) hR).mono (by omega)
  clear hV2 kE kN fN hbl hsz z1 z2 bE9 bN9
  have k1 := fun i => bV.cell i
  refine bodyPost_ret (v := .agg #[.int .i64 x.places, .slice (some ⟨g, 0, none⟩) x.tasks.length c]) (by simp [results, Try.results63, go_sem, k1]) rfl ?_
  exact ⟨⟨x.places, x.tasks.set k { y with «split» := z }⟩, g, c, by simp, gV, HOK.out.put k { y with «split» := z } (by obtain ⟨q1, q2, q3, q4, _⟩ := HSY.out; exact ⟨by show y.inn.length ≤ 10; omega, by show y.out.length ≤ 10; omega, by show y.clear.length ≤ 10; omega, by show y.need ≤ 100; omega⟩), rV, tV⟩
 ·
  have kT := fun i => S7.out.bT.cell i
  have kT2 := fun o i => (S7.out.bT.alloc o).cell i
  have hTl := S7.out.bT.lt
  have IN : Hid (Ints (w5.alloc (.cells #[] 3)) T A1 y.inn) := by
   obtain ⟨wt, a, b, d, e, f, kk⟩ := S7.out.net
   exact ((rows_keep1 (k := 1) d.1 fun q off hn hA hB hlo => ((Below.heap_alloc _ _ q (by omega)).trans (kk q (hlo _ rfl) (by omega)))).more a).ints
  go_wp2_with (at_builtin; refine append_intsA rfl (.tmp 61) (.tmp 63) rfl w5.heap.size _ [] rfl (OwnV.made' (Nat.le_refl _)) A1 c1 T y.inn rfl IN.out (by have := HSY.out; simp; omega) (by simp) ?_; intro v6 w6 hown6 hg6 hb6; rw [List.nil_append] at hown6; have O6 := Lib.hid hown6; have B6 := Lib.hid (((Below.refl w5.heap.size w5).alloc (Nat.le_refl _) (.cells #[] 3)).trans hb6); have S6 := Lib.hid (S7.out.low (by omega) (Nat.le_refl _) (B6.out.mono (by omega))); clear hown6 hg6 hb6)
  clear kT kT2 IN
  have hs6 := B6.out.size
  refine callsAt fun V8 hV => ?_
  have bL : Bk V8 w6.heap.size 3 (iv [1, 0, 7, 3]).toArray := by rw [hV]; exact Bk.new rfl
  have SV := Lib.hid (S6.out.low (by omega) (Nat.le_refl _) (by rw [hV]; exact (Below.refl _ _).alloc (by omega) _ : Below (T + 1) w6 V8))
  have O7 := Lib.hid (O6.out.later (by rw [hV]; exact (Below.refl _ _).alloc (Nat.le_refl _) _ : Below w6.heap.size w6 V8))
  have hV8s : w6.heap.size ≤ V8.heap.size := by rw [hV]; simp
  clear hV
  refine (l20Rd_pick R _ 4 _ SV.out.rd (by omega) (by omega)).mono ?_
  rintro e w8 ⟨v8, rfl, hv8, hu8, _, hr8, ht8⟩
  obtain ⟨q8, rfl⟩ := Int.eq_ofNat_of_zero_le hv8
  have hq8 : (q8 : Int) < 4 := hu8 (by omega)
  have S8 := Lib.hid (SV.out.pick (by omega) hr8 ht8)
  obtain ⟨z, hz⟩ := lit_at (bL.turned ht8 (by omega)) (k := q8) (by simp; omega)
  have O8 := Lib.hid (O7.out.kept (Kept.of_turned ht8 (by omega)))
  have hs8 := ht8.size
  clear hr8 ht8 SV bL hu8
  have hl10 : y.inn.length ≤ 8 := by have := HSY.out; omega
  have kT := fun i => S8.out.bT.cell i
  go_upto_region 27 with (at_builtin; refine append_int rfl (.tmp 64) (.tmp 70) rfl w5.heap.size _ _ rfl (O8.out.alloc _) w8.heap.size z rfl (by simp) (by omega) (by simp only [World.size_alloc]; omega) ?_; intro v9 w9 hown9 hb9; have O9 := Lib.hid hown9; have S9 := Lib.hid ((S8.out.low (by omega) (Nat.le_refl _) ((Below.refl _ _).alloc (by omega) (.cells #[.int .i64 z] 3))).low (by omega) (Nat.le_refl _) (hb9.mono (by omega))); obtain ⟨A9, c9, hv9, hr9⟩ := hown9.rows (by simp; omega); subst hv9; have R9 := Lib.hid hr9; have kT := fun i => S9.out.bT.cell i; have fT := fun i => S9.out.bT.frozen i; clear hown9 hb9 hr9)
  have SE := Lib.hid (S9.out.inn_ (by omega) (Nat.le_refl _) (d1 := c9) (xs := y.inn ++ [z]) ⟨R9.out.weak (Weaker.some (by omega)), fun q off hn hA => by
   obtain ⟨q', off', hA', hB', _⟩ := R9.out.2 hn
   rw [hA] at hA'
   cases hA'
   have := (hB'.2 _ rfl).1
   omega⟩ (fun q off hn hA => by
   obtain ⟨q', off', hA', hB', _⟩ := R9.out.2 hn
   rw [hA] at hA'
   cases hA'
   have := (hB'.2 _ rfl).1
   omega))
  clear kT fT hz O6 O7 O8 O9 R9 S7 S8 S9
  have hlen : (y.inn ++ [z]).length = y.inn.length + 1 := by simp
  rw [hlen] at SE
  generalize World.setCell w9 ⟨T, 2, none⟩ (.slice A9 (y.inn.length + 1) c9) = wz at SE ⊢
  have LT := SE.out.bT.lt
  have kT := fun i => SE.out.bT.cell i
  have kE := fun i => SE.out.bE.cell i
  have hgl := SE.out.net.lt
  have hfrg := fun i => SE.out.net.frozen i
  have hthere : ∀ q, q < 9 → (wz.cell? ⟨g, k * 9 + q, none⟩).isSome = true := fun q hq => by
   obtain ⟨cs0, a, b⟩ := SE.out.net.2.2 k hk
   rw [b q _ (List.getElem?_eq_getElem (by rw [a.len]; exact hq))]; rfl
  go_upto_region 28 with (refine wpList_store_agg rfl 99 (.tmp 132) (.tmp 131) ?_ g (k * 9) [.int .i64 y.join, .int .i64 y.split, .slice A9 (y.inn.length + 1) c9, .slice A2 y.out.length c2, .slice A3 y.clear.length c3, .int .i64 y.role, .int .i64 y.apart, .int .i64 y.all, .int .i64 y.need] ?_ ?_ ?_ ?_ ?_ ?_ ?_; rfl; rfl; rfl; kernel_rfl; exact fun q hq => hthere q (by simpa using hq); exact fun q => hfrg q; simp [Value.oneCell'])
  have NP := Lib.hid (SE.out.net.put hk SE.out.ta)
  obtain ⟨z1, z2⟩ := heap_put [.int .i64 y.join, .int .i64 y.split, .slice A9 (y.inn.length + 1) c9, .slice A2 y.out.length c2, .slice A3 y.clear.length c3, .int .i64 y.role, .int .i64 y.apart, .int .i64 y.all, .int .i64 y.need] wz g (k * 9)
  have bE9 : Bk (putCells wz g (k * 9) [.int .i64 y.join, .int .i64 y.split, .slice A9 (y.inn.length + 1) c9, .slice A2 y.out.length c2, .slice A3 y.clear.length c3, .int .i64 y.role, .int .i64 y.apart, .int .i64 y.all, .int .i64 y.need]) E 75 _ := (z2 E SE.out.o3).trans SE.out.bE
  have hgN9 : w.heap.size + 1 ≤ g := SE.out.net.1
  have bN9 : Bk (putCells wz g (k * 9) [.int .i64 y.join, .int .i64 y.split, .slice A9 (y.inn.length + 1) c9, .slice A2 y.out.length c2, .slice A3 y.clear.length c3, .int .i64 y.role, .int .i64 y.apart, .int .i64 y.all, .int .i64 y.need]) w.heap.size 75 _ := (z2 w.heap.size (by omega)).trans SE.out.bN
  have hB9 : Below g wz (putCells wz g (k * 9) [.int .i64 y.join, .int .i64 y.split, .slice A9 (y.inn.length + 1) c9, .slice A2 y.out.length c2, .slice A3 y.clear.length c3, .int .i64 y.role, .int .i64 y.apart, .int .i64 y.all, .int .i64 y.need]) := bPut _ _ (Below.refl _ _) (Nat.le_refl _)
  have T9 := Lib.hid (SE.out.tu.trans' (hB9.mono (by omega)))
  have R9 := Lib.hid (SE.out.rd.low hB9 (by omega))
  clear kT kE hfrg hthere hB9
  generalize putCells wz g (k * 9) [.int .i64 y.join, .int .i64 y.split, .slice A9 (y.inn.length + 1) c9, .slice A2 y.out.length c2, .slice A3 y.clear.length c3, .int .i64 y.role, .int .i64 y.apart, .int .i64 y.all, .int .i64 y.need] = W9 at NP z1 bE9 bN9 T9 R9 ⊢
  have HNP := Lib.hid NP.out
  have kE := fun i => bE9.cell i
  have kN := fun i => bN9.cell i
  have fN := fun i => bN9.frozen i
  have HBN := Lib.hid bN9
  go_wp2
  generalize hV2 : (World.setCell (World.setCell W9 _ _) _ _) = V2
  have bV : Bk V2 w.heap.size 75 #[.int .i64 x.places, .slice (some ⟨g, 0, none⟩) x.tasks.length c] := by rw [← hV2]; exact (HBN.out.set 0 _).set 1 _
  have hbl : ∀ b, w.heap.size + 1 ≤ b → V2.heap[b]? = W9.heap[b]? := fun b hb => by
   rw [← hV2]
   exact (Below.heap_setCell _ ⟨w.heap.size, 1, none⟩ _ b (by show b ≠ w.heap.size; omega)).trans (Below.heap_setCell _ ⟨w.heap.size, 0, none⟩ _ b (by show b ≠ w.heap.size; omega))
  have hsz : V2.heap.size = W9.heap.size := by rw [← hV2]; simp [World.setCell]
  have gV := (HNP.out.kept (by rw [hsz]; exact Nat.le_refl _) fun b h1 _ => hbl b h1).low (Nat.le_succ w.heap.size)
  have tV : Turned R w V2 := by rw [← hV2]; exact T9.out.trans' (((Below.refl _ _).setCell (p := ⟨w.heap.size, 0, none⟩) (Nat.le_refl _) _).setCell (p := ⟨w.heap.size, 1, none⟩) (Nat.le_refl _) _)
  have rV : RdB V2 R (P + 400) := by rw [← hV2]; exact (R9.out.low (((Below.refl w.heap.size _).setCell (p := ⟨w.heap.size, 0, none⟩) (Nat.le_refl _) _).setCell (p := ⟨w.heap.size, 1, none⟩) (Nat.le_refl _) _) hR).mono (by omega)
  clear hV2 kE kN fN hbl hsz z1 z2 bE9 bN9
  have k1 := fun i => bV.cell i
  refine bodyPost_ret (v := .agg #[.int .i64 x.places, .slice (some ⟨g, 0, none⟩) x.tasks.length c]) (by simp [results, Try.results63, go_sem, k1]) rfl ?_
  exact ⟨⟨x.places, x.tasks.set k { y with «inn» := y.inn ++ [z] }⟩, g, c, by simp, gV, HOK.out.put k { y with «inn» := y.inn ++ [z] } (by obtain ⟨q1, q2, q3, q4, _⟩ := HSY.out; exact ⟨by show (y.inn ++ [z]).length ≤ 10; simp; omega, by show y.out.length ≤ 10; omega, by show y.clear.length ≤ 10; omega, by show y.need ≤ 100; omega⟩), rV, tV⟩
 ·
  have kT := fun i => S7.out.bT.cell i
  have kT2 := fun o i => (S7.out.bT.alloc o).cell i
  have hTl := S7.out.bT.lt
  have IN : Hid (Rows flowC (some (w.heap.size + 1)) (w5.alloc (.cells #[] 102)) T A2 y.out) := by
   obtain ⟨wt, a, b, d, e, f, kk⟩ := S7.out.net
   exact (rows_keep1 (k := 4) e.1 fun q off hn hA hB hlo => ((Below.heap_alloc _ _ q (by omega)).trans (kk q (hlo _ rfl) (by omega)))).more a
  go_wp2_with (at_builtin; refine append_flatA (k := 4) (cells := GFlow.cells) (hk := fun _ => rfl) rfl (.tmp 75) (.tmp 77) 97 102 rfl _ 32 Try.underlying97 info_flow rfl (by decide) (by decide) (fun q u hu => by simp [GFlow.cells] at hu; rcases hu with rfl | rfl | rfl | rfl <;> rfl) w5.heap.size _ [] rfl (OwnC.made (C := flowC) (Nat.le_refl _) 0 #[] (by decide) rfl) A2 c2 T _ y.out rfl IN.out (by have := HSY.out; simp; omega) (by simp) ?_; intro v6 w6 hown6 hg6 hb6; rw [List.nil_append] at hown6; have O6 := Lib.hid hown6; have B6 := Lib.hid (((Below.refl w5.heap.size w5).alloc (Nat.le_refl _) (.cells #[] 102)).trans hb6); have S6 := Lib.hid (S7.out.low (by omega) (Nat.le_refl _) (B6.out.mono (by omega))); clear hown6 hg6 hb6)
  clear kT kT2 IN
  have hs6 := B6.out.size
  refine (l20Rd_pick R _ 4 _ S6.out.rd (by omega) (by omega)).mono ?_
  rintro e w7 ⟨v7, rfl, hv7, hu7, _, hr7, ht7⟩
  have S8 := Lib.hid (S6.out.pick (by omega) hr7 ht7)
  have O8 := Lib.hid (O6.out.kept (Kept.of_turned ht7 (by omega)))
  have hs7 := ht7.size
  clear hr7 ht7 S6 O6 hu7
  go_wp2_with fail
  refine (l20Ask R _ 2 _ S8.out.rd (by omega) (by omega)).mono ?_
  rintro e w8 ⟨a, rfl, hr8, ht8⟩
  have S9 := Lib.hid (S8.out.pick (by omega) hr8 ht8)
  have O9 := Lib.hid (O8.out.kept (Kept.of_turned ht8 (by omega)))
  have hs8 := ht8.size
  have hl10 : y.out.length ≤ 8 := by have := HSY.out; omega
  clear hr8 ht8 S8 O8
  have kT := fun i => S9.out.bT.cell i
  go_upto_region 27 with (at_builtin; refine append_C rfl (.tmp 78) (.tmp 84) 97 rfl flowC 102 _ 32 Try.underlying97 info_flow rfl (by decide) (by decide) w5.heap.size _ y.out rfl (O9.out.later ((Below.refl _ _).alloc (Nat.le_refl _) _)) ⟨v7, a⟩ _ w5.heap.size 0 rfl (Nat.le_refl _) (Nat.zero_le _) (fun _ _ => .inr (Nat.zero_le _)) w8.heap.size rfl (fun j u hu => by rw [Bk.cell (Bk.new rfl)]; simpa [GFlow.cells] using hu) (by simp [GFlow.cells, Value.oneCell']) (by omega) (by simp; omega) ?_; intro v9 w9 hown9 hg9 hb9; have S10 := Lib.hid ((S9.out.low (by omega) (Nat.le_refl _) ((Below.refl _ _).alloc (by omega) (.cells #[.int .i64 v7, .int .i64 a.op, .int .i64 a.var, .int .i64 a.k] 102))).low (by omega) (Nat.le_refl _) (hb9.mono (by omega))); obtain ⟨A9, c9, hv9, hr9⟩ := hown9.rows (by simp; omega); subst hv9; have R9 := Lib.hid hr9; have kT := fun i => S10.out.bT.cell i; have fT := fun i => S10.out.bT.frozen i; clear hown9 hb9 hg9 hr9)
  have SE := Lib.hid (S10.out.out_ (by omega) (Nat.le_refl _) (d1 := c9) (xs := y.out ++ [⟨v7, a⟩]) ⟨R9.out.weak (Weaker.some (by omega)), fun q off hn hA => by
   obtain ⟨q', off', hA', hB', _⟩ := R9.out.2 hn
   rw [hA] at hA'
   cases hA'
   have := (hB'.2 _ rfl).1
   omega⟩ (fun q off hn hA => by
   obtain ⟨q', off', hA', hB', _⟩ := R9.out.2 hn
   rw [hA] at hA'
   cases hA'
   have := (hB'.2 _ rfl).1
   omega))
  clear kT fT O9 R9 S7 S9 S10
  have hlen : (y.out ++ [(⟨v7, a⟩ : GFlow)]).length = y.out.length + 1 := by simp
  rw [hlen] at SE
  generalize World.setCell w9 ⟨T, 3, none⟩ (.slice A9 (y.out.length + 1) c9) = wz at SE ⊢
  have LT := SE.out.bT.lt
  have kT := fun i => SE.out.bT.cell i
  have kE := fun i => SE.out.bE.cell i
  have hgl := SE.out.net.lt
  have hfrg := fun i => SE.out.net.frozen i
  have hthere : ∀ q, q < 9 → (wz.cell? ⟨g, k * 9 + q, none⟩).isSome = true := fun q hq => by
   obtain ⟨cs0, a, b⟩ := SE.out.net.2.2 k hk
   rw [b q _ (List.getElem?_eq_getElem (by rw [a.len]; exact hq))]; rfl
  go_upto_region 28 with (refine wpList_store_agg rfl 99 (.tmp 132) (.tmp 131) ?_ g (k * 9) [.int .i64 y.join, .int .i64 y.split, .slice A1 y.inn.length c1, .slice A9 (y.out.length + 1) c9, .slice A3 y.clear.length c3, .int .i64 y.role, .int .i64 y.apart, .int .i64 y.all, .int .i64 y.need] ?_ ?_ ?_ ?_ ?_ ?_ ?_; rfl; rfl; rfl; kernel_rfl; exact fun q hq => hthere q (by simpa using hq); exact fun q => hfrg q; simp [Value.oneCell'])
  have NP := Lib.hid (SE.out.net.put hk SE.out.ta)
  obtain ⟨z1, z2⟩ := heap_put [.int .i64 y.join, .int .i64 y.split, .slice A1 y.inn.length c1, .slice A9 (y.out.length + 1) c9, .slice A3 y.clear.length c3, .int .i64 y.role, .int .i64 y.apart, .int .i64 y.all, .int .i64 y.need] wz g (k * 9)
  have bE9 : Bk (putCells wz g (k * 9) [.int .i64 y.join, .int .i64 y.split, .slice A1 y.inn.length c1, .slice A9 (y.out.length + 1) c9, .slice A3 y.clear.length c3, .int .i64 y.role, .int .i64 y.apart, .int .i64 y.all, .int .i64 y.need]) E 75 _ := (z2 E SE.out.o3).trans SE.out.bE
  have hgN9 : w.heap.size + 1 ≤ g := SE.out.net.1
  have bN9 : Bk (putCells wz g (k * 9) [.int .i64 y.join, .int .i64 y.split, .slice A1 y.inn.length c1, .slice A9 (y.out.length + 1) c9, .slice A3 y.clear.length c3, .int .i64 y.role, .int .i64 y.apart, .int .i64 y.all, .int .i64 y.need]) w.heap.size 75 _ := (z2 w.heap.size (by omega)).trans SE.out.bN
  have hB9 : Below g wz (putCells wz g (k * 9) [.int .i64 y.join, .int .i64 y.split, .slice A1 y.inn.length c1, .slice A9 (y.out.length + 1) c9, .slice A3 y.clear.length c3, .int .i64 y.role, .int .i64 y.apart, .int .i64 y.all, .int .i64 y.need]) := bPut _ _ (Below.refl _ _) (Nat.le_refl _)
  have T9 := Lib.hid (SE.out.tu.trans' (hB9.mono (by omega)))
  have R9 := Lib.hid (SE.out.rd.low hB9 (by omega))
  clear kT kE hfrg hthere hB9
  generalize putCells wz g (k * 9) [.int .i64 y.join, .int .i64 y.split, .slice A1 y.inn.length c1, .slice A9 (y.out.length + 1) c9, .slice A3 y.clear.length c3, .int .i64 y.role, .int .i64 y.apart, .int .i64 y.all, .int .i64 y.need] = W9 at NP z1 bE9 bN9 T9 R9 ⊢
  have HNP := Lib.hid NP.out
  have kE := fun i => bE9.cell i
  have kN := fun i => bN9.cell i
  have fN := fun i => bN9.frozen i
  have HBN := Lib.hid bN9
  go_wp2
  generalize hV2 : (World.setCell (World.setCell W9 _ _) _ _) = V2
  have bV : Bk V2 w.heap.size 75 #[.int .i64 x.places, .slice (some ⟨g, 0, none⟩) x.tasks.length c] := by rw [← hV2]; exact (HBN.out.set 0 _).set 1 _
  have hbl : ∀ b, w.heap.size + 1 ≤ b → V2.heap[b]? = W9.heap[b]? := fun b hb => by
   rw [← hV2]
   exact (Below.heap_setCell _ ⟨w.heap.size, 1, none⟩ _ b (by show b ≠ w.heap.size; omega)).trans (Below.heap_setCell _ ⟨w.heap.size, 0, none⟩ _ b (by show b ≠ w.heap.size; omega))
  have hsz : V2.heap.size = W9.heap.size := by rw [← hV2]; simp [World.setCell]
  have gV := (HNP.out.kept (by rw [hsz]; exact Nat.le_refl _) fun b h1 _ => hbl b h1).low (Nat.le_succ w.heap.size)
  have tV : Turned R w V2 := by rw [← hV2]; exact T9.out.trans' (((Below.refl _ _).setCell (p := ⟨w.heap.size, 0, none⟩) (Nat.le_refl _) _).setCell (p := ⟨w.heap.size, 1, none⟩) (Nat.le_refl _) _)
  have rV : RdB V2 R (P + 400) := by rw [← hV2]; exact (R9.out.low (((Below.refl w.heap.size _).setCell (p := ⟨w.heap.size, 0, none⟩) (Nat.le_refl _) _).setCell (p := ⟨w.heap.size, 1, none⟩) (Nat.le_refl _) _) hR).mono (by omega)
  clear hV2 kE kN fN hbl hsz z1 z2 bE9 bN9
  have k1 := fun i => bV.cell i
  refine bodyPost_ret (v := .agg #[.int .i64 x.places, .slice (some ⟨g, 0, none⟩) x.tasks.length c]) (by simp [results, Try.results63, go_sem, k1]) rfl ?_
  exact ⟨⟨x.places, x.tasks.set k { y with out := y.out ++ [⟨v7, a⟩] }⟩, g, c, by simp, gV, HOK.out.put k { y with out := y.out ++ [⟨v7, a⟩] } (by obtain ⟨q1, q2, q3, q4, _⟩ := HSY.out; exact ⟨by show y.inn.length ≤ 10; omega, by show (y.out ++ [(⟨v7, a⟩ : GFlow)]).length ≤ 10; simp; omega, by show y.clear.length ≤ 10; omega, by show y.need ≤ 100; omega⟩), rV, tV⟩
 ·
  have kT := fun i => S7.out.bT.cell i
  have kT2 := fun o i => (S7.out.bT.alloc o).cell i
  have hTl := S7.out.bT.lt
  have IN : Hid (Ints (w5.alloc (.cells #[] 3)) T A3 y.clear) := by
   obtain ⟨wt, a, b, d, e, f, kk⟩ := S7.out.net
   exact ((rows_keep1 (k := 1) f.1 fun q off hn hA hB hlo => ((Below.heap_alloc _ _ q (by omega)).trans (kk q (hlo _ rfl) (by omega)))).more a).ints
  go_wp2_with (at_builtin; refine append_intsA rfl (.tmp 89) (.tmp 91) rfl w5.heap.size _ [] rfl (OwnV.made' (Nat.le_refl _)) A3 c3 T y.clear rfl IN.out (by have := HSY.out; simp; omega) (by simp) ?_; intro v6 w6 hown6 hg6 hb6; rw [List.nil_append] at hown6; have O6 := Lib.hid hown6; have B6 := Lib.hid (((Below.refl w5.heap.size w5).alloc (Nat.le_refl _) (.cells #[] 3)).trans hb6); have S6 := Lib.hid (S7.out.low (by omega) (Nat.le_refl _) (B6.out.mono (by omega))); clear hown6 hg6 hb6)
  clear kT kT2 IN
  have hs6 := B6.out.size
  refine callsAt fun V8 hV => ?_
  have bL : Bk V8 w6.heap.size 3 (iv [0, 1, 2, 9]).toArray := by rw [hV]; exact Bk.new rfl
  have SV := Lib.hid (S6.out.low (by omega) (Nat.le_refl _) (by rw [hV]; exact (Below.refl _ _).alloc (by omega) _ : Below (T + 1) w6 V8))
  have O7 := Lib.hid (O6.out.later (by rw [hV]; exact (Below.refl _ _).alloc (Nat.le_refl _) _ : Below w6.heap.size w6 V8))
  have hV8s : w6.heap.size ≤ V8.heap.size := by rw [hV]; simp
  clear hV
  refine (l20Rd_pick R _ 4 _ SV.out.rd (by omega) (by omega)).mono ?_
  rintro e w8 ⟨v8, rfl, hv8, hu8, _, hr8, ht8⟩
  obtain ⟨q8, rfl⟩ := Int.eq_ofNat_of_zero_le hv8
  have hq8 : (q8 : Int) < 4 := hu8 (by omega)
  have S8 := Lib.hid (SV.out.pick (by omega) hr8 ht8)
  obtain ⟨z, hz⟩ := lit_at (bL.turned ht8 (by omega)) (k := q8) (by simp; omega)
  have O8 := Lib.hid (O7.out.kept (Kept.of_turned ht8 (by omega)))
  have hs8 := ht8.size
  clear hr8 ht8 SV bL hu8
  have hl10 : y.clear.length ≤ 8 := by have := HSY.out; omega
  have kT := fun i => S8.out.bT.cell i
  go_upto_region 27 with (at_builtin; refine append_int rfl (.tmp 92) (.tmp 98) rfl w5.heap.size _ _ rfl (O8.out.alloc _) w8.heap.size z rfl (by simp) (by omega) (by simp only [World.size_alloc]; omega) ?_; intro v9 w9 hown9 hb9; have O9 := Lib.hid hown9; have S9 := Lib.hid ((S8.out.low (by omega) (Nat.le_refl _) ((Below.refl _ _).alloc (by omega) (.cells #[.int .i64 z] 3))).low (by omega) (Nat.le_refl _) (hb9.mono (by omega))); obtain ⟨A9, c9, hv9, hr9⟩ := hown9.rows (by simp; omega); subst hv9; have R9 := Lib.hid hr9; have kT := fun i => S9.out.bT.cell i; have fT := fun i => S9.out.bT.frozen i; clear hown9 hb9 hr9)
  have SE := Lib.hid (S9.out.clear_ (by omega) (Nat.le_refl _) (d1 := c9) (xs := y.clear ++ [z]) ⟨R9.out.weak (Weaker.some (by omega)), fun q off hn hA => by
   obtain ⟨q', off', hA', hB', _⟩ := R9.out.2 hn
   rw [hA] at hA'
   cases hA'
   have := (hB'.2 _ rfl).1
   omega⟩ (fun q off hn hA => by
   obtain ⟨q', off', hA', hB', _⟩ := R9.out.2 hn
   rw [hA] at hA'
   cases hA'
   have := (hB'.2 _ rfl).1
   omega))
  clear kT fT hz O6 O7 O8 O9 R9 S7 S8 S9
  have hlen : (y.clear ++ [z]).length = y.clear.length + 1 := by simp
  rw [hlen] at SE
  generalize World.setCell w9 ⟨T, 4, none⟩ (.slice A9 (y.clear.length + 1) c9) = wz at SE ⊢
  have LT := SE.out.bT.lt
  have kT := fun i => SE.out.bT.cell i
  have kE := fun i => SE.out.bE.cell i
  have hgl := SE.out.net.lt
  have hfrg := fun i => SE.out.net.frozen i
  have hthere : ∀ q, q < 9 → (wz.cell? ⟨g, k * 9 + q, none⟩).isSome = true := fun q hq => by
   obtain ⟨cs0, a, b⟩ := SE.out.net.2.2 k hk
   rw [b q _ (List.getElem?_eq_getElem (by rw [a.len]; exact hq))]; rfl
  go_upto_region 28 with (refine wpList_store_agg rfl 99 (.tmp 132) (.tmp 131) ?_ g (k * 9) [.int .i64 y.join, .int .i64 y.split, .slice A1 y.inn.length c1, .slice A2 y.out.length c2, .slice A9 (y.clear.length + 1) c9, .int .i64 y.role, .int .i64 y.apart, .int .i64 y.all, .int .i64 y.need] ?_ ?_ ?_ ?_ ?_ ?_ ?_; rfl; rfl; rfl; kernel_rfl; exact fun q hq => hthere q (by simpa using hq); exact fun q => hfrg q; simp [Value.oneCell'])
  have NP := Lib.hid (SE.out.net.put hk SE.out.ta)
  obtain ⟨z1, z2⟩ := heap_put [.int .i64 y.join, .int .i64 y.split, .slice A1 y.inn.length c1, .slice A2 y.out.length c2, .slice A9 (y.clear.length + 1) c9, .int .i64 y.role, .int .i64 y.apart, .int .i64 y.all, .int .i64 y.need] wz g (k * 9)
  have bE9 : Bk (putCells wz g (k * 9) [.int .i64 y.join, .int .i64 y.split, .slice A1 y.inn.length c1, .slice A2 y.out.length c2, .slice A9 (y.clear.length + 1) c9, .int .i64 y.role, .int .i64 y.apart, .int .i64 y.all, .int .i64 y.need]) E 75 _ := (z2 E SE.out.o3).trans SE.out.bE
  have hgN9 : w.heap.size + 1 ≤ g := SE.out.net.1
  have bN9 : Bk (putCells wz g (k * 9) [.int .i64 y.join, .int .i64 y.split, .slice A1 y.inn.length c1, .slice A2 y.out.length c2, .slice A9 (y.clear.length + 1) c9, .int .i64 y.role, .int .i64 y.apart, .int .i64 y.all, .int .i64 y.need]) w.heap.size 75 _ := (z2 w.heap.size (by omega)).trans SE.out.bN
  have hB9 : Below g wz (putCells wz g (k * 9) [.int .i64 y.join, .int .i64 y.split, .slice A1 y.inn.length c1, .slice A2 y.out.length c2, .slice A9 (y.clear.length + 1) c9, .int .i64 y.role, .int .i64 y.apart, .int .i64 y.all, .int .i64 y.need]) := bPut _ _ (Below.refl _ _) (Nat.le_refl _)
  have T9 := Lib.hid (SE.out.tu.trans' (hB9.mono (by omega)))
  have R9 := Lib.hid (SE.out.rd.low hB9 (by omega))
  clear kT kE hfrg hthere hB9
  generalize putCells wz g (k * 9) [.int .i64 y.join, .int .i64 y.split, .slice A1 y.inn.length c1, .slice A2 y.out.length c2, .slice A9 (y.clear.length + 1) c9, .int .i64 y.role, .int .i64 y.apart, .int .i64 y.all, .int .i64 y.need] = W9 at NP z1 bE9 bN9 T9 R9 ⊢
  have HNP := Lib.hid NP.out
  have kE := fun i => bE9.cell i
  have kN := fun i => bN9.cell i
  have fN := fun i => bN9.frozen i
  have HBN := Lib.hid bN9
  go_wp2
  generalize hV2 : (World.setCell (World.setCell W9 _ _) _ _) = V2
  have bV : Bk V2 w.heap.size 75 #[.int .i64 x.places, .slice (some ⟨g, 0, none⟩) x.tasks.length c] := by rw [← hV2]; exact (HBN.out.set 0 _).set 1 _
  have hbl : ∀ b, w.heap.size + 1 ≤ b → V2.heap[b]? = W9.heap[b]? := fun b hb => by
   rw [← hV2]
   exact (Below.heap_setCell _ ⟨w.heap.size, 1, none⟩ _ b (by show b ≠ w.heap.size; omega)).trans (Below.heap_setCell _ ⟨w.heap.size, 0, none⟩ _ b (by show b ≠ w.heap.size; omega))
  have hsz : V2.heap.size = W9.heap.size := by rw [← hV2]; simp [World.setCell]
  have gV := (HNP.out.kept (by rw [hsz]; exact Nat.le_refl _) fun b h1 _ => hbl b h1).low (Nat.le_succ w.heap.size)
  have tV : Turned R w V2 := by rw [← hV2]; exact T9.out.trans' (((Below.refl _ _).setCell (p := ⟨w.heap.size, 0, none⟩) (Nat.le_refl _) _).setCell (p := ⟨w.heap.size, 1, none⟩) (Nat.le_refl _) _)
  have rV : RdB V2 R (P + 400) := by rw [← hV2]; exact (R9.out.low (((Below.refl w.heap.size _).setCell (p := ⟨w.heap.size, 0, none⟩) (Nat.le_refl _) _).setCell (p := ⟨w.heap.size, 1, none⟩) (Nat.le_refl _) _) hR).mono (by omega)
  clear hV2 kE kN fN hbl hsz z1 z2 bE9 bN9
  have k1 := fun i => bV.cell i
  refine bodyPost_ret (v := .agg #[.int .i64 x.places, .slice (some ⟨g, 0, none⟩) x.tasks.length c]) (by simp [results, Try.results63, go_sem, k1]) rfl ?_
  exact ⟨⟨x.places, x.tasks.set k { y with «clear» := y.clear ++ [z] }⟩, g, c, by simp, gV, HOK.out.put k { y with «clear» := y.clear ++ [z] } (by obtain ⟨q1, q2, q3, q4, _⟩ := HSY.out; exact ⟨by show y.inn.length ≤ 10; omega, by show y.out.length ≤ 10; omega, by show (y.clear ++ [z]).length ≤ 10; simp; omega, by show y.need ≤ 100; omega⟩), rV, tV⟩
 ·
  go_wp2_with fail
  refine callsAt fun V8 hV => ?_
  have bL : Bk V8 w5.heap.size 3 (iv [0, 4]).toArray := by rw [hV]; exact Bk.new rfl
  have hTl := S7.out.bT.lt
  have SV := Lib.hid (S7.out.low (by omega) (Nat.le_refl _) (by rw [hV]; exact (Below.refl _ _).alloc (by omega) _ : Below (T + 1) w5 V8))
  clear hV
  refine (l20Rd_pick R _ 2 _ SV.out.rd (by omega) (by omega)).mono ?_
  rintro e w8 ⟨v8, rfl, hv8, hu8, _, hr8, ht8⟩
  obtain ⟨q8, rfl⟩ := Int.eq_ofNat_of_zero_le hv8
  have hq8 : (q8 : Int) < 2 := hu8 (by omega)
  have S8 := Lib.hid (SV.out.pick (by omega) hr8 ht8)
  obtain ⟨z, hz⟩ := lit_at (bL.turned ht8 (by omega)) (k := q8) (by simp; omega)
  clear hr8 ht8 SV bL hu8
  have kT := fun i => S8.out.bT.cell i
  have fT := fun i => S8.out.bT.frozen i
  go_upto_region 27 with fail
  have S9 := Lib.hid (S8.out.role_ (by omega) (Nat.le_refl _) z).done
  clear kT fT hz S7
  generalize World.setCell w8 ⟨T, 5, none⟩ (.int .i64 z) = w9 at S9 ⊢
  have LT := S9.out.bT.lt
  have kT := fun i => S9.out.bT.cell i
  have kE := fun i => S9.out.bE.cell i
  have hgl := S9.out.net.lt
  have hfrg := fun i => S9.out.net.frozen i
  have hthere : ∀ q, q < 9 → (w9.cell? ⟨g, k * 9 + q, none⟩).isSome = true := fun q hq => by
   obtain ⟨cs0, a, b⟩ := S9.out.net.2.2 k hk
   rw [b q _ (List.getElem?_eq_getElem (by rw [a.len]; exact hq))]; rfl
  go_upto_region 28 with (refine wpList_store_agg rfl 99 (.tmp 132) (.tmp 131) ?_ g (k * 9) [.int .i64 y.join, .int .i64 y.split, .slice A1 y.inn.length c1, .slice A2 y.out.length c2, .slice A3 y.clear.length c3, .int .i64 z, .int .i64 y.apart, .int .i64 y.all, .int .i64 y.need] ?_ ?_ ?_ ?_ ?_ ?_ ?_; rfl; rfl; rfl; kernel_rfl; exact fun q hq => hthere q (by simpa using hq); exact fun q => hfrg q; simp [Value.oneCell'])
  have NP := Lib.hid (S9.out.net.put hk S9.out.ta)
  obtain ⟨z1, z2⟩ := heap_put [.int .i64 y.join, .int .i64 y.split, .slice A1 y.inn.length c1, .slice A2 y.out.length c2, .slice A3 y.clear.length c3, .int .i64 z, .int .i64 y.apart, .int .i64 y.all, .int .i64 y.need] w9 g (k * 9)
  have bE9 : Bk (putCells w9 g (k * 9) [.int .i64 y.join, .int .i64 y.split, .slice A1 y.inn.length c1, .slice A2 y.out.length c2, .slice A3 y.clear.length c3, .int .i64 z, .int .i64 y.apart, .int .i64 y.all, .int .i64 y.need]) E 75 _ := (z2 E S9.out.o3).trans S9.out.bE
  have hgN9 : w.heap.size + 1 ≤ g := S9.out.net.1
  have bN9 : Bk (putCells w9 g (k * 9) [.int .i64 y.join, .int .i64 y.split, .slice A1 y.inn.length c1, .slice A2 y.out.length c2, .slice A3 y.clear.length c3, .int .i64 z, .int .i64 y.apart, .int .i64 y.all, .int .i64 y.need]) w.heap.size 75 _ := (z2 w.heap.size (by omega)).trans S9.out.bN
  have hB9 : Below g w9 (putCells w9 g (k * 9) [.int .i64 y.join, .int .i64 y.split, .slice A1 y.inn.length c1, .slice A2 y.out.length c2, .slice A3 y.clear.length c3, .int .i64 z, .int .i64 y.apart, .int .i64 y.all, .int .i64 y.need]) := bPut _ _ (Below.refl _ _) (Nat.le_refl _)
  have T9 := Lib.hid (S9.out.tu.trans' (hB9.mono (by omega)))
  have R9 := Lib.hid (S9.out.rd.low hB9 (by omega))
  clear kT kE hfrg hthere hB9
  generalize putCells w9 g (k * 9) [.int .i64 y.join, .int .i64 y.split, .slice A1 y.inn.length c1, .slice A2 y.out.length c2, .slice A3 y.clear.length c3, .int .i64 z, .int .i64 y.apart, .int .i64 y.all, .int .i64 y.need] = W9 at NP z1 bE9 bN9 T9 R9 ⊢
  have HNP := Lib.hid NP.out
  have kE := fun i => bE9.cell i
  have kN := fun i => bN9.cell i
  have fN := fun i => bN9.frozen i
  have HBN := Lib.hid bN9
  go_wp2
  generalize hV2 : (World.setCell (World.setCell W9 _ _) _ _) = V2
  have bV : Bk V2 w.heap.size 75 #[.int .i64 x.places, .slice (some ⟨g, 0, none⟩) x.tasks.length c] := by rw [← hV2]; exact (HBN.out.set 0 _).set 1 _
  have hbl : ∀ b, w.heap.size + 1 ≤ b → V2.heap[b]? = W9.heap[b]? := fun b hb => by
   rw [← hV2]
   exact (Below.heap_setCell _ ⟨w.heap.size, 1, none⟩ _ b (by show b ≠ w.heap.size; omega)).trans (Below.heap_setCell _ ⟨w.heap.size, 0, none⟩ _ b (by show b ≠ w.heap.size; omega))
  have hsz : V2.heap.size = W9.heap.size := by rw [← hV2]; simp [World.setCell]
  have gV := (HNP.out.kept (by rw [hsz]; exact Nat.le_refl _) fun b h1 _ => hbl b h1).low (Nat.le_succ w.heap.size)
  have tV : Turned R w V2 := by rw [← hV2]; exact T9.out.trans' (((Below.refl _ _).setCell (p := ⟨w.heap.size, 0, none⟩) (Nat.le_refl _) _).setCell (p := ⟨w.heap.size, 1, none⟩) (Nat.le_refl _) _)
  have rV : RdB V2 R (P + 400) := by rw [← hV2]; exact (R9.out.low (((Below.refl w.heap.size _).setCell (p := ⟨w.heap.size, 0, none⟩) (Nat.le_refl _) _).setCell (p := ⟨w.heap.size, 1, none⟩) (Nat.le_refl _) _) hR).mono (by omega)
  clear hV2 kE kN fN hbl hsz z1 z2 bE9 bN9
  have k1 := fun i => bV.cell i
  refine bodyPost_ret (v := .agg #[.int .i64 x.places, .slice (some ⟨g, 0, none⟩) x.tasks.length c]) (by simp [results, Try.results63, go_sem, k1]) rfl ?_
  exact ⟨⟨x.places, x.tasks.set k { y with «role» := z }⟩, g, c, by simp, gV, HOK.out.put k { y with «role» := z } (by obtain ⟨q1, q2, q3, q4, _⟩ := HSY.out; exact ⟨by show y.inn.length ≤ 10; omega, by show y.out.length ≤ 10; omega, by show y.clear.length ≤ 10; omega, by show y.need ≤ 100; omega⟩), rV, tV⟩
 ·
  go_wp2_with fail
  refine callsAt fun V8 hV => ?_
  have bL : Bk V8 w5.heap.size 3 (iv [-2, 6]).toArray := by rw [hV]; exact Bk.new rfl
  have hTl := S7.out.bT.lt
  have SV := Lib.hid (S7.out.low (by omega) (Nat.le_refl _) (by rw [hV]; exact (Below.refl _ _).alloc (by omega) _ : Below (T + 1) w5 V8))
  clear hV
  refine (l20Rd_pick R _ 2 _ SV.out.rd (by omega) (by omega)).mono ?_
  rintro e w8 ⟨v8, rfl, hv8, hu8, _, hr8, ht8⟩
  obtain ⟨q8, rfl⟩ := Int.eq_ofNat_of_zero_le hv8
  have hq8 : (q8 : Int) < 2 := hu8 (by omega)
  have S8 := Lib.hid (SV.out.pick (by omega) hr8 ht8)
  obtain ⟨z, hz⟩ := lit_at (bL.turned ht8 (by omega)) (k := q8) (by simp; omega)
  clear hr8 ht8 SV bL hu8
  have kT := fun i => S8.out.bT.cell i
  have fT := fun i => S8.out.bT.frozen i
  go_upto_region 27 with fail
  have S9 := Lib.hid (S8.out.apart_ (by omega) (Nat.le_refl _) z).done
  clear kT fT hz S7
  generalize World.setCell w8 ⟨T, 6, none⟩ (.int .i64 z) = w9 at S9 ⊢
  have LT := S9.out.bT.lt
  have kT := fun i => S9.out.bT.cell i
  have kE := fun i => S9.out.bE.cell i
  have hgl := S9.out.net.lt
  have hfrg := fun i => S9.out.net.frozen i
  have hthere : ∀ q, q < 9 → (w9.cell? ⟨g, k * 9 + q, none⟩).isSome = true := fun q hq => by
   obtain ⟨cs0, a, b⟩ := S9.out.net.2.2 k hk
   rw [b q _ (List.getElem?_eq_getElem (by rw [a.len]; exact hq))]; rfl
  go_upto_region 28 with (refine wpList_store_agg rfl 99 (.tmp 132) (.tmp 131) ?_ g (k * 9) [.int .i64 y.join, .int .i64 y.split, .slice A1 y.inn.length c1, .slice A2 y.out.length c2, .slice A3 y.clear.length c3, .int .i64 y.role, .int .i64 z, .int .i64 y.all, .int .i64 y.need] ?_ ?_ ?_ ?_ ?_ ?_ ?_; rfl; rfl; rfl; kernel_rfl; exact fun q hq => hthere q (by simpa using hq); exact fun q => hfrg q; simp [Value.oneCell'])
  have NP := Lib.hid (S9.out.net.put hk S9.out.ta)
  obtain ⟨z1, z2⟩ := heap_put [.int .i64 y.join, .int .i64 y.split, .slice A1 y.inn.length c1, .slice A2 y.out.length c2, .slice A3 y.clear.length c3, .int .i64 y.role, .int .i64 z, .int .i64 y.all, .int .i64 y.need] w9 g (k * 9)
  have bE9 : Bk (putCells w9 g (k * 9) [.int .i64 y.join, .int .i64 y.split, .slice A1 y.inn.length c1, .slice A2 y.out.length c2, .slice A3 y.clear.length c3, .int .i64 y.role, .int .i64 z, .int .i64 y.all, .int .i64 y.need]) E 75 _ := (z2 E S9.out.o3).trans S9.out.bE
  have hgN9 : w.heap.size + 1 ≤ g := S9.out.net.1
  have bN9 : Bk (putCells w9 g (k * 9) [.int .i64 y.join, .int .i64 y.split, .slice A1 y.inn.length c1, .slice A2 y.out.length c2, .slice A3 y.clear.length c3, .int .i64 y.role, .int .i64 z, .int .i64 y.all, .int .i64 y.need]) w.heap.size 75 _ := (z2 w.heap.size (by omega)).trans S9.out.bN
  have hB9 : Below g w9 (putCells w9 g (k * 9) [.int .i64 y.join, .int .i64 y.split, .slice A1 y.inn.length c1, .slice A2 y.out.length c2, .slice A3 y.clear.length c3, .int .i64 y.role, .int .i64 z, .int .i64 y.all, .int .i64 y.need]) := bPut _ _ (Below.refl _ _) (Nat.le_refl _)
  have T9 := Lib.hid (S9.out.tu.trans' (hB9.mono (by omega)))
  have R9 := Lib.hid (S9.out.rd.low hB9 (by omega))
  clear kT kE hfrg hthere hB9
  generalize putCells w9 g (k * 9) [.int .i64 y.join, .int .i64 y.split, .slice A1 y.inn.length c1, .slice A2 y.out.length c2, .slice A3 y.clear.length c3, .int .i64 y.role, .int .i64 z, .int .i64 y.all, .int .i64 y.need] = W9 at NP z1 bE9 bN9 T9 R9 ⊢
  have HNP := Lib.hid NP.out
  have kE := fun i => bE9.cell i
  have kN := fun i => bN9.cell i
  have fN := fun i => bN9.frozen i
  have HBN := Lib.hid bN9
  go_wp2
  generalize hV2 : (World.setCell (World.setCell W9 _ _) _ _) = V2
  have bV : Bk V2 w.heap.size 75 #[.int .i64 x.places, .slice (some ⟨g, 0, none⟩) x.tasks.length c] := by rw [← hV2]; exact (HBN.out.set 0 _).set 1 _
  have hbl : ∀ b, w.heap.size + 1 ≤ b → V2.heap[b]? = W9.heap[b]? := fun b hb => by
   rw [← hV2]
   exact (Below.heap_setCell _ ⟨w.heap.size, 1, none⟩ _ b (by show b ≠ w.heap.size; omega)).trans (Below.heap_setCell _ ⟨w.heap.size, 0, none⟩ _ b (by show b ≠ w.heap.size; omega))
  have hsz : V2.heap.size = W9.heap.size := by rw [← hV2]; simp [World.setCell]
  have gV := (HNP.out.kept (by rw [hsz]; exact Nat.le_refl _) fun b h1 _ => hbl b h1).low (Nat.le_succ w.heap.size)
  have tV : Turned R w V2 := by rw [← hV2]; exact T9.out.trans' (((Below.refl _ _).setCell (p := ⟨w.heap.size, 0, none⟩) (Nat.le_refl _) _).setCell (p := ⟨w.heap.size, 1, none⟩) (Nat.le_refl _) _)
  have rV : RdB V2 R (P + 400) := by rw [← hV2]; exact (R9.out.low (((Below.refl w.heap.size _).setCell (p := ⟨w.heap.size, 0, none⟩) (Nat.le_refl _) _).setCell (p := ⟨w.heap.size, 1, none⟩) (Nat.le_refl _) _) hR).mono (by omega)
  clear hV2 kE kN fN hbl hsz z1 z2 bE9 bN9
  have k1 := fun i => bV.cell i
  refine bodyPost_ret (v := .agg #[.int .i64 x.places, .slice (some ⟨g, 0, none⟩) x.tasks.length c]) (by simp [results, Try.results63, go_sem, k1]) rfl ?_
  exact ⟨⟨x.places, x.tasks.set k { y with «apart» := z }⟩, g, c, by simp, gV, HOK.out.put k { y with «apart» := z } (by obtain ⟨q1, q2, q3, q4, _⟩ := HSY.out; exact ⟨by show y.inn.length ≤ 10; omega, by show y.out.length ≤ 10; omega, by show y.clear.length ≤ 10; omega, by show y.need ≤ 100; omega⟩), rV, tV⟩
 ·
  have kT := fun i => S7.out.bT.cell i
  have kT7 : w5.cell? ⟨T, 7, none⟩ = some (.int .i64 y.all) := S7.out.bT.cell 7
  clear kT
  have hTl := S7.out.bT.lt
  have hy13 : 1 ≤ y.all ∧ y.all ≤ 3 := HSY.out.2.2.2.2
  have hsum : IntKind.i64.wrap (y.all + 1) = y.all + 1 := IntWalk.i64_in _ (by omega)
  go_upto_region 26 with fail
  have hbd : Below (T + 1) w5 w5.drew := (Below.refl _ _).drew
  refine wp_region_held_drew (S := fun V : World => V.cell? ⟨T, 7, none⟩ = some (.int .i64 y.all)) (by kernel_rfl) kT7 (fun hHeld => ?_)
  have SD := Lib.hid (S7.out.low (by omega) (Nat.le_refl _) hbd)
  have hTd : T < w5.drew.heap.size := hTl
  clear hbd kT7
  generalize w5.drew = wd at SD hHeld hTd ⊢
  refine tk (i := 0) (v := ?_) rfl (.inl ⟨by rfl, ?_⟩) ?_
  rotate_left
  ·
   intro V hSw; (try dsimp only at hSw); go_simp; (try with_reducible rfl)
  simp only [sA, sB, sC, Act.put, sD, sE, sF]
  refine tk (i := 1) (v := ?_) rfl (.inl ⟨by rfl, ?_⟩) ?_
  rotate_left
  ·
   intro V hSw; (try dsimp only at hSw); go_simp; (try with_reducible rfl)
  simp only [sA, sB, sC, Act.put, sD, sE, sF]
  refine tk (i := 2) (v := ?_) rfl (.inl ⟨by rfl, ?_⟩) ?_
  rotate_left
  ·
   intro V hSw; (try dsimp only at hSw); go_simp; (try with_reducible rfl)
  simp only [sA, sB, sC, Act.put, sD, sE, sF]
  refine tk (i := 4) (v := ?_) rfl (.inl ⟨by rfl, ?_⟩) ?_
  rotate_left
  ·
   intro V hSw; (try dsimp only at hSw); go_simp; (try with_reducible rfl)
  simp only [sA, sB, sC, Act.put, sD, sE, sF]
  refine wpAnyH_ready (rs := [3, 5]) (by kernel_rfl) (by simp) ?_
  refine AllReadyH.cons rfl (fun K hK => ?_) (AllReadyH.cons rfl (fun K hK => ?_) (AllReadyH.nil))
  ·
   go_simp
   have hTp := SD.out.bT.lt
   refine hK.out _ _ (by (try dsimp only); rw [World.cell?_alloc_lt _ _ ⟨T, 7, none⟩ hTp]; exact SD.out.bT.cell 7) (fun hHeld => ?_)
   clear hK K
   have SA := Lib.hid (SD.out.low (by omega) (Nat.le_refl _) ((Below.refl _ _).alloc (by omega) (.cells #[.int .i64 0, .int .i64 (y.all + 1)] 3)))
   have bL : Bk (World.alloc wd (.cells #[.int .i64 0, .int .i64 (y.all + 1)] 3)) wd.heap.size 3 #[.int .i64 0, .int .i64 (y.all + 1)] := Bk.new rfl
   have hAB : T < wd.heap.size := hTp
   generalize hWA : World.alloc wd _ = wA at SA bL hHeld ⊢
   clear hWA
   refine wpAnyH_ready (rs := [5]) (by kernel_rfl) (by simp) ?_
   refine AllReadyH.cons rfl (fun K hK => ?_) (AllReadyH.nil)
   ·
    go_simp
    go_wp2_with (go_at_call 47; refine (l20Rd_pick R _ 2 _ SA.out.rd (by omega) (by omega)).mono ?_; rintro e wP ⟨vP, rfl, hvP, huP, _, hrP, htP⟩; have SP := Lib.hid (SA.out.pick (by omega) hrP htP); have bL := bL.turned htP (by omega); clear hrP htP)
    refine hK.out _ _ (SP.out.bT.cell 7) (fun hHeld => ?_)
    clear hK K
    obtain ⟨qP, rfl⟩ := Int.eq_ofNat_of_zero_le hvP
    have hqP : (qP : Int) < 2 := huP (by omega)
    clear huP
    refine tk (i := 6) (v := ?_) rfl (.inl ⟨by rfl, ?_⟩) ?_
    rotate_left
    ·
     intro V hSw; (try dsimp only at hSw); go_simp; (try with_reducible rfl)
    simp only [sA, sB, sC, Act.put, sD, sE, sF]
    refine wpAnyH_ready (rs := [7]) (by kernel_rfl) (by simp) ?_
    refine AllReadyH.cons rfl (fun K hK => ?_) (AllReadyH.nil)
    ·
     obtain ⟨zP, hzP, hz0⟩ : ∃ zP : Int, wP.cell? ⟨wd.heap.size, qP, none⟩ = some (.int .i64 zP) ∧ zP ≤ 100 := by
      have hb := bL.cell qP
      rcases (by omega : qP = 0 ∨ qP = 1) with rfl | rfl
      ·
       exact ⟨0, hb, by omega⟩
      ·
       exact ⟨y.all + 1, hb, by omega⟩
     go_simp
     refine hK.out _ _ (SP.out.bT.cell 7) (fun hHeld => ?_)
     clear hK K
     refine tk (i := 8) (v := ?_) rfl (.inl ⟨by rfl, ?_⟩) ?_
     rotate_left
     ·
      intro V hSw; (try dsimp only at hSw); go_simp; (try with_reducible rfl)
     simp only [sA, sB, sC, Act.put, sD, sE, sF]
     refine wpAnyH_ready (rs := [9]) (by kernel_rfl) (by simp) ?_
     refine AllReadyH.cons rfl (fun K hK => ?_) (AllReadyH.nil)
     ·
      have kT := fun i => SP.out.bT.cell i
      have fT := fun i => SP.out.bT.frozen i
      go_simp
      clear kT fT
      have S9 := Lib.hid (SP.out.need_ (by omega) (Nat.le_refl _) zP).done
      refine hK.out _ _ (S9.out.bT.cell 7) (fun hHeld => ?_)
      clear hK K
      refine wpAnyH_done (by kernel_rfl) ?_ _
      have HZ0 := Lib.hid hz0
      clear hHeld hzP hz0 hsum hy13
      generalize World.setCell wP ⟨T, 8, none⟩ (.int .i64 zP) = w9 at S9 ⊢
      have LT := S9.out.bT.lt
      have kT := fun i => S9.out.bT.cell i
      have kE := fun i => S9.out.bE.cell i
      have hgl := S9.out.net.lt
      have hfrg := fun i => S9.out.net.frozen i
      have hthere : ∀ q, q < 9 → (w9.cell? ⟨g, k * 9 + q, none⟩).isSome = true := fun q hq => by
       obtain ⟨cs0, a, b⟩ := S9.out.net.2.2 k hk
       rw [b q _ (List.getElem?_eq_getElem (by rw [a.len]; exact hq))]; rfl
      go_upto_region 28 with (refine wpList_store_agg rfl 99 (.tmp 132) (.tmp 131) ?_ g (k * 9) [.int .i64 y.join, .int .i64 y.split, .slice A1 y.inn.length c1, .slice A2 y.out.length c2, .slice A3 y.clear.length c3, .int .i64 y.role, .int .i64 y.apart, .int .i64 y.all, .int .i64 zP] ?_ ?_ ?_ ?_ ?_ ?_ ?_; rfl; rfl; rfl; kernel_rfl; exact fun q hq => hthere q (by simpa using hq); exact fun q => hfrg q; simp [Value.oneCell'])
      have NP := Lib.hid (S9.out.net.put hk S9.out.ta)
      obtain ⟨z1, z2⟩ := heap_put [.int .i64 y.join, .int .i64 y.split, .slice A1 y.inn.length c1, .slice A2 y.out.length c2, .slice A3 y.clear.length c3, .int .i64 y.role, .int .i64 y.apart, .int .i64 y.all, .int .i64 zP] w9 g (k * 9)
      have bE9 : Bk (putCells w9 g (k * 9) [.int .i64 y.join, .int .i64 y.split, .slice A1 y.inn.length c1, .slice A2 y.out.length c2, .slice A3 y.clear.length c3, .int .i64 y.role, .int .i64 y.apart, .int .i64 y.all, .int .i64 zP]) E 75 _ := (z2 E S9.out.o3).trans S9.out.bE
      have hgN9 : w.heap.size + 1 ≤ g := S9.out.net.1
      have bN9 : Bk (putCells w9 g (k * 9) [.int .i64 y.join, .int .i64 y.split, .slice A1 y.inn.length c1, .slice A2 y.out.length c2, .slice A3 y.clear.length c3, .int .i64 y.role, .int .i64 y.apart, .int .i64 y.all, .int .i64 zP]) w.heap.size 75 _ := (z2 w.heap.size (by omega)).trans S9.out.bN
      have hB9 : Below g w9 (putCells w9 g (k * 9) [.int .i64 y.join, .int .i64 y.split, .slice A1 y.inn.length c1, .slice A2 y.out.length c2, .slice A3 y.clear.length c3, .int .i64 y.role, .int .i64 y.apart, .int .i64 y.all, .int .i64 zP]) := bPut _ _ (Below.refl _ _) (Nat.le_refl _)
      have T9 := Lib.hid (S9.out.tu.trans' (hB9.mono (by omega)))
      have R9 := Lib.hid (S9.out.rd.low hB9 (by omega))
      clear kT kE hfrg hthere hB9
      generalize putCells w9 g (k * 9) [.int .i64 y.join, .int .i64 y.split, .slice A1 y.inn.length c1, .slice A2 y.out.length c2, .slice A3 y.clear.length c3, .int .i64 y.role, .int .i64 y.apart, .int .i64 y.all, .int .i64 zP] = W9 at NP z1 bE9 bN9 T9 R9 ⊢
      have HNP := Lib.hid NP.out
      have kE := fun i => bE9.cell i
      have kN := fun i => bN9.cell i
      have fN := fun i => bN9.frozen i
      have HBN := Lib.hid bN9
      go_wp2
      generalize hV2 : (World.setCell (World.setCell W9 _ _) _ _) = V2
      have bV : Bk V2 w.heap.size 75 #[.int .i64 x.places, .slice (some ⟨g, 0, none⟩) x.tasks.length c] := by rw [← hV2]; exact (HBN.out.set 0 _).set 1 _
      have hbl : ∀ b, w.heap.size + 1 ≤ b → V2.heap[b]? = W9.heap[b]? := fun b hb => by
       rw [← hV2]
       exact (Below.heap_setCell _ ⟨w.heap.size, 1, none⟩ _ b (by show b ≠ w.heap.size; omega)).trans (Below.heap_setCell _ ⟨w.heap.size, 0, none⟩ _ b (by show b ≠ w.heap.size; omega))
      have hsz : V2.heap.size = W9.heap.size := by rw [← hV2]; simp [World.setCell]
      have gV := (HNP.out.kept (by rw [hsz]; exact Nat.le_refl _) fun b h1 _ => hbl b h1).low (Nat.le_succ w.heap.size)
      have tV : Turned R w V2 := by rw [← hV2]; exact T9.out.trans' (((Below.refl _ _).setCell (p := ⟨w.heap.size, 0, none⟩) (Nat.le_refl _) _).setCell (p := ⟨w.heap.size, 1, none⟩) (Nat.le_refl _) _)
      have rV : RdB V2 R (P + 400) := by rw [← hV2]; exact (R9.out.low (((Below.refl w.heap.size _).setCell (p := ⟨w.heap.size, 0, none⟩) (Nat.le_refl _) _).setCell (p := ⟨w.heap.size, 1, none⟩) (Nat.le_refl _) _) hR).mono (by omega)
      clear hV2 kE kN fN hbl hsz z1 z2 bE9 bN9
      have k1 := fun i => bV.cell i
      refine bodyPost_ret (v := .agg #[.int .i64 x.places, .slice (some ⟨g, 0, none⟩) x.tasks.length c]) (by simp [results, Try.results63, go_sem, k1]) rfl ?_
      exact ⟨⟨x.places, x.tasks.set k { y with need := zP }⟩, g, c, by simp, gV, HOK.out.put k { y with need := zP } (by obtain ⟨q1, q2, q3, q4, _⟩ := HSY.out; exact ⟨by show y.inn.length ≤ 10; omega, by show y.out.length ≤ 10; omega, by show y.clear.length ≤ 10; omega, by show zP ≤ 100; exact HZ0.out⟩), rV, tV⟩
  ·
   go_simp
   go_wp2_with (go_at_call 47; refine (l20Rd_pick R _ 2 _ SD.out.rd (by omega) (by omega)).mono ?_; rintro e wP ⟨vP, rfl, hvP, huP, _, hrP, htP⟩; have SP := Lib.hid (SD.out.pick (by omega) hrP htP); clear hrP htP)
   refine hK.out _ _ (SP.out.bT.cell 7) (fun hHeld => ?_)
   clear hK K
   obtain ⟨qP, rfl⟩ := Int.eq_ofNat_of_zero_le hvP
   have hqP : (qP : Int) < 2 := huP (by omega)
   clear huP
   refine wpAnyH_ready (rs := [3]) (by kernel_rfl) (by simp) ?_
   refine AllReadyH.cons rfl (fun K hK => ?_) (AllReadyH.nil)
   ·
    go_simp
    have hTp := SP.out.bT.lt
    refine hK.out _ _ (by (try dsimp only); rw [World.cell?_alloc_lt _ _ ⟨T, 7, none⟩ hTp]; exact SP.out.bT.cell 7) (fun hHeld => ?_)
    clear hK K
    have SA := Lib.hid (SP.out.low (by omega) (Nat.le_refl _) ((Below.refl _ _).alloc (by omega) (.cells #[.int .i64 0, .int .i64 (y.all + 1)] 3)))
    have bL : Bk (World.alloc wP (.cells #[.int .i64 0, .int .i64 (y.all + 1)] 3)) wP.heap.size 3 #[.int .i64 0, .int .i64 (y.all + 1)] := Bk.new rfl
    have hAB : T < wP.heap.size := hTp
    generalize hWA : World.alloc wP _ = wA at SA bL hHeld ⊢
    clear hWA
    refine tk (i := 6) (v := ?_) rfl (.inl ⟨by rfl, ?_⟩) ?_
    rotate_left
    ·
     intro V hSw; (try dsimp only at hSw); go_simp; (try with_reducible rfl)
    simp only [sA, sB, sC, Act.put, sD, sE, sF]
    refine wpAnyH_ready (rs := [7]) (by kernel_rfl) (by simp) ?_
    refine AllReadyH.cons rfl (fun K hK => ?_) (AllReadyH.nil)
    ·
     obtain ⟨zP, hzP, hz0⟩ : ∃ zP : Int, wA.cell? ⟨wP.heap.size, qP, none⟩ = some (.int .i64 zP) ∧ zP ≤ 100 := by
      have hb := bL.cell qP
      rcases (by omega : qP = 0 ∨ qP = 1) with rfl | rfl
      ·
       exact ⟨0, hb, by omega⟩
      ·
       exact ⟨y.all + 1, hb, by omega⟩
     go_simp
     refine hK.out _ _ (SA.out.bT.cell 7) (fun hHeld => ?_)
     clear hK K
     refine tk (i := 8) (v := ?_) rfl (.inl ⟨by rfl, ?_⟩) ?_
     rotate_left
     ·
      intro V hSw; (try dsimp only at hSw); go_simp; (try with_reducible rfl)
     simp only [sA, sB, sC, Act.put, sD, sE, sF]
     refine wpAnyH_ready (rs := [9]) (by kernel_rfl) (by simp) ?_
     refine AllReadyH.cons rfl (fun K hK => ?_) (AllReadyH.nil)
     ·
      have kT := fun i => SA.out.bT.cell i
      have fT := fun i => SA.out.bT.frozen i
      go_simp
      clear kT fT
      have S9 := Lib.hid (SA.out.need_ (by omega) (Nat.le_refl _) zP).done
      refine hK.out _ _ (S9.out.bT.cell 7) (fun hHeld => ?_)
      clear hK K
      refine wpAnyH_done (by kernel_rfl) ?_ _
      have HZ0 := Lib.hid hz0
      clear hHeld hzP hz0 hsum hy13
      generalize World.setCell wA ⟨T, 8, none⟩ (.int .i64 zP) = w9 at S9 ⊢
      have LT := S9.out.bT.lt
      have kT := fun i => S9.out.bT.cell i
      have kE := fun i => S9.out.bE.cell i
      have hgl := S9.out.net.lt
      have hfrg := fun i => S9.out.net.frozen i
      have hthere : ∀ q, q < 9 → (w9.cell? ⟨g, k * 9 + q, none⟩).isSome = true := fun q hq => by
       obtain ⟨cs0, a, b⟩ := S9.out.net.2.2 k hk
       rw [b q _ (List.getElem?_eq_getElem (by rw [a.len]; exact hq))]; rfl
      go_upto_region 28 with (refine wpList_store_agg rfl 99 (.tmp 132) (.tmp 131) ?_ g (k * 9) [.int .i64 y.join, .int .i64 y.split, .slice A1 y.inn.length c1, .slice A2 y.out.length c2, .slice A3 y.clear.length c3, .int .i64 y.role, .int .i64 y.apart, .int .i64 y.all, .int .i64 zP] ?_ ?_ ?_ ?_ ?_ ?_ ?_; rfl; rfl; rfl; kernel_rfl; exact fun q hq => hthere q (by simpa using hq); exact fun q => hfrg q; simp [Value.oneCell'])
      have NP := Lib.hid (S9.out.net.put hk S9.out.ta)
      obtain ⟨z1, z2⟩ := heap_put [.int .i64 y.join, .int .i64 y.split, .slice A1 y.inn.length c1, .slice A2 y.out.length c2, .slice A3 y.clear.length c3, .int .i64 y.role, .int .i64 y.apart, .int .i64 y.all, .int .i64 zP] w9 g (k * 9)
      have bE9 : Bk (putCells w9 g (k * 9) [.int .i64 y.join, .int .i64 y.split, .slice A1 y.inn.length c1, .slice A2 y.out.length c2, .slice A3 y.clear.length c3, .int .i64 y.role, .int .i64 y.apart, .int .i64 y.all, .int .i64 zP]) E 75 _ := (z2 E S9.out.o3).trans S9.out.bE
      have hgN9 : w.heap.size + 1 ≤ g := S9.out.net.1
      have bN9 : Bk (putCells w9 g (k * 9) [.int .i64 y.join, .int .i64 y.split, .slice A1 y.inn.length c1, .slice A2 y.out.length c2, .slice A3 y.clear.length c3, .int .i64 y.role, .int .i64 y.apart, .int .i64 y.all, .int .i64 zP]) w.heap.size 75 _ := (z2 w.heap.size (by omega)).trans S9.out.bN
      have hB9 : Below g w9 (putCells w9 g (k * 9) [.int .i64 y.join, .int .i64 y.split, .slice A1 y.inn.length c1, .slice A2 y.out.length c2, .slice A3 y.clear.length c3, .int .i64 y.role, .int .i64 y.apart, .int .i64 y.all, .int .i64 zP]) := bPut _ _ (Below.refl _ _) (Nat.le_refl _)
      have T9 := Lib.hid (S9.out.tu.trans' (hB9.mono (by omega)))
      have R9 := Lib.hid (S9.out.rd.low hB9 (by omega))
      clear kT kE hfrg hthere hB9
      generalize putCells w9 g (k * 9) [.int .i64 y.join, .int .i64 y.split, .slice A1 y.inn.length c1, .slice A2 y.out.length c2, .slice A3 y.clear.length c3, .int .i64 y.role, .int .i64 y.apart, .int .i64 y.all, .int .i64 zP] = W9 at NP z1 bE9 bN9 T9 R9 ⊢
      have HNP := Lib.hid NP.out
      have kE := fun i => bE9.cell i
      have kN := fun i => bN9.cell i
      have fN := fun i => bN9.frozen i
      have HBN := Lib.hid bN9
      go_wp2
      generalize hV2 : (World.setCell (World.setCell W9 _ _) _ _) = V2
      have bV : Bk V2 w.heap.size 75 #[.int .i64 x.places, .slice (some ⟨g, 0, none⟩) x.tasks.length c] := by rw [← hV2]; exact (HBN.out.set 0 _).set 1 _
      have hbl : ∀ b, w.heap.size + 1 ≤ b → V2.heap[b]? = W9.heap[b]? := fun b hb => by
       rw [← hV2]
       exact (Below.heap_setCell _ ⟨w.heap.size, 1, none⟩ _ b (by show b ≠ w.heap.size; omega)).trans (Below.heap_setCell _ ⟨w.heap.size, 0, none⟩ _ b (by show b ≠ w.heap.size; omega))
      have hsz : V2.heap.size = W9.heap.size := by rw [← hV2]; simp [World.setCell]
      have gV := (HNP.out.kept (by rw [hsz]; exact Nat.le_refl _) fun b h1 _ => hbl b h1).low (Nat.le_succ w.heap.size)
      have tV : Turned R w V2 := by rw [← hV2]; exact T9.out.trans' (((Below.refl _ _).setCell (p := ⟨w.heap.size, 0, none⟩) (Nat.le_refl _) _).setCell (p := ⟨w.heap.size, 1, none⟩) (Nat.le_refl _) _)
      have rV : RdB V2 R (P + 400) := by rw [← hV2]; exact (R9.out.low (((Below.refl w.heap.size _).setCell (p := ⟨w.heap.size, 0, none⟩) (Nat.le_refl _) _).setCell (p := ⟨w.heap.size, 1, none⟩) (Nat.le_refl _) _) hR).mono (by omega)
      clear hV2 kE kN fN hbl hsz z1 z2 bE9 bN9
      have k1 := fun i => bV.cell i
      refine bodyPost_ret (v := .agg #[.int .i64 x.places, .slice (some ⟨g, 0, none⟩) x.tasks.length c]) (by simp [results, Try.results63, go_sem, k1]) rfl ?_
      exact ⟨⟨x.places, x.tasks.set k { y with need := zP }⟩, g, c, by simp, gV, HOK.out.put k { y with need := zP } (by obtain ⟨q1, q2, q3, q4, _⟩ := HSY.out; exact ⟨by show y.inn.length ≤ 10; omega, by show y.out.length ≤ 10; omega, by show y.clear.length ≤ 10; omega, by show zP ≤ 100; exact HZ0.out⟩), rV, tV⟩
 ·
  go_wp2_with fail
  refine callsAt fun V8 hV => ?_
  have bL : Bk V8 w5.heap.size 3 (iv [0, 4, 1]).toArray := by rw [hV]; exact Bk.new rfl
  have hTl := S7.out.bT.lt
  have SV := Lib.hid (S7.out.low (by omega) (Nat.le_refl _) (by rw [hV]; exact (Below.refl _ _).alloc (by omega) _ : Below (T + 1) w5 V8))
  clear hV
  refine (l20Rd_pick R _ 3 _ SV.out.rd (by omega) (by omega)).mono ?_
  rintro e w8 ⟨v8, rfl, hv8, hu8, _, hr8, ht8⟩
  obtain ⟨q8, rfl⟩ := Int.eq_ofNat_of_zero_le hv8
  have hq8 : (q8 : Int) < 3 := hu8 (by omega)
  have S8 := Lib.hid (SV.out.pick (by omega) hr8 ht8)
  obtain ⟨z, hz⟩ := lit_at (bL.turned ht8 (by omega)) (k := q8) (by simp; omega)
  clear hr8 ht8 SV bL hu8
  have kT := fun i => S8.out.bT.cell i
  have fT := fun i => S8.out.bT.frozen i
  go_upto_region 27 with fail
  have S9 := Lib.hid (S8.out.all_ (by omega) (Nat.le_refl _) z).done
  clear kT fT hz S7
  generalize World.setCell w8 ⟨T, 7, none⟩ (.int .i64 z) = w9 at S9 ⊢
  have LT := S9.out.bT.lt
  have kT := fun i => S9.out.bT.cell i
  have kE := fun i => S9.out.bE.cell i
  have hgl := S9.out.net.lt
  have hfrg := fun i => S9.out.net.frozen i
  have hthere : ∀ q, q < 9 → (w9.cell? ⟨g, k * 9 + q, none⟩).isSome = true := fun q hq => by
   obtain ⟨cs0, a, b⟩ := S9.out.net.2.2 k hk
   rw [b q _ (List.getElem?_eq_getElem (by rw [a.len]; exact hq))]; rfl
  go_upto_region 28 with (refine wpList_store_agg rfl 99 (.tmp 132) (.tmp 131) ?_ g (k * 9) [.int .i64 y.join, .int .i64 y.split, .slice A1 y.inn.length c1, .slice A2 y.out.length c2, .slice A3 y.clear.length c3, .int .i64 y.role, .int .i64 y.apart, .int .i64 z, .int .i64 y.need] ?_ ?_ ?_ ?_ ?_ ?_ ?_; rfl; rfl; rfl; kernel_rfl; exact fun q hq => hthere q (by simpa using hq); exact fun q => hfrg q; simp [Value.oneCell'])
  have NP := Lib.hid (S9.out.net.put hk S9.out.ta)
  obtain ⟨z1, z2⟩ := heap_put [.int .i64 y.join, .int .i64 y.split, .slice A1 y.inn.length c1, .slice A2 y.out.length c2, .slice A3 y.clear.length c3, .int .i64 y.role, .int .i64 y.apart, .int .i64 z, .int .i64 y.need] w9 g (k * 9)
  have bE9 : Bk (putCells w9 g (k * 9) [.int .i64 y.join, .int .i64 y.split, .slice A1 y.inn.length c1, .slice A2 y.out.length c2, .slice A3 y.clear.length c3, .int .i64 y.role, .int .i64 y.apart, .int .i64 z, .int .i64 y.need]) E 75 _ := (z2 E S9.out.o3).trans S9.out.bE
  have hgN9 : w.heap.size + 1 ≤ g := S9.out.net.1
  have bN9 : Bk (putCells w9 g (k * 9) [.int .i64 y.join, .int .i64 y.split, .slice A1 y.inn.length c1, .slice A2 y.out.length c2, .slice A3 y.clear.length c3, .int .i64 y.role, .int .i64 y.apart, .int .i64 z, .int .i64 y.need]) w.heap.size 75 _ := (z2 w.heap.size (by omega)).trans S9.out.bN
  have hB9 : Below g w9 (putCells w9 g (k * 9) [.int .i64 y.join, .int .i64 y.split, .slice A1 y.inn.length c1, .slice A2 y.out.length c2, .slice A3 y.clear.length c3, .int .i64 y.role, .int .i64 y.apart, .int .i64 z, .int .i64 y.need]) := bPut _ _ (Below.refl _ _) (Nat.le_refl _)
  have T9 := Lib.hid (S9.out.tu.trans' (hB9.mono (by omega)))
  have R9 := Lib.hid (S9.out.rd.low hB9 (by omega))
  clear kT kE hfrg hthere hB9
  generalize putCells w9 g (k * 9) [.int .i64 y.join, .int .i64 y.split, .slice A1 y.inn.length c1, .slice A2 y.out.length c2, .slice A3 y.clear.length c3, .int .i64 y.role, .int .i64 y.apart, .int .i64 z, .int .i64 y.need] = W9 at NP z1 bE9 bN9 T9 R9 ⊢
  have HNP := Lib.hid NP.out
  have kE := fun i => bE9.cell i
  have kN := fun i => bN9.cell i
  have fN := fun i => bN9.frozen i
  have HBN := Lib.hid bN9
  go_wp2
  generalize hV2 : (World.setCell (World.setCell W9 _ _) _ _) = V2
  have bV : Bk V2 w.heap.size 75 #[.int .i64 x.places, .slice (some ⟨g, 0, none⟩) x.tasks.length c] := by rw [← hV2]; exact (HBN.out.set 0 _).set 1 _
  have hbl : ∀ b, w.heap.size + 1 ≤ b → V2.heap[b]? = W9.heap[b]? := fun b hb => by
   rw [← hV2]
   exact (Below.heap_setCell _ ⟨w.heap.size, 1, none⟩ _ b (by show b ≠ w.heap.size; omega)).trans (Below.heap_setCell _ ⟨w.heap.size, 0, none⟩ _ b (by show b ≠ w.heap.size; omega))
  have hsz : V2.heap.size = W9.heap.size := by rw [← hV2]; simp [World.setCell]
  have gV := (HNP.out.kept (by rw [hsz]; exact Nat.le_refl _) fun b h1 _ => hbl b h1).low (Nat.le_succ w.heap.size)
  have tV : Turned R w V2 := by rw [← hV2]; exact T9.out.trans' (((Below.refl _ _).setCell (p := ⟨w.heap.size, 0, none⟩) (Nat.le_refl _) _).setCell (p := ⟨w.heap.size, 1, none⟩) (Nat.le_refl _) _)
  have rV : RdB V2 R (P + 400) := by rw [← hV2]; exact (R9.out.low (((Below.refl w.heap.size _).setCell (p := ⟨w.heap.size, 0, none⟩) (Nat.le_refl _) _).setCell (p := ⟨w.heap.size, 1, none⟩) (Nat.le_refl _) _) hR).mono (by omega)
  clear hV2 kE kN fN hbl hsz z1 z2 bE9 bN9
  have k1 := fun i => bV.cell i
  refine bodyPost_ret (v := .agg #[.int .i64 x.places, .slice (some ⟨g, 0, none⟩) x.tasks.length c]) (by simp [results, Try.results63, go_sem, k1]) rfl ?_
  exact ⟨⟨x.places, x.tasks.set k { y with «all» := z }⟩, g, c, by simp, gV, HOK.out.put k { y with «all» := z } (by obtain ⟨q1, q2, q3, q4, _⟩ := HSY.out; exact ⟨by show y.inn.length ≤ 10; omega, by show y.out.length ≤ 10; omega, by show y.clear.length ≤ 10; omega, by show y.need ≤ 100; omega⟩), rV, tV⟩
end Go.Proofs.Ytjieilicjdoaaaa
