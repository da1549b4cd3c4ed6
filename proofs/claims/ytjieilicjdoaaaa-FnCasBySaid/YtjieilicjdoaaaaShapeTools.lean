/- What drawing a net leaves, and the small steps of it. -/
import Derived.Test.YtjieilicjdoaaaaDrawTask
import Derived.Test.YtjieilicjdoaaaaNetOk
import Derived.Test.YtjieilicjdoaaaaGBase
namespace Go.Proofs.Ytjieilicjdoaaaa
open Go.RowKit

theorem OwnC.mono {α : Type} {C : Cod α} {e : TypeId} {w : World} {base base' : Nat} {v : Value} {xs : List α} (h : OwnC C e w base v xs) (hb : base' ≤ base) : OwnC C e w base' v xs := by
 obtain ⟨css, h1, h2, h3⟩ := h
 refine ⟨css, h1, fun j cs hj => ?_, h3.1, ?_⟩
 ·
  obtain ⟨x, lo, B, a1, a2, a3⟩ := h2 j cs hj
  exact ⟨x, lo, B, a1, by omega, a3⟩
 ·
  rcases h3.2 with hn | ⟨g, cap, cur, hv, hg, rest⟩
  ·
   exact .inl hn
  ·
   exact .inr ⟨g, cap, cur, hv, by omega, rest⟩

/-- A row of structs made at once, of structs that lie below it. -/
theorem OwnC.built {α : Type} {C : Cod α} {e : TypeId} {w : World} {base : Nat} (xs : List α) (css : List (List Value)) (hl : css.length = xs.length) (hmax : xs.length ≤ maxLen) (hb : base ≤ w.heap.size)
  (h : ∀ (j : Nat) (cs : List Value), css[j]? = some cs → ∃ x : α, xs[j]? = some x ∧ C.R (some base) w w.heap.size x cs) :
  OwnC C e (w.alloc (.cells css.flatten.toArray e)) base (.slice (some ⟨w.heap.size, 0, none⟩) xs.length xs.length) xs := by
 have hB : Below w.heap.size w (w.alloc (.cells css.flatten.toArray e)) := (Below.refl _ _).alloc (Nat.le_refl _) _
 have hlen : css.flatten.length = xs.length * C.k := by
  rw [flat_len css C.k (fun cs hcs => by
   obtain ⟨j, hj⟩ := List.mem_iff_getElem?.1 hcs
   obtain ⟨x, _, hR⟩ := h j cs hj
   exact C.len hR), hl]
 refine ⟨css, hl, fun j cs hj => ?_, hlen, .inr ⟨w.heap.size, xs.length, css.flatten.toArray, rfl, hb, heap_alloc_new w _, Nat.le_refl _, hmax, by simpa using hlen, ?_⟩⟩
 ·
  obtain ⟨x, hx, hR⟩ := h j cs hj
  exact ⟨x, base, w.heap.size, hx, Nat.le_refl _, hB.size, fun g hg => by cases hg; exact .inr (Nat.le_refl _), C.keep hR (Agree.of_below hB)⟩
 ·
  rw [← hlen]
  show css.flatten.take css.flatten.length = css.flatten
  exact List.take_length

theorem rows_made {W : World} {g lo : Nat} (xs : List Int) (h : Bk W g 3 (iv xs).toArray) (hl : xs.length ≤ 1000) (hlo : lo ≤ g) : Rows intC (some lo) W W.heap.size (some ⟨g, 0, none⟩) xs := by
 have hw : Wr W g 3 (iv xs) := ⟨(iv xs).toArray, h, by simp⟩
 exact hw.rows (by omega) hlo hw.lt

/-- While a net is drawn: the result's cell lies in block N; so many tasks are drawn. -/
def ShSt (R lo : Nat) (w0 : World) (N P : Nat) (l : List (GTask × List Value)) (W : World) : Prop :=
 Bk W N 75 #[.int .i64 0, .slice none 0 0] ∧ RdB W R P ∧ Turned R w0 W ∧ ∀ p ∈ l, taskC.R (some lo) W W.heap.size p.1 p.2

section
variable {R lo : Nat} {w0 W W' : World} {N P Q : Nat} {l : List (GTask × List Value)}
theorem ShSt.rd (h : ShSt R lo w0 N P l W) : RdB W R P := h.2.1
theorem ShSt.sz (h : ShSt R lo w0 N P l W) : w0.heap.size ≤ W.heap.size := h.2.2.1.size
theorem ShSt.pick (h : ShSt R lo w0 N P l W) (hlo : R < lo) (hN : N ≠ R) (hr : RdB W' R Q) (ht : Turned R W W') : ShSt R lo w0 N Q l W' := by
 obtain ⟨h1, h2, h3, h4⟩ := h
 exact ⟨h1.turned ht hN, hr, h3.trans ht, fun p hp => taskC.more (taskC.keep (h4 p hp) (ht.agree hlo (Nat.le_refl _))) ht.size⟩
theorem ShSt.more (h : ShSt R lo w0 N P l W) (hb : Below W.heap.size W W') : ShSt R lo w0 N P l W' := by
 obtain ⟨h1, h2, h3, h4⟩ := h
 exact ⟨h1.later hb, h2.grown hb, h3.then hb, fun p hp => taskC.more (taskC.keep (h4 p hp) (Agree.of_below hb)) hb.size⟩
theorem ShSt.alloc (h : ShSt R lo w0 N P l W) (o : Obj) : ShSt R lo w0 N P l (W.alloc o) := h.more ((Below.refl _ _).alloc (Nat.le_refl _) o)
theorem ShSt.mono (h : ShSt R lo w0 N P l W) (hq : P ≤ Q) : ShSt R lo w0 N Q l W := ⟨h.1, h.2.1.mono hq, h.2.2⟩
theorem ShSt.task (h : ShSt R lo w0 N P l W) (hlo : R < lo) (hN : N ≠ R) {x : GTask} {cs : List Value} (hx : taskC.R (some lo) W' W'.heap.size x cs) (hr : RdB W' R Q) (ht : Turned R W W') : ShSt R lo w0 N Q (l ++ [(x, cs)]) W' := by
 have h' := h.pick hlo hN hr ht
 exact ⟨h'.1, h'.2.1, h'.2.2.1, fun p hp => by
  rcases List.mem_append.1 hp with h1 | h1
  ·
   exact h'.2.2.2 p h1
  ·
   rw [List.mem_singleton.1 h1]; exact hx⟩
/-- The tasks made a row. -/
theorem ShSt.row (h : ShSt R lo w0 N P l W) (hlo : lo ≤ W.heap.size) (hl : l.length ≤ 100) :
  OwnC taskC 99 (W.alloc (.cells (l.map Prod.snd).flatten.toArray 99)) lo (.slice (some ⟨W.heap.size, 0, none⟩) (l.map Prod.fst).length (l.map Prod.fst).length) (l.map Prod.fst) :=
 OwnC.built (l.map Prod.fst) (l.map Prod.snd) (by simp) (by simp [maxLen]; omega) hlo fun j cs hj => by
  rw [List.getElem?_map, Option.map_eq_some_iff] at hj
  obtain ⟨p, hp, rfl⟩ := hj
  exact ⟨p.1, by rw [List.getElem?_map, hp]; rfl, h.2.2.2 p (List.mem_of_getElem? hp)⟩
end

/-- While a net is drawn task by task: it lies in block E. -/
def LpSt (R : Nat) (w0 : World) (N E P : Nat) (places : Int) (v : Value) (tasks : List GTask) (W : World) : Prop :=
 Bk W N 75 #[.int .i64 0, .slice none 0 0] ∧ Bk W E 75 #[.int .i64 places, v] ∧ OwnC taskC 99 W (E + 1) v tasks ∧ RdB W R P ∧ Turned R w0 W
section
variable {R : Nat} {w0 W W' : World} {N E P Q : Nat} {places : Int} {v : Value} {tasks : List GTask}
theorem LpSt.pick (h : LpSt R w0 N E P places v tasks W) (hN : N ≠ R) (hE : R < E) (hr : RdB W' R Q) (ht : Turned R W W') : LpSt R w0 N E Q places v tasks W' := by
 obtain ⟨h1, h2, h3, h4, h5⟩ := h
 exact ⟨h1.turned ht hN, h2.turned ht (by omega), h3.kept (Kept.of_turned ht (by omega)), hr, h5.trans ht⟩
theorem LpSt.more (h : LpSt R w0 N E P places v tasks W) (hb : Below W.heap.size W W') : LpSt R w0 N E P places v tasks W' := by
 obtain ⟨h1, h2, h3, h4, h5⟩ := h
 exact ⟨h1.later hb, h2.later hb, h3.later hb, h4.grown hb, h5.then hb⟩
theorem LpSt.rd (h : LpSt R w0 N E P places v tasks W) : RdB W R P := h.2.2.2.1
theorem LpSt.eb (h : LpSt R w0 N E P places v tasks W) : Bk W E 75 #[.int .i64 places, v] := h.2.1
theorem LpSt.mono (h : LpSt R w0 N E P places v tasks W) (hq : P ≤ Q) : LpSt R w0 N E Q places v tasks W := ⟨h.1, h.2.1, h.2.2.1, h.2.2.2.1.mono hq, h.2.2.2.2⟩
theorem LpSt.put (h : LpSt R w0 N E P places v tasks W) (hN : N < E) (hE : R < E) (h0 : w0.heap.size ≤ E) {v' : Value} {ts : List GTask} (ho : OwnC taskC 99 W' (E + 1) v' ts) (hb : Below (E + 1) W W') :
  LpSt R w0 N E P places v' ts (W'.setCell ⟨E, 1, none⟩ v') := by
 obtain ⟨h1, h2, h3, h4, h5⟩ := h
 refine ⟨Bk.far ((hb.block N (by omega)).trans h1) (p := ⟨E, 1, none⟩) (by show N ≠ E; omega) _, ?_, ho.kept (Kept.setCell (p := ⟨E, 1, none⟩) (by show E < E + 1; omega) _), ?_, ?_⟩
 ·
  exact Bk.set (show Bk W' E 75 #[.int .i64 places, v] from (hb.block E (by omega)).trans h2) 1 v'
 ·
  exact (h4.low hb (by omega)).low ((Below.refl E W').setCell (p := ⟨E, 1, none⟩) (Nat.le_refl _) _) hE
 ·
  exact (h5.trans' (hb.mono (by omega))).trans' ((Below.refl w0.heap.size W').setCell (p := ⟨E, 1, none⟩) h0 _)
end
theorem info_task : (Try.prog.info? 99).map (fun i => (i.zero, i.size, i.bytes)) = some (some (.agg #[.int .i64 0, .int .i64 0, .slice none 0 0, .slice none 0 0, .slice none 0 0, .int .i64 0, .int .i64 0, .int .i64 0, .int .i64 0]), 9, 120) := by kernel_rfl
theorem OwnV.bk {W : World} {g base : Nat} {xs : List Int} (h : Bk W g 3 (iv xs).toArray) (hb : base ≤ g) (hl : xs.length ≤ 1000) : OwnV W base (.slice (some ⟨g, 0, none⟩) xs.length xs.length) xs :=
 ⟨by rw [iv_len]; omega, .inr ⟨g, xs.length, (iv xs).toArray, rfl, hb, h, Nat.le_refl _, by unfold maxLen; omega, by simp [iv], by rw [Nat.mul_one, ← iv_len xs]; show (iv xs).take (iv xs).length = iv xs; exact List.take_length⟩⟩

/-- What drawing a net leaves: some net, its tasks in memory of the call's own. -/
def DrawnNet (R Q : Nat) (ok : GNet → Prop) (w : World) (e : Ending) (w' : World) : Prop :=
 ∃ (x : GNet) (v : Value), e = .returned (.agg #[.int .i64 x.places, v]) ∧ OwnC taskC 99 w' w.heap.size v x.tasks ∧ ok x ∧ RdB w' R Q ∧ Turned R w w'
end Go.Proofs.Ytjieilicjdoaaaa
