/- Slices of records copied and compared: what the copies read as, and that equal slices are found equal. -/
import Derived.Test.YtjieilicjdoaaaaFill
import Derived.StillTailTactics
namespace Go.Proofs.Ytjieilicjdoaaaa
open Go.RowKit

theorem run_make_rowN (t e : TypeId) (z : Value) (sz bytes : Nat) (ht : Try.prog.underlying t = some (.slice e)) (hinfo : (Try.prog.info? e).map (fun i => (i.zero, i.size, i.bytes)) = some (some z, sz, bytes))
    (n : Nat) (hbytes : bytes * n ≤ 281474976710656) (h63 : n ≤ 9223372036854775807) (w : World) :
    (Instr.makeSlice t (.int .i64 (n : Int)) (.int .i64 (n : Int))).run Try.prog w = .ok (.slice (some ⟨w.heap.size, 0, none⟩) n n) (w.alloc (.cells (madeCells z.cells (n * sz)) e)) := by
  obtain ⟨i, hi, hzz⟩ := Option.map_eq_some_iff.1 hinfo
  simp only [Prod.mk.injEq] at hzz
  obtain ⟨hz, hs, hb⟩ := hzz
  have hb' : (i.bytes : Int) * (n : Int) ≤ 281474976710656 := by
    rw [hb]
    have h : ((bytes * n : Nat) : Int) ≤ 281474976710656 := by omega
    rwa [Int.natCast_mul] at h
  have hr := run_make (P := Try.prog) w t e i z ht hi hz .i64 .i64 n n (by omega) (Int.le_refl _) hb' (by omega)
  simp only [Int.toNat_natCast, hs] at hr
  exact hr

theorem setCells_put (cs : List Value) : ∀ (w : World) (g o : Nat), w.setCells g o cs = putCells w g o cs := by
  induction cs with
  | nil => intro w g o; rfl
  | cons c cs ih => intro w g o; exact ih _ g (o + 1)

/-- A struct stored into a row, told at the operation: its cells are put one behind the other. -/
theorem wpList_store_agg {ops : Array Oper} {rest : List Oper} {o : Oper} {a : Act} {w : World} {Q : Exit → Act → World → Prop} (hg : o.guard = none) (ty : TypeId) (x y : Operand) (ho : o.op = .store ty x y)
    (b off : Nat) (cs : List Value) (hx : a.eval x = .pointer (some ⟨b, off, none⟩)) (hy : a.eval y = .agg cs.toArray) (hi : (Try.prog.info? ty).map (·.size) = some cs.length)
    (hc : ∀ j, j < cs.length → (w.cell? ⟨b, off + j, none⟩).isSome = true) (hf : ∀ j, w.frozen? ⟨b, j, none⟩ = false) (h1 : ∀ v ∈ cs, v.oneCell' = true)
    (h : wpList Try.prog ops Q rest (a.put o.dst undef) (putCells w b off cs)) : wpList Try.prog ops Q (o :: rest) a w := by
  refine wpList_plain hg fun K hK => ?_
  have hs := run_storeCells_cells (P := Try.prog) b off cs 0 w (by simpa using hc) (fun j _ => hf _) h1
  unfold Oper.wp execOp
  cases hq : Try.prog.info? ty with
  | none => simp [hq] at hi
  | some i =>
    have hsz : i.size = cs.length := by simpa [hq] using hi
    simp only [ho, hx, hy, Instr.storeAt, Instr.sureAddr, Sem.run_bind, Sem.run_pure, Result.andThen_ok]
    simp [storeVar, sizeOf, typeInfo, hq, Value.cells, hsz, hs, setCells_put]
    exact hK _ _ h

/-- What copying a slice of records leaves: a new row that reads as the same data, in memory of its own. -/
def Made {α : Type} (C : Cod α) (xs : List α) (w : World) (e : Ending) (w' : World) : Prop :=
  ∃ g, w.heap.size ≤ g ∧ e = .returned (.slice (some ⟨g, 0, none⟩) xs.length xs.length) ∧ Rows C (some w.heap.size) w' w'.heap.size (some ⟨g, 0, none⟩) xs ∧ Below w.heap.size w w'

/-- What is left of a measure when n more things are counted; -1, if that is too many. -/
def szOf (n : Nat) (left : Int) : Int := if left - n < 0 then -1 else left - n
end Go.Proofs.Ytjieilicjdoaaaa
