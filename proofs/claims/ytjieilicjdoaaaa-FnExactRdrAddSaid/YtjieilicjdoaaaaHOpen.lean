/- From a law's argument, as the statement reads it, to the lists that the walks speak of: slices of ints and of bytes. -/
import Derived.Test.YtjieilicjdoaaaaInts
import Derived.Test.YtjieilicjdoaaaaRows
import Derived.ProofKit
import Derived.OpenShut
import Derived.ShutString
import Derived.ChangeOld
import Derived.Below
import Derived.Test.YtjieilicjdoaaaaRecs
import Derived.Deep.Slices
import Derived.Test.YtjieilicjdoaaaaAsk
import Derived.Test.YtjieilicjdoaaaaRule
namespace Go.Proofs.Ytjieilicjdoaaaa
open Go.ChangeShapes Go.WideShapes Go.ChangeAt Go.RowKit

theorem own : ownKnob Try.prog.godebug = none := by kernel_rfl
theorem laidOut : laidOutB Try.prog = true := by kernel_rfl

/-- Bytes behind a slice's address. -/
def Bytes (w : World) (B : Nat) (A : Option Addr) (xs : List Int) : Prop :=
  xs.length ≤ 9223372036854775807 ∧ (0 < xs.length → ∃ b off, A = some ⟨b, off, none⟩ ∧ b < B ∧ ∀ j x, xs[j]? = some x → w.cell? ⟨b, off + j, none⟩ = some (.int .u8 x)) ∧ ∀ x ∈ xs, 0 ≤ x ∧ x ≤ 255

/-- Bytes behind a slice with room for c of them. -/
def Code (w : World) (B : Nat) (A : Option Addr) (c : Nat) (xs : List Int) : Prop := Bytes w B A xs ∧ xs.length ≤ c

section
variable {H : Type} {enc : TypeId × Value → H} {W : World} {d : DataW H} {p : List MemPlace} {v : Value} {base : Nat}

theorem cell_lit {a : Addr} {k : IntKind} {zs : List Int} (hcell : ∀ i, i < zs.length → W.cell? (a.add i) = some (.int k (zs.getD i 0))) (h0 : 0 < zs.length) :
    ∃ b off, a = ⟨b, off, none⟩ ∧ b < W.heap.size ∧ ∀ j x, zs[j]? = some x → W.cell? ⟨b, off + j, none⟩ = some (.int k x) := by
  obtain ⟨b, off, spot⟩ := a
  have hs : spot = none := by simpa [Addr.add] using World.cell?_spot (hcell 0 h0)
  subst hs
  have hadd : ∀ i, (⟨b, off, none⟩ : Addr).add i = ⟨b, off + i, none⟩ := by
    intro i
    unfold Addr.add
    split <;> simp_all
  refine ⟨b, off, rfl, World.block_lt_of_cell? W _ (hcell 0 h0), fun j x hx => ?_⟩
  obtain ⟨hj, hjx⟩ := List.getElem?_eq_some_iff.1 hx
  have h1 := hcell j hj
  rw [hadd, List.getD_eq_getElem?_getD, hx] at h1
  exact h1

set_option maxRecDepth 100000 in
theorem open_intS (hv : Value.okWide Try.prog W .any base 23 v) (h : DataW.Trod enc Try.prog W 0 (fun _ => true) true 23 v d p) :
    ∃ A c xs, v = .slice A xs.length c ∧ Ints W W.heap.size A xs := by
  obtain ⟨A, len, cap, rfl⟩ := okWide_slice Try.underlying23 hv
  obtain ⟨fuel, hf⟩ := h
  rcases open_ints Try.underlying23 Try.underlying3 (by kernel_rfl) hf with ⟨hcs, _⟩ | ⟨x, l, c, zs, hcs, _, hl, hm, hz, _, hcell, hwz⟩
  · simp [Value.cells] at hcs
    obtain ⟨rfl, rfl, rfl⟩ := hcs
    exact ⟨none, 0, [], rfl, Ints.nil⟩
  · simp [Value.cells] at hcs
    obtain ⟨rfl, rfl, rfl⟩ := hcs
    have hz' : zs.length = cap := by simpa using hz
    have hlen : (zs.take len).length = len := by rw [List.length_take]; omega
    refine ⟨some x, cap, zs.take len, by rw [hlen], ?_, fun h0 => ?_⟩
    · rw [hlen]; unfold maxLen at hm; omega
    · obtain ⟨b, off, rfl, hb, hc⟩ := cell_lit hcell (by rw [hlen] at h0; omega)
      refine ⟨b, off, rfl, hb, fun j y hy => hc j y ?_⟩
      rw [List.getElem?_take] at hy
      split at hy
      · exact hy
      · cases hy

set_option maxRecDepth 100000 in
theorem open_byteS (hv : Value.okWide Try.prog W .any base 39 v) (h : DataW.Trod enc Try.prog W 0 (fun _ => true) true 39 v d p) :
    ∃ A c xs, v = .slice A xs.length c ∧ Code W W.heap.size A c xs := by
  obtain ⟨A, len, cap, rfl⟩ := okWide_slice Try.underlying39 hv
  obtain ⟨fuel, hf⟩ := h
  rcases open_ints Try.underlying39 Try.underlying5 (by kernel_rfl) hf with ⟨hcs, _⟩ | ⟨x, l, c, zs, hcs, _, hl, hm, hz, _, hcell, hwz⟩
  · simp [Value.cells] at hcs
    obtain ⟨rfl, rfl, rfl⟩ := hcs
    exact ⟨none, 0, [], rfl, ⟨by simp, by simp, by simp⟩, by simp⟩
  · simp [Value.cells] at hcs
    obtain ⟨rfl, rfl, rfl⟩ := hcs
    have hz' : zs.length = cap := by simpa using hz
    have hlen : (zs.take len).length = len := by rw [List.length_take]; omega
    refine ⟨some x, cap, zs.take len, by rw [hlen], ⟨?_, fun h0 => ?_, fun y hy => ?_⟩, by rw [hlen]; exact hl⟩
    · rw [hlen]; unfold maxLen at hm; omega
    · obtain ⟨b, off, rfl, hb, hc⟩ := cell_lit hcell (by rw [hlen] at h0; omega)
      refine ⟨b, off, rfl, hb, fun j y hy => hc j y ?_⟩
      rw [List.getElem?_take] at hy
      split at hy
      · exact hy
      · cases hy
    · have := hwz y (List.mem_of_mem_take hy)
      exact bounds_u8 this
end
end Go.Proofs.Ytjieilicjdoaaaa

/- From an argument that is a slice of structs, as the statement reads it, to the list of records that the walks speak of. -/
namespace Go.Proofs.Ytjieilicjdoaaaa
open Go.ChangeShapes Go.WideShapes Go.ChangeAt Go.RowKit Go.Deep

section
variable {H : Type} {enc : TypeId × Value → H} {W : World}

theorem add_off (b off i : Nat) : (⟨b, off, none⟩ : Addr).add i = ⟨b, off + i, none⟩ := by
  unfold Addr.add
  split <;> simp_all

theorem open_rows {α : Type} [Inhabited α] {C : Cod α} {t e : TypeId} (ht : Try.prog.underlying t = some (.slice e)) (hk : Try.prog.cellsOf e = C.k) (hpos : 0 < C.k)
    (hel : ∀ (n : Nat) (cs : List Value) (y : DataW H × List MemPlace), DataW.trod enc Try.prog W 0 (fun _ => true) true n e cs = some y → ∃ x, C.R none W W.heap.size x cs)
    {fuel : Nat} {cs : List Value} {x : DataW H × List MemPlace} (h : DataW.trod enc Try.prog W 0 (fun _ => true) true fuel t cs = some x) :
    ∃ A c xs, cs = [.slice A xs.length c] ∧ Rows C none W W.heap.size A xs := by
  rcases open_slice ht h with ⟨hcs, _⟩ | ⟨a, len, cap, m, n, D, Pl, hcs, _, hl, hm, hmm, _, hi⟩
  · exact ⟨none, 0, [], by simpa using hcs, Rows.nil⟩
  · have hml : len ≤ m := by rw [hmm]; simpa using hl
    obtain ⟨f, hf⟩ := choose_lt (n := len) (p := fun i x => ∃ cs', C.R none W W.heap.size x cs' ∧ cs'.length = C.k ∧ ∀ j, j < C.k → W.cell? ((a.add (i * C.k)).add j) = cs'[j]?) (fun i hi' => by
      obtain ⟨cs', hc, hT⟩ := hi i (by omega)
      rw [hk] at hc
      obtain ⟨_, hcl, hat⟩ := World.cells?_some hc
      obtain ⟨x, hR⟩ := hel _ _ _ hT
      exact ⟨x, cs', hR, hcl, hat⟩)
    have hlen : ((List.range len).map f).length = len := by simp
    refine ⟨some a, cap, (List.range len).map f, by rw [hlen]; exact hcs, by rw [hlen]; unfold maxLen at hm; omega, fun h0 => ?_⟩
    rw [hlen] at h0
    obtain ⟨cs0, _, hl0, hc0⟩ := hf 0 h0
    have hc00 := hc0 0 hpos
    obtain ⟨b, off, spot⟩ := a
    have hsome : cs0[0]? = some (cs0[0]'(by omega)) := List.getElem?_eq_getElem (by omega)
    rw [hsome] at hc00
    have hs : spot = none := by simpa [Addr.add] using World.cell?_spot hc00
    subst hs
    rw [Nat.zero_mul, add_off, add_off] at hc00
    refine ⟨b, off, rfl, ⟨World.block_lt_of_cell? W _ hc00, fun _ h => by cases h⟩, fun j x hx => ?_⟩
    have hj : j < len := by have := (List.getElem?_eq_some_iff.1 hx).1; simpa using this
    have hxj : x = f j := by simpa [List.getElem?_map, List.getElem?_range hj] using hx.symm
    subst hxj
    obtain ⟨cs', hR, hcl, hat⟩ := hf j hj
    refine ⟨cs', hR, fun i u hu => ?_⟩
    have hik : i < C.k := by have := (List.getElem?_eq_some_iff.1 hu).1; omega
    have := hat i hik
    rw [add_off, add_off, hu] at this
    exact this

set_option maxRecDepth 100000 in
theorem open_rowsArg {α : Type} [Inhabited α] {C : Cod α} {t e : TypeId} {base : Nat} {v : Value} {d : DataW H} {p : List MemPlace} (ht : Try.prog.underlying t = some (.slice e)) (hk : Try.prog.cellsOf e = C.k) (hpos : 0 < C.k)
    (hel : ∀ (n : Nat) (cs : List Value) (y : DataW H × List MemPlace), DataW.trod enc Try.prog W 0 (fun _ => true) true n e cs = some y → ∃ x, C.R none W W.heap.size x cs)
    (hv : Value.okWide Try.prog W .any base t v) (h : DataW.Trod enc Try.prog W 0 (fun _ => true) true t v d p) : ∃ A c xs, v = .slice A xs.length c ∧ Rows C none W W.heap.size A xs := by
  obtain ⟨A, len, cap, rfl⟩ := okWide_slice ht hv
  obtain ⟨fuel, hf⟩ := h
  obtain ⟨A', c', xs, hcs, hR⟩ := open_rows ht hk hpos hel hf
  simp only [Value.cells, List.cons.injEq, and_true] at hcs
  exact ⟨A', c', xs, hcs, hR⟩

instance : Inhabited GDid := ⟨⟨0, 0⟩⟩
instance : Inhabited GItem := ⟨⟨0, 0, 0⟩⟩

/-- An int field of a struct that is read: its one cell. -/
theorem field_int {fs : Array Field} {cs : List Value} {ys : List (DataW H × List MemPlace)} {n i : Nat} {f : Field} {c : Value} (hlen : ys.length = fs.size)
    (hf : DataW.trod enc Try.prog W 0 (fun _ => true) true n f.type ((cs.drop f.offset).take (Try.prog.cellsOf f.type)) = ys[i]?) (hi : i < fs.size) (ht : Try.prog.underlying f.type = some (.int .i64)) (h1 : Try.prog.cellsOf f.type = 1) (hc : cs[f.offset]? = some c) :
    ∃ x, c = .int .i64 x := by
  rw [List.getElem?_eq_getElem (by omega), h1] at hf
  obtain ⟨x, hx, _, _⟩ := DataW.trod_int ht hf
  have hlt := (List.getElem?_eq_some_iff.1 hc)
  obtain ⟨hlt, hce⟩ := hlt
  rw [List.drop_eq_getElem_cons hlt] at hx
  simp only [List.take_succ_cons, List.take_zero, List.cons.injEq, and_true] at hx
  exact ⟨x, by rw [← hce, hx]⟩

set_option maxRecDepth 100000 in
theorem el_Int (n : Nat) (cs : List Value) (y : DataW H × List MemPlace) (h : DataW.trod enc Try.prog W 0 (fun _ => true) true n 3 cs = some y) : ∃ x, intC.R none W W.heap.size x cs := by
  obtain ⟨x, hx, _, _⟩ := DataW.trod_int Try.underlying3 h
  exact ⟨x, hx⟩

/-- A field of a struct that is a slice. -/
theorem field_rows {α : Type} [Inhabited α] {C : Cod α} {e : TypeId} {fs : Array Field} {cs : List Value} {ys : List (DataW H × List MemPlace)} {n i : Nat} {f : Field} {c : Value} (hlen : ys.length = fs.size)
    (hf : DataW.trod enc Try.prog W 0 (fun _ => true) true n f.type ((cs.drop f.offset).take (Try.prog.cellsOf f.type)) = ys[i]?) (hi : i < fs.size) (ht : Try.prog.underlying f.type = some (.slice e)) (h1 : Try.prog.cellsOf f.type = 1) (hc : cs[f.offset]? = some c)
    (hk : Try.prog.cellsOf e = C.k) (hpos : 0 < C.k)
    (hel : ∀ (n : Nat) (cs : List Value) (y : DataW H × List MemPlace), DataW.trod enc Try.prog W 0 (fun _ => true) true n e cs = some y → ∃ x, C.R none W W.heap.size x cs) :
    ∃ A c' xs, c = .slice A xs.length c' ∧ Rows C none W W.heap.size A xs := by
  rw [List.getElem?_eq_getElem (by omega), h1] at hf
  obtain ⟨A, c', xs, hcs, hR⟩ := open_rows ht hk hpos hel hf
  obtain ⟨hlt, hce⟩ := List.getElem?_eq_some_iff.1 hc
  rw [List.drop_eq_getElem_cons hlt] at hcs
  simp only [List.take_succ_cons, List.take_zero, List.cons.injEq, and_true] at hcs
  exact ⟨A, c', xs, by rw [← hce, hcs], hR⟩


set_option maxRecDepth 100000 in
theorem open_structArg {α : Type} {C : Cod α} {t : TypeId} {fs : Array Field} {base : Nat} {v : Value} {d : DataW H} {p : List MemPlace} (ht : Try.prog.underlying t = some (.struct fs))
    (hel : ∀ (n : Nat) (cs : List Value) (y : DataW H × List MemPlace), DataW.trod enc Try.prog W 0 (fun _ => true) true n t cs = some y → ∃ x, C.R none W W.heap.size x cs)
    (hv : Value.okWide Try.prog W .any base t v) (h : DataW.Trod enc Try.prog W 0 (fun _ => true) true t v d p) : ∃ x, ∃ cs : List Value, v = .agg cs.toArray ∧ C.R none W W.heap.size x cs := by
  obtain ⟨cs, rfl, _⟩ := okWide_struct ht hv
  obtain ⟨fuel, hf⟩ := h
  obtain ⟨x, hx⟩ := hel _ _ _ hf
  exact ⟨x, cs.toList, by simp, hx⟩
end
end Go.Proofs.Ytjieilicjdoaaaa

/- Arguments that are a question, as the statement reads them. -/
namespace Go.Proofs.Ytjieilicjdoaaaa
open Go.ChangeShapes Go.WideShapes Go.ChangeAt Go.RowKit Go.Deep
instance : Inhabited GAsk := ⟨⟨0, 0, 0⟩⟩
section
variable {H : Type} {enc : TypeId × Value → H} {W : World}
set_option maxRecDepth 100000 in
theorem el_Ask (n : Nat) (cs : List Value) (y : DataW H × List MemPlace) (h : DataW.trod enc Try.prog W 0 (fun _ => true) true n 25 cs = some y) : ∃ x, askC.R none W W.heap.size x cs := by
  obtain ⟨ys, n', _, _, hlen, hyl, hf⟩ := DataW.trod_struct Try.underlying25 h
  have hlen' : cs.length = 3 := hlen.trans (by kernel_rfl)
  match cs, hlen' with
  | [e0, e1, e2], _ =>
    obtain ⟨a0, rfl⟩ := field_int (i := 0) hyl (hf 0 _ rfl) (by decide) Try.underlying3 (by kernel_rfl) rfl
    obtain ⟨a1, rfl⟩ := field_int (i := 1) hyl (hf 1 _ rfl) (by decide) Try.underlying3 (by kernel_rfl) rfl
    obtain ⟨a2, rfl⟩ := field_int (i := 2) hyl (hf 2 _ rfl) (by decide) Try.underlying3 (by kernel_rfl) rfl
    exact ⟨⟨a0, a1, a2⟩, rfl⟩
set_option maxRecDepth 100000 in
theorem open_ask {base : Nat} {v : Value} {d : DataW H} {p : List MemPlace} (hv : Value.okWide Try.prog W .any base 25 v) (h : DataW.Trod enc Try.prog W 0 (fun _ => true) true 25 v d p) :
    ∃ x, ∃ cs : List Value, v = .agg cs.toArray ∧ askC.R none W W.heap.size x cs :=
  open_structArg Try.underlying25 el_Ask hv h
end
end Go.Proofs.Ytjieilicjdoaaaa

/- Arguments that are rules or a question, as the statement reads them. -/
namespace Go.Proofs.Ytjieilicjdoaaaa
open Go.ChangeShapes Go.WideShapes Go.ChangeAt Go.RowKit Go.Deep
instance : Inhabited GRule := ⟨rule0⟩
section
variable {H : Type} {enc : TypeId × Value → H} {W : World}
set_option maxRecDepth 100000 in
theorem el_Rule (n : Nat) (cs : List Value) (y : DataW H × List MemPlace) (h : DataW.trod enc Try.prog W 0 (fun _ => true) true n 57 cs = some y) : ∃ x, ruleC.R none W W.heap.size x cs := by
  obtain ⟨ys, n', _, _, hlen, hyl, hf⟩ := DataW.trod_struct Try.underlying57 h
  have hlen' : cs.length = 7 := hlen.trans (by kernel_rfl)
  match cs, hlen' with
  | [e0, e1, e2, e3, e4, e5, e6], _ =>
    have h0 := hf 0 _ rfl
    rw [List.getElem?_eq_getElem (by rw [hyl]; decide)] at h0
    obtain ⟨a, ha⟩ := el_Ask _ _ _ h0
    have ha' : [e0, e1, e2] = a.cells := ha
    simp only [GAsk.cells, List.cons.injEq, and_true] at ha'
    obtain ⟨rfl, rfl, rfl⟩ := ha'
    obtain ⟨a3, rfl⟩ := field_int (i := 1) hyl (hf 1 _ rfl) (by decide) Try.underlying3 (by kernel_rfl) rfl
    obtain ⟨a4, rfl⟩ := field_int (i := 2) hyl (hf 2 _ rfl) (by decide) Try.underlying3 (by kernel_rfl) rfl
    obtain ⟨a5, rfl⟩ := field_int (i := 3) hyl (hf 3 _ rfl) (by decide) Try.underlying3 (by kernel_rfl) rfl
    obtain ⟨A6, c6, a6, rfl, r6⟩ := field_rows (C := intC) (i := 4) hyl (hf 4 _ rfl) (by decide) Try.underlying23 (by kernel_rfl) rfl (by kernel_rfl) (by decide) el_Int
    exact ⟨⟨a, a3, a4, a5, a6⟩, A6, c6, rfl, r6⟩
set_option maxRecDepth 100000 in
theorem open_ruleS {base : Nat} {v : Value} {d : DataW H} {p : List MemPlace} (hv : Value.okWide Try.prog W .any base 22 v) (h : DataW.Trod enc Try.prog W 0 (fun _ => true) true 22 v d p) :
    ∃ A c xs, v = .slice A xs.length c ∧ Rows ruleC none W W.heap.size A xs :=
  open_rowsArg Try.underlying22 (by kernel_rfl) (by decide) el_Rule hv h
end
end Go.Proofs.Ytjieilicjdoaaaa

