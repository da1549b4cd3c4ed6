/- From an argument that is a slice of structs, as the statement reads it, to the list of records that the walks speak of. -/
import Derived.Test.YtkkjljpokannkaaOpen
import Derived.Test.YtkkjljpokannkaaRecs
import Derived.Deep.Slices
namespace Go.Proofs.Ytkkjljpokannkaa
open Go.ChangeShapes Go.WideShapes Go.ChangeAt Go.RowKit Go.Deep

section
variable {H : Type} {enc : TypeId × Value → H} {W : World}

theorem add_off (b off i : Nat) : (⟨b, off, none⟩ : Addr).add i = ⟨b, off + i, none⟩ := by
  unfold Addr.add
  split <;> simp_all

theorem open_rows {α : Type} [Inhabited α] {C : Cod α} {t e : TypeId} (ht : Try.prog.underlying t = some (.slice e)) (hk : Try.prog.cellsOf e = C.k) (hpos : 0 < C.k)
    (hel : ∀ (n : Nat) (cs : List Value) (y : DataW H × List MemPlace), DataW.trod enc Try.prog W 0 (fun _ => true) true n e cs = some y → ∃ x, C.R none W W.heap.size x cs)
    {fuel : Nat} {cs : List Value} {x : DataW H × List MemPlace} (h : DataW.trod enc Try.prog W 0 (fun _ => true) true fuel t cs = some x) :
    ∃ A c xs, cs = [.slice A xs.length c] ∧ Rows C none W W.heap.size A xs := by
  rcases open_slice ht h with ⟨hcs, _⟩ | ⟨a, len, cap, m, n, D, Pl, hcs, _, hl, hm, hmm, _, hi⟩
  · exact ⟨none, 0, [], by simpa using hcs, Rows.nil⟩
  · have hml : len ≤ m := by rw [hmm]; simpa using hl
    obtain ⟨f, hf⟩ := choose_lt (n := len) (p := fun i x => ∃ cs', C.R none W W.heap.size x cs' ∧ cs'.length = C.k ∧ ∀ j, j < C.k → W.cell? ((a.add (i * C.k)).add j) = cs'[j]?) (fun i hi' => by
      obtain ⟨cs', hc, hT⟩ := hi i (by omega)
      rw [hk] at hc
      obtain ⟨_, hcl, hat⟩ := World.cells?_some hc
      obtain ⟨x, hR⟩ := hel _ _ _ hT
      exact ⟨x, cs', hR, hcl, hat⟩)
    have hlen : ((List.range len).map f).length = len := by simp
    refine ⟨some a, cap, (List.range len).map f, by rw [hlen]; exact hcs, by rw [hlen]; unfold maxLen at hm; omega, fun h0 => ?_⟩
    rw [hlen] at h0
    obtain ⟨cs0, _, hl0, hc0⟩ := hf 0 h0
    have hc00 := hc0 0 hpos
    obtain ⟨b, off, spot⟩ := a
    have hsome : cs0[0]? = some (cs0[0]'(by omega)) := List.getElem?_eq_getElem (by omega)
    rw [hsome] at hc00
    have hs : spot = none := by simpa [Addr.add] using World.cell?_spot hc00
    subst hs
    rw [Nat.zero_mul, add_off, add_off] at hc00
    refine ⟨b, off, rfl, ⟨World.block_lt_of_cell? W _ hc00, fun _ h => by cases h⟩, fun j x hx => ?_⟩
    have hj : j < len := by have := (List.getElem?_eq_some_iff.1 hx).1; simpa using this
    have hxj : x = f j := by simpa [List.getElem?_map, List.getElem?_range hj] using hx.symm
    subst hxj
    obtain ⟨cs', hR, hcl, hat⟩ := hf j hj
    refine ⟨cs', hR, fun i u hu => ?_⟩
    have hik : i < C.k := by have := (List.getElem?_eq_some_iff.1 hu).1; omega
    have := hat i hik
    rw [add_off, add_off, hu] at this
    exact this

set_option maxRecDepth 100000 in
theorem open_rowsArg {α : Type} [Inhabited α] {C : Cod α} {t e : TypeId} {base : Nat} {v : Value} {d : DataW H} {p : List MemPlace} (ht : Try.prog.underlying t = some (.slice e)) (hk : Try.prog.cellsOf e = C.k) (hpos : 0 < C.k)
    (hel : ∀ (n : Nat) (cs : List Value) (y : DataW H × List MemPlace), DataW.trod enc Try.prog W 0 (fun _ => true) true n e cs = some y → ∃ x, C.R none W W.heap.size x cs)
    (hv : Value.okWide Try.prog W .any base t v) (h : DataW.Trod enc Try.prog W 0 (fun _ => true) true t v d p) : ∃ A c xs, v = .slice A xs.length c ∧ Rows C none W W.heap.size A xs := by
  obtain ⟨A, len, cap, rfl⟩ := okWide_slice ht hv
  obtain ⟨fuel, hf⟩ := h
  obtain ⟨A', c', xs, hcs, hR⟩ := open_rows ht hk hpos hel hf
  simp only [Value.cells, List.cons.injEq, and_true] at hcs
  exact ⟨A', c', xs, hcs, hR⟩

instance : Inhabited GDid := ⟨⟨0, 0⟩⟩
instance : Inhabited GItem := ⟨⟨0, 0, 0⟩⟩

/-- An int field of a struct that is read: its one cell. -/
theorem field_int {fs : Array Field} {cs : List Value} {ys : List (DataW H × List MemPlace)} {n i : Nat} {f : Field} {c : Value} (hlen : ys.length = fs.size)
    (hf : DataW.trod enc Try.prog W 0 (fun _ => true) true n f.type ((cs.drop f.offset).take (Try.prog.cellsOf f.type)) = ys[i]?) (hi : i < fs.size) (ht : Try.prog.underlying f.type = some (.int .i64)) (h1 : Try.prog.cellsOf f.type = 1) (hc : cs[f.offset]? = some c) :
    ∃ x, c = .int .i64 x := by
  rw [List.getElem?_eq_getElem (by omega), h1] at hf
  obtain ⟨x, hx, _, _⟩ := DataW.trod_int ht hf
  have hlt := (List.getElem?_eq_some_iff.1 hc)
  obtain ⟨hlt, hce⟩ := hlt
  rw [List.drop_eq_getElem_cons hlt] at hx
  simp only [List.take_succ_cons, List.take_zero, List.cons.injEq, and_true] at hx
  exact ⟨x, by rw [← hce, hx]⟩

set_option maxRecDepth 100000 in
theorem el_Int (n : Nat) (cs : List Value) (y : DataW H × List MemPlace) (h : DataW.trod enc Try.prog W 0 (fun _ => true) true n 3 cs = some y) : ∃ x, intC.R none W W.heap.size x cs := by
  obtain ⟨x, hx, _, _⟩ := DataW.trod_int Try.underlying3 h
  exact ⟨x, hx⟩

/-- A field of a struct that is a slice. -/
theorem field_rows {α : Type} [Inhabited α] {C : Cod α} {e : TypeId} {fs : Array Field} {cs : List Value} {ys : List (DataW H × List MemPlace)} {n i : Nat} {f : Field} {c : Value} (hlen : ys.length = fs.size)
    (hf : DataW.trod enc Try.prog W 0 (fun _ => true) true n f.type ((cs.drop f.offset).take (Try.prog.cellsOf f.type)) = ys[i]?) (hi : i < fs.size) (ht : Try.prog.underlying f.type = some (.slice e)) (h1 : Try.prog.cellsOf f.type = 1) (hc : cs[f.offset]? = some c)
    (hk : Try.prog.cellsOf e = C.k) (hpos : 0 < C.k)
    (hel : ∀ (n : Nat) (cs : List Value) (y : DataW H × List MemPlace), DataW.trod enc Try.prog W 0 (fun _ => true) true n e cs = some y → ∃ x, C.R none W W.heap.size x cs) :
    ∃ A c' xs, c = .slice A xs.length c' ∧ Rows C none W W.heap.size A xs := by
  rw [List.getElem?_eq_getElem (by omega), h1] at hf
  obtain ⟨A, c', xs, hcs, hR⟩ := open_rows ht hk hpos hel hf
  obtain ⟨hlt, hce⟩ := List.getElem?_eq_some_iff.1 hc
  rw [List.drop_eq_getElem_cons hlt] at hcs
  simp only [List.take_succ_cons, List.take_zero, List.cons.injEq, and_true] at hcs
  exact ⟨A, c', xs, by rw [← hce, hcs], hR⟩


set_option maxRecDepth 100000 in
theorem open_structArg {α : Type} {C : Cod α} {t : TypeId} {fs : Array Field} {base : Nat} {v : Value} {d : DataW H} {p : List MemPlace} (ht : Try.prog.underlying t = some (.struct fs))
    (hel : ∀ (n : Nat) (cs : List Value) (y : DataW H × List MemPlace), DataW.trod enc Try.prog W 0 (fun _ => true) true n t cs = some y → ∃ x, C.R none W W.heap.size x cs)
    (hv : Value.okWide Try.prog W .any base t v) (h : DataW.Trod enc Try.prog W 0 (fun _ => true) true t v d p) : ∃ x, ∃ cs : List Value, v = .agg cs.toArray ∧ C.R none W W.heap.size x cs := by
  obtain ⟨cs, rfl, _⟩ := okWide_struct ht hv
  obtain ⟨fuel, hf⟩ := h
  obtain ⟨x, hx⟩ := hel _ _ _ hf
  exact ⟨x, cs.toList, by simp, hx⟩
end
end Go.Proofs.Ytkkjljpokannkaa
