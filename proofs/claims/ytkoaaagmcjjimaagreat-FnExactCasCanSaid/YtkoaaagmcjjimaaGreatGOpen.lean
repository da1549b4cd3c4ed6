/- From a law's argument, as the statement reads it, to the lists that the walks speak of: slices of ints and of bytes. -/
import Derived.Test.YtkoaaagmcjjimaaGreatGBase
import Derived.Test.YtkoaaagmcjjimaaGreatRows
import Derived.ProofKit
import Derived.OpenShut
import Derived.ShutString
import Derived.ChangeOld
import Derived.Below
import Derived.Deep.Slices
import Derived.Test.YtkoaaagmcjjimaaGreatAsk
import Derived.Test.YtkoaaagmcjjimaaGreatCopyCase
import Derived.Test.YtkoaaagmcjjimaaGreatNet
namespace Go.Proofs.YtkoaaagmcjjimaaGreat
open Go.ChangeShapes Go.WideShapes Go.ChangeAt Go.RowKit

theorem own : ownKnob Tryz.prog.godebug = none := by kernel_rfl
theorem laidOut : laidOutB Tryz.prog = true := by kernel_rfl

/-- Bytes behind a slice's address. -/
def Bytes (w : World) (B : Nat) (A : Option Addr) (xs : List Int) : Prop :=
  xs.length ≤ 9223372036854775807 ∧ (0 < xs.length → ∃ b off, A = some ⟨b, off, none⟩ ∧ b < B ∧ ∀ j x, xs[j]? = some x → w.cell? ⟨b, off + j, none⟩ = some (.int .u8 x)) ∧ ∀ x ∈ xs, 0 ≤ x ∧ x ≤ 255

/-- Bytes behind a slice with room for c of them. -/
def Code (w : World) (B : Nat) (A : Option Addr) (c : Nat) (xs : List Int) : Prop := Bytes w B A xs ∧ xs.length ≤ c

section
variable {H : Type} {enc : TypeId × Value → H} {W : World} {d : DataW H} {p : List MemPlace} {v : Value} {base : Nat}

theorem cell_lit {a : Addr} {k : IntKind} {zs : List Int} (hcell : ∀ i, i < zs.length → W.cell? (a.add i) = some (.int k (zs.getD i 0))) (h0 : 0 < zs.length) :
    ∃ b off, a = ⟨b, off, none⟩ ∧ b < W.heap.size ∧ ∀ j x, zs[j]? = some x → W.cell? ⟨b, off + j, none⟩ = some (.int k x) := by
  obtain ⟨b, off, spot⟩ := a
  have hs : spot = none := by simpa [Addr.add] using World.cell?_spot (hcell 0 h0)
  subst hs
  have hadd : ∀ i, (⟨b, off, none⟩ : Addr).add i = ⟨b, off + i, none⟩ := by
    intro i
    unfold Addr.add
    split <;> simp_all
  refine ⟨b, off, rfl, World.block_lt_of_cell? W _ (hcell 0 h0), fun j x hx => ?_⟩
  obtain ⟨hj, hjx⟩ := List.getElem?_eq_some_iff.1 hx
  have h1 := hcell j hj
  rw [hadd, List.getD_eq_getElem?_getD, hx] at h1
  exact h1

set_option maxRecDepth 100000 in
theorem open_intS (hv : Value.okWide Tryz.prog W .any base 25 v) (h : DataW.Trod enc Tryz.prog W 0 (fun _ => true) true 25 v d p) :
    ∃ A c xs, v = .slice A xs.length c ∧ Ints W W.heap.size A xs := by
  obtain ⟨A, len, cap, rfl⟩ := okWide_slice Tryz.underlying25 hv
  obtain ⟨fuel, hf⟩ := h
  rcases open_ints Tryz.underlying25 Tryz.underlying3 (by kernel_rfl) hf with ⟨hcs, _⟩ | ⟨x, l, c, zs, hcs, _, hl, hm, hz, _, hcell, hwz⟩
  · simp [Value.cells] at hcs
    obtain ⟨rfl, rfl, rfl⟩ := hcs
    exact ⟨none, 0, [], rfl, Ints.nil⟩
  · simp [Value.cells] at hcs
    obtain ⟨rfl, rfl, rfl⟩ := hcs
    have hz' : zs.length = cap := by simpa using hz
    have hlen : (zs.take len).length = len := by rw [List.length_take]; omega
    refine ⟨some x, cap, zs.take len, by rw [hlen], ?_, fun h0 => ?_⟩
    · rw [hlen]; unfold maxLen at hm; omega
    · obtain ⟨b, off, rfl, hb, hc⟩ := cell_lit hcell (by rw [hlen] at h0; omega)
      refine ⟨b, off, rfl, hb, fun j y hy => hc j y ?_⟩
      rw [List.getElem?_take] at hy
      split at hy
      · exact hy
      · cases hy

end
end Go.Proofs.YtkoaaagmcjjimaaGreat

/- From an argument that is a slice of structs, as the statement reads it, to the list of records that the walks speak of. -/
namespace Go.Proofs.YtkoaaagmcjjimaaGreat
open Go.ChangeShapes Go.WideShapes Go.ChangeAt Go.RowKit Go.Deep

section
variable {H : Type} {enc : TypeId × Value → H} {W : World}

theorem add_off (b off i : Nat) : (⟨b, off, none⟩ : Addr).add i = ⟨b, off + i, none⟩ := by
  unfold Addr.add
  split <;> simp_all

theorem open_rows {α : Type} [Inhabited α] {C : Cod α} {t e : TypeId} (ht : Tryz.prog.underlying t = some (.slice e)) (hk : Tryz.prog.cellsOf e = C.k) (hpos : 0 < C.k)
    (hel : ∀ (n : Nat) (cs : List Value) (y : DataW H × List MemPlace), DataW.trod enc Tryz.prog W 0 (fun _ => true) true n e cs = some y → ∃ x, C.R none W W.heap.size x cs)
    {fuel : Nat} {cs : List Value} {x : DataW H × List MemPlace} (h : DataW.trod enc Tryz.prog W 0 (fun _ => true) true fuel t cs = some x) :
    ∃ A c xs, cs = [.slice A xs.length c] ∧ Rows C none W W.heap.size A xs := by
  rcases open_slice ht h with ⟨hcs, _⟩ | ⟨a, len, cap, m, n, D, Pl, hcs, _, hl, hm, hmm, _, hi⟩
  · exact ⟨none, 0, [], by simpa using hcs, Rows.nil⟩
  · have hml : len ≤ m := by rw [hmm]; simpa using hl
    obtain ⟨f, hf⟩ := choose_lt (n := len) (p := fun i x => ∃ cs', C.R none W W.heap.size x cs' ∧ cs'.length = C.k ∧ ∀ j, j < C.k → W.cell? ((a.add (i * C.k)).add j) = cs'[j]?) (fun i hi' => by
      obtain ⟨cs', hc, hT⟩ := hi i (by omega)
      rw [hk] at hc
      obtain ⟨_, hcl, hat⟩ := World.cells?_some hc
      obtain ⟨x, hR⟩ := hel _ _ _ hT
      exact ⟨x, cs', hR, hcl, hat⟩)
    have hlen : ((List.range len).map f).length = len := by simp
    refine ⟨some a, cap, (List.range len).map f, by rw [hlen]; exact hcs, by rw [hlen]; unfold maxLen at hm; omega, fun h0 => ?_⟩
    rw [hlen] at h0
    obtain ⟨cs0, _, hl0, hc0⟩ := hf 0 h0
    have hc00 := hc0 0 hpos
    obtain ⟨b, off, spot⟩ := a
    have hsome : cs0[0]? = some (cs0[0]'(by omega)) := List.getElem?_eq_getElem (by omega)
    rw [hsome] at hc00
    have hs : spot = none := by simpa [Addr.add] using World.cell?_spot hc00
    subst hs
    rw [Nat.zero_mul, add_off, add_off] at hc00
    refine ⟨b, off, rfl, ⟨World.block_lt_of_cell? W _ hc00, fun _ h => by cases h⟩, fun j x hx => ?_⟩
    have hj : j < len := by have := (List.getElem?_eq_some_iff.1 hx).1; simpa using this
    have hxj : x = f j := by simpa [List.getElem?_map, List.getElem?_range hj] using hx.symm
    subst hxj
    obtain ⟨cs', hR, hcl, hat⟩ := hf j hj
    refine ⟨cs', hR, fun i u hu => ?_⟩
    have hik : i < C.k := by have := (List.getElem?_eq_some_iff.1 hu).1; omega
    have := hat i hik
    rw [add_off, add_off, hu] at this
    exact this

set_option maxRecDepth 100000 in
theorem open_rowsArg {α : Type} [Inhabited α] {C : Cod α} {t e : TypeId} {base : Nat} {v : Value} {d : DataW H} {p : List MemPlace} (ht : Tryz.prog.underlying t = some (.slice e)) (hk : Tryz.prog.cellsOf e = C.k) (hpos : 0 < C.k)
    (hel : ∀ (n : Nat) (cs : List Value) (y : DataW H × List MemPlace), DataW.trod enc Tryz.prog W 0 (fun _ => true) true n e cs = some y → ∃ x, C.R none W W.heap.size x cs)
    (hv : Value.okWide Tryz.prog W .any base t v) (h : DataW.Trod enc Tryz.prog W 0 (fun _ => true) true t v d p) : ∃ A c xs, v = .slice A xs.length c ∧ Rows C none W W.heap.size A xs := by
  obtain ⟨A, len, cap, rfl⟩ := okWide_slice ht hv
  obtain ⟨fuel, hf⟩ := h
  obtain ⟨A', c', xs, hcs, hR⟩ := open_rows ht hk hpos hel hf
  simp only [Value.cells, List.cons.injEq, and_true] at hcs
  exact ⟨A', c', xs, hcs, hR⟩

instance : Inhabited GDid := ⟨⟨0, 0⟩⟩
instance : Inhabited GItem := ⟨⟨0, 0, 0⟩⟩

/-- An int field of a struct that is read: its one cell. -/
theorem field_int {fs : Array Field} {cs : List Value} {ys : List (DataW H × List MemPlace)} {n i : Nat} {f : Field} {c : Value} (hlen : ys.length = fs.size)
    (hf : DataW.trod enc Tryz.prog W 0 (fun _ => true) true n f.type ((cs.drop f.offset).take (Tryz.prog.cellsOf f.type)) = ys[i]?) (hi : i < fs.size) (ht : Tryz.prog.underlying f.type = some (.int .i64)) (h1 : Tryz.prog.cellsOf f.type = 1) (hc : cs[f.offset]? = some c) :
    ∃ x, c = .int .i64 x := by
  rw [List.getElem?_eq_getElem (by omega), h1] at hf
  obtain ⟨x, hx, _, _⟩ := DataW.trod_int ht hf
  have hlt := (List.getElem?_eq_some_iff.1 hc)
  obtain ⟨hlt, hce⟩ := hlt
  rw [List.drop_eq_getElem_cons hlt] at hx
  simp only [List.take_succ_cons, List.take_zero, List.cons.injEq, and_true] at hx
  exact ⟨x, by rw [← hce, hx]⟩

set_option maxRecDepth 100000 in
theorem el_Int (n : Nat) (cs : List Value) (y : DataW H × List MemPlace) (h : DataW.trod enc Tryz.prog W 0 (fun _ => true) true n 3 cs = some y) : ∃ x, intC.R none W W.heap.size x cs := by
  obtain ⟨x, hx, _, _⟩ := DataW.trod_int Tryz.underlying3 h
  exact ⟨x, hx⟩

/-- A field of a struct that is a slice. -/
theorem field_rows {α : Type} [Inhabited α] {C : Cod α} {e : TypeId} {fs : Array Field} {cs : List Value} {ys : List (DataW H × List MemPlace)} {n i : Nat} {f : Field} {c : Value} (hlen : ys.length = fs.size)
    (hf : DataW.trod enc Tryz.prog W 0 (fun _ => true) true n f.type ((cs.drop f.offset).take (Tryz.prog.cellsOf f.type)) = ys[i]?) (hi : i < fs.size) (ht : Tryz.prog.underlying f.type = some (.slice e)) (h1 : Tryz.prog.cellsOf f.type = 1) (hc : cs[f.offset]? = some c)
    (hk : Tryz.prog.cellsOf e = C.k) (hpos : 0 < C.k)
    (hel : ∀ (n : Nat) (cs : List Value) (y : DataW H × List MemPlace), DataW.trod enc Tryz.prog W 0 (fun _ => true) true n e cs = some y → ∃ x, C.R none W W.heap.size x cs) :
    ∃ A c' xs, c = .slice A xs.length c' ∧ Rows C none W W.heap.size A xs := by
  rw [List.getElem?_eq_getElem (by omega), h1] at hf
  obtain ⟨A, c', xs, hcs, hR⟩ := open_rows ht hk hpos hel hf
  obtain ⟨hlt, hce⟩ := List.getElem?_eq_some_iff.1 hc
  rw [List.drop_eq_getElem_cons hlt] at hcs
  simp only [List.take_succ_cons, List.take_zero, List.cons.injEq, and_true] at hcs
  exact ⟨A, c', xs, by rw [← hce, hcs], hR⟩


set_option maxRecDepth 100000 in
theorem open_structArg {α : Type} {C : Cod α} {t : TypeId} {fs : Array Field} {base : Nat} {v : Value} {d : DataW H} {p : List MemPlace} (ht : Tryz.prog.underlying t = some (.struct fs))
    (hel : ∀ (n : Nat) (cs : List Value) (y : DataW H × List MemPlace), DataW.trod enc Tryz.prog W 0 (fun _ => true) true n t cs = some y → ∃ x, C.R none W W.heap.size x cs)
    (hv : Value.okWide Tryz.prog W .any base t v) (h : DataW.Trod enc Tryz.prog W 0 (fun _ => true) true t v d p) : ∃ x, ∃ cs : List Value, v = .agg cs.toArray ∧ C.R none W W.heap.size x cs := by
  obtain ⟨cs, rfl, _⟩ := okWide_struct ht hv
  obtain ⟨fuel, hf⟩ := h
  obtain ⟨x, hx⟩ := hel _ _ _ hf
  exact ⟨x, cs.toList, by simp, hx⟩
end
end Go.Proofs.YtkoaaagmcjjimaaGreat

/- Arguments of type CasDid, as the statement reads them. -/
namespace Go.Proofs.YtkoaaagmcjjimaaGreat
open Go.ChangeShapes Go.WideShapes Go.ChangeAt Go.RowKit Go.Deep
section
variable {H : Type} {enc : TypeId × Value → H} {W : World}
set_option maxRecDepth 100000 in
theorem el_Did (n : Nat) (cs : List Value) (y : DataW H × List MemPlace) (h : DataW.trod enc Tryz.prog W 0 (fun _ => true) true n 89 cs = some y) : ∃ x, didC.R none W W.heap.size x cs := by
  obtain ⟨ys, n', _, _, hlen, hyl, hf⟩ := DataW.trod_struct Tryz.underlying89 h
  have hlen' : cs.length = 2 := hlen.trans (by kernel_rfl)
  match cs, hlen' with
  | [e0, e1], _ =>
    obtain ⟨a0, rfl⟩ := field_int (i := 0) hyl (hf 0 _ rfl) (by decide) Tryz.underlying3 (by kernel_rfl) rfl
    obtain ⟨a1, rfl⟩ := field_int (i := 1) hyl (hf 1 _ rfl) (by decide) Tryz.underlying3 (by kernel_rfl) rfl
    exact ⟨⟨a0, a1⟩, rfl⟩
set_option maxRecDepth 100000 in
theorem open_didS {base : Nat} {v : Value} {d : DataW H} {p : List MemPlace} (hv : Value.okWide Tryz.prog W .any base 27 v) (h : DataW.Trod enc Tryz.prog W 0 (fun _ => true) true 27 v d p) :
    ∃ A c xs, v = .slice A xs.length c ∧ Rows didC none W W.heap.size A xs :=
  open_rowsArg Tryz.underlying27 (by kernel_rfl) (by decide) el_Did hv h
end
end Go.Proofs.YtkoaaagmcjjimaaGreat

/- Arguments of type CasItem, as the statement reads them. -/
namespace Go.Proofs.YtkoaaagmcjjimaaGreat
open Go.ChangeShapes Go.WideShapes Go.ChangeAt Go.RowKit Go.Deep
section
variable {H : Type} {enc : TypeId × Value → H} {W : World}
set_option maxRecDepth 100000 in
theorem el_Item (n : Nat) (cs : List Value) (y : DataW H × List MemPlace) (h : DataW.trod enc Tryz.prog W 0 (fun _ => true) true n 87 cs = some y) : ∃ x, itemC.R none W W.heap.size x cs := by
  obtain ⟨ys, n', _, _, hlen, hyl, hf⟩ := DataW.trod_struct Tryz.underlying87 h
  have hlen' : cs.length = 3 := hlen.trans (by kernel_rfl)
  match cs, hlen' with
  | [e0, e1, e2], _ =>
    obtain ⟨a0, rfl⟩ := field_int (i := 0) hyl (hf 0 _ rfl) (by decide) Tryz.underlying3 (by kernel_rfl) rfl
    obtain ⟨a1, rfl⟩ := field_int (i := 1) hyl (hf 1 _ rfl) (by decide) Tryz.underlying3 (by kernel_rfl) rfl
    obtain ⟨a2, rfl⟩ := field_int (i := 2) hyl (hf 2 _ rfl) (by decide) Tryz.underlying3 (by kernel_rfl) rfl
    exact ⟨⟨a0, a1, a2⟩, rfl⟩
set_option maxRecDepth 100000 in
theorem open_itemS {base : Nat} {v : Value} {d : DataW H} {p : List MemPlace} (hv : Value.okWide Tryz.prog W .any base 26 v) (h : DataW.Trod enc Tryz.prog W 0 (fun _ => true) true 26 v d p) :
    ∃ A c xs, v = .slice A xs.length c ∧ Rows itemC none W W.heap.size A xs :=
  open_rowsArg Tryz.underlying26 (by kernel_rfl) (by decide) el_Item hv h
end
end Go.Proofs.YtkoaaagmcjjimaaGreat

/- Arguments that are a question, as the statement reads them. -/
namespace Go.Proofs.YtkoaaagmcjjimaaGreat
open Go.ChangeShapes Go.WideShapes Go.ChangeAt Go.RowKit Go.Deep
instance : Inhabited GAsk := ⟨⟨0, 0, 0⟩⟩
section
variable {H : Type} {enc : TypeId × Value → H} {W : World}
set_option maxRecDepth 100000 in
theorem el_Ask (n : Nat) (cs : List Value) (y : DataW H × List MemPlace) (h : DataW.trod enc Tryz.prog W 0 (fun _ => true) true n 118 cs = some y) : ∃ x, askC.R none W W.heap.size x cs := by
  obtain ⟨ys, n', _, _, hlen, hyl, hf⟩ := DataW.trod_struct Tryz.underlying118 h
  have hlen' : cs.length = 3 := hlen.trans (by kernel_rfl)
  match cs, hlen' with
  | [e0, e1, e2], _ =>
    obtain ⟨a0, rfl⟩ := field_int (i := 0) hyl (hf 0 _ rfl) (by decide) Tryz.underlying3 (by kernel_rfl) rfl
    obtain ⟨a1, rfl⟩ := field_int (i := 1) hyl (hf 1 _ rfl) (by decide) Tryz.underlying3 (by kernel_rfl) rfl
    obtain ⟨a2, rfl⟩ := field_int (i := 2) hyl (hf 2 _ rfl) (by decide) Tryz.underlying3 (by kernel_rfl) rfl
    exact ⟨⟨a0, a1, a2⟩, rfl⟩
set_option maxRecDepth 100000 in
theorem open_ask {base : Nat} {v : Value} {d : DataW H} {p : List MemPlace} (hv : Value.okWide Tryz.prog W .any base 118 v) (h : DataW.Trod enc Tryz.prog W 0 (fun _ => true) true 118 v d p) :
    ∃ x, ∃ cs : List Value, v = .agg cs.toArray ∧ askC.R none W W.heap.size x cs :=
  open_structArg Tryz.underlying118 el_Ask hv h
end
end Go.Proofs.YtkoaaagmcjjimaaGreat

/- Arguments of type CasCase, as the statement reads them. -/
namespace Go.Proofs.YtkoaaagmcjjimaaGreat
open Go.ChangeShapes Go.WideShapes Go.ChangeAt Go.RowKit Go.Deep
instance : Inhabited GCase := ⟨⟨0, [], [], [], []⟩⟩
section
variable {H : Type} {enc : TypeId × Value → H} {W : World}
set_option maxRecDepth 100000 in
theorem el_Case (n : Nat) (cs : List Value) (y : DataW H × List MemPlace) (h : DataW.trod enc Tryz.prog W 0 (fun _ => true) true n 29 cs = some y) : ∃ x, caseC.R none W W.heap.size x cs := by
  obtain ⟨ys, n', _, _, hlen, hyl, hf⟩ := DataW.trod_struct Tryz.underlying29 h
  have hlen' : cs.length = 5 := hlen.trans (by kernel_rfl)
  match cs, hlen' with
  | [e0, e1, e2, e3, e4], _ =>
    obtain ⟨a0, rfl⟩ := field_int (i := 0) hyl (hf 0 _ rfl) (by decide) Tryz.underlying3 (by kernel_rfl) rfl
    obtain ⟨A1, c1, a1, rfl, r1⟩ := field_rows (C := intC) (i := 1) hyl (hf 1 _ rfl) (by decide) Tryz.underlying25 (by kernel_rfl) rfl (by kernel_rfl) (by decide) el_Int
    obtain ⟨A2, c2, a2, rfl, r2⟩ := field_rows (C := itemC) (i := 2) hyl (hf 2 _ rfl) (by decide) Tryz.underlying26 (by kernel_rfl) rfl (by kernel_rfl) (by decide) el_Item
    obtain ⟨A3, c3, a3, rfl, r3⟩ := field_rows (C := intC) (i := 3) hyl (hf 3 _ rfl) (by decide) Tryz.underlying25 (by kernel_rfl) rfl (by kernel_rfl) (by decide) el_Int
    obtain ⟨A4, c4, a4, rfl, r4⟩ := field_rows (C := didC) (i := 4) hyl (hf 4 _ rfl) (by decide) Tryz.underlying27 (by kernel_rfl) rfl (by kernel_rfl) (by decide) el_Did
    exact ⟨⟨a0, a1, a2, a3, a4⟩, A1, c1, A2, c2, A3, c3, A4, c4, rfl, r1, r2, r3, r4⟩
set_option maxRecDepth 100000 in
theorem open_case {base : Nat} {v : Value} {d : DataW H} {p : List MemPlace} (hv : Value.okWide Tryz.prog W .any base 29 v) (h : DataW.Trod enc Tryz.prog W 0 (fun _ => true) true 29 v d p) :
    ∃ x, ∃ cs : List Value, v = .agg cs.toArray ∧ caseC.R none W W.heap.size x cs :=
  open_structArg Tryz.underlying29 el_Case hv h
end
end Go.Proofs.YtkoaaagmcjjimaaGreat

/- Arguments that are nets or tasks, as the statement reads them. -/
namespace Go.Proofs.YtkoaaagmcjjimaaGreat
open Go.ChangeShapes Go.WideShapes Go.ChangeAt Go.RowKit Go.Deep
instance : Inhabited GFlow := ⟨flow0⟩
instance : Inhabited GTask := ⟨⟨0, 0, [], [], [], 0, 0, 0, 0⟩⟩
section
variable {H : Type} {enc : TypeId × Value → H} {W : World}
set_option maxRecDepth 100000 in
theorem el_Flow (n : Nat) (cs : List Value) (y : DataW H × List MemPlace) (h : DataW.trod enc Tryz.prog W 0 (fun _ => true) true n 120 cs = some y) : ∃ x, flowC.R none W W.heap.size x cs := by
  obtain ⟨ys, n', _, _, hlen, hyl, hf⟩ := DataW.trod_struct Tryz.underlying120 h
  have hlen' : cs.length = 4 := hlen.trans (by kernel_rfl)
  match cs, hlen' with
  | [e0, e1, e2, e3], _ =>
    obtain ⟨a0, rfl⟩ := field_int (i := 0) hyl (hf 0 _ rfl) (by decide) Tryz.underlying3 (by kernel_rfl) rfl
    have h1 := hf 1 _ rfl
    rw [List.getElem?_eq_getElem (by rw [hyl]; decide)] at h1
    obtain ⟨a, ha⟩ := el_Ask _ _ _ h1
    have ha' : [e1, e2, e3] = a.cells := ha
    simp only [GAsk.cells, List.cons.injEq, and_true] at ha'
    obtain ⟨rfl, rfl, rfl⟩ := ha'
    exact ⟨⟨a0, a⟩, rfl⟩
set_option maxRecDepth 100000 in
theorem el_Task (n : Nat) (cs : List Value) (y : DataW H × List MemPlace) (h : DataW.trod enc Tryz.prog W 0 (fun _ => true) true n 71 cs = some y) : ∃ x, taskC.R none W W.heap.size x cs := by
  obtain ⟨ys, n', _, _, hlen, hyl, hf⟩ := DataW.trod_struct Tryz.underlying71 h
  have hlen' : cs.length = 9 := hlen.trans (by kernel_rfl)
  match cs, hlen' with
  | [e0, e1, e2, e3, e4, e5, e6, e7, e8], _ =>
    obtain ⟨a0, rfl⟩ := field_int (i := 0) hyl (hf 0 _ rfl) (by decide) Tryz.underlying3 (by kernel_rfl) rfl
    obtain ⟨a1, rfl⟩ := field_int (i := 1) hyl (hf 1 _ rfl) (by decide) Tryz.underlying3 (by kernel_rfl) rfl
    obtain ⟨A2, c2, a2, rfl, r2⟩ := field_rows (C := intC) (i := 2) hyl (hf 2 _ rfl) (by decide) Tryz.underlying25 (by kernel_rfl) rfl (by kernel_rfl) (by decide) el_Int
    obtain ⟨A3, c3, a3, rfl, r3⟩ := field_rows (C := flowC) (i := 3) hyl (hf 3 _ rfl) (by decide) Tryz.underlying69 (by kernel_rfl) rfl (by kernel_rfl) (by decide) el_Flow
    obtain ⟨A4, c4, a4, rfl, r4⟩ := field_rows (C := intC) (i := 4) hyl (hf 4 _ rfl) (by decide) Tryz.underlying25 (by kernel_rfl) rfl (by kernel_rfl) (by decide) el_Int
    obtain ⟨a5, rfl⟩ := field_int (i := 5) hyl (hf 5 _ rfl) (by decide) Tryz.underlying3 (by kernel_rfl) rfl
    obtain ⟨a6, rfl⟩ := field_int (i := 6) hyl (hf 6 _ rfl) (by decide) Tryz.underlying3 (by kernel_rfl) rfl
    obtain ⟨a7, rfl⟩ := field_int (i := 7) hyl (hf 7 _ rfl) (by decide) Tryz.underlying3 (by kernel_rfl) rfl
    obtain ⟨a8, rfl⟩ := field_int (i := 8) hyl (hf 8 _ rfl) (by decide) Tryz.underlying3 (by kernel_rfl) rfl
    exact ⟨⟨a0, a1, a2, a3, a4, a5, a6, a7, a8⟩, A2, c2, A3, c3, A4, c4, rfl, r2, r3, r4⟩
set_option maxRecDepth 100000 in
theorem el_Net (n : Nat) (cs : List Value) (y : DataW H × List MemPlace) (h : DataW.trod enc Tryz.prog W 0 (fun _ => true) true n 24 cs = some y) : ∃ x, netC.R none W W.heap.size x cs := by
  obtain ⟨ys, n', _, _, hlen, hyl, hf⟩ := DataW.trod_struct Tryz.underlying24 h
  have hlen' : cs.length = 2 := hlen.trans (by kernel_rfl)
  match cs, hlen' with
  | [e0, e1], _ =>
    obtain ⟨a0, rfl⟩ := field_int (i := 0) hyl (hf 0 _ rfl) (by decide) Tryz.underlying3 (by kernel_rfl) rfl
    obtain ⟨A1, c1, a1, rfl, r1⟩ := field_rows (C := taskC) (i := 1) hyl (hf 1 _ rfl) (by decide) Tryz.underlying22 (by kernel_rfl) rfl (by kernel_rfl) (by decide) el_Task
    exact ⟨⟨a0, a1⟩, A1, c1, rfl, r1⟩
set_option maxRecDepth 100000 in
theorem open_net {base : Nat} {v : Value} {d : DataW H} {p : List MemPlace} (hv : Value.okWide Tryz.prog W .any base 24 v) (h : DataW.Trod enc Tryz.prog W 0 (fun _ => true) true 24 v d p) :
    ∃ x, ∃ cs : List Value, v = .agg cs.toArray ∧ netC.R none W W.heap.size x cs :=
  open_structArg Tryz.underlying24 el_Net hv h
set_option maxRecDepth 100000 in
theorem open_task {base : Nat} {v : Value} {d : DataW H} {p : List MemPlace} (hv : Value.okWide Tryz.prog W .any base 71 v) (h : DataW.Trod enc Tryz.prog W 0 (fun _ => true) true 71 v d p) :
    ∃ x, ∃ cs : List Value, v = .agg cs.toArray ∧ taskC.R none W W.heap.size x cs :=
  open_structArg Tryz.underlying71 el_Task hv h
end
end Go.Proofs.YtkoaaagmcjjimaaGreat

