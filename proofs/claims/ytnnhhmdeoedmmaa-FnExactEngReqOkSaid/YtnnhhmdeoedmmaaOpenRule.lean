/- Arguments that are rules or a question, as the statement reads them. -/
import Derived.Test.YtnnhhmdeoedmmaaOpenRows
import Derived.Test.YtnnhhmdeoedmmaaRule
namespace Go.Proofs.Ytnnhhmdeoedmmaa
open Go.ChangeShapes Go.WideShapes Go.ChangeAt Go.RowKit Go.Deep
instance : Inhabited GAsk := ⟨⟨0, 0, 0⟩⟩
instance : Inhabited GRule := ⟨rule0⟩
section
variable {H : Type} {enc : TypeId × Value → H} {W : World}
set_option maxRecDepth 100000 in
theorem el_Ask (n : Nat) (cs : List Value) (y : DataW H × List MemPlace) (h : DataW.trod enc Try.prog W 0 (fun _ => true) true n 56 cs = some y) : ∃ x, askC.R none W W.heap.size x cs := by
  obtain ⟨ys, n', _, _, hlen, hyl, hf⟩ := DataW.trod_struct Try.underlying56 h
  have hlen' : cs.length = 3 := hlen.trans (by kernel_rfl)
  match cs, hlen' with
  | [e0, e1, e2], _ =>
    obtain ⟨a0, rfl⟩ := field_int (i := 0) hyl (hf 0 _ rfl) (by decide) Try.underlying3 (by kernel_rfl) rfl
    obtain ⟨a1, rfl⟩ := field_int (i := 1) hyl (hf 1 _ rfl) (by decide) Try.underlying3 (by kernel_rfl) rfl
    obtain ⟨a2, rfl⟩ := field_int (i := 2) hyl (hf 2 _ rfl) (by decide) Try.underlying3 (by kernel_rfl) rfl
    exact ⟨⟨a0, a1, a2⟩, rfl⟩
set_option maxRecDepth 100000 in
theorem open_ask {base : Nat} {v : Value} {d : DataW H} {p : List MemPlace} (hv : Value.okWide Try.prog W .any base 56 v) (h : DataW.Trod enc Try.prog W 0 (fun _ => true) true 56 v d p) :
    ∃ x, ∃ cs : List Value, v = .agg cs.toArray ∧ askC.R none W W.heap.size x cs :=
  open_structArg Try.underlying56 el_Ask hv h
set_option maxRecDepth 100000 in
theorem el_Rule (n : Nat) (cs : List Value) (y : DataW H × List MemPlace) (h : DataW.trod enc Try.prog W 0 (fun _ => true) true n 76 cs = some y) : ∃ x, ruleC.R none W W.heap.size x cs := by
  obtain ⟨ys, n', _, _, hlen, hyl, hf⟩ := DataW.trod_struct Try.underlying76 h
  have hlen' : cs.length = 7 := hlen.trans (by kernel_rfl)
  match cs, hlen' with
  | [e0, e1, e2, e3, e4, e5, e6], _ =>
    have h0 := hf 0 _ rfl
    rw [List.getElem?_eq_getElem (by rw [hyl]; decide)] at h0
    obtain ⟨a, ha⟩ := el_Ask _ _ _ h0
    have ha' : [e0, e1, e2] = a.cells := ha
    simp only [GAsk.cells, List.cons.injEq, and_true] at ha'
    obtain ⟨rfl, rfl, rfl⟩ := ha'
    obtain ⟨a3, rfl⟩ := field_int (i := 1) hyl (hf 1 _ rfl) (by decide) Try.underlying3 (by kernel_rfl) rfl
    obtain ⟨a4, rfl⟩ := field_int (i := 2) hyl (hf 2 _ rfl) (by decide) Try.underlying3 (by kernel_rfl) rfl
    obtain ⟨a5, rfl⟩ := field_int (i := 3) hyl (hf 3 _ rfl) (by decide) Try.underlying3 (by kernel_rfl) rfl
    obtain ⟨A6, c6, a6, rfl, r6⟩ := field_rows (C := intC) (i := 4) hyl (hf 4 _ rfl) (by decide) Try.underlying30 (by kernel_rfl) rfl (by kernel_rfl) (by decide) el_Int
    exact ⟨⟨a, a3, a4, a5, a6⟩, A6, c6, rfl, r6⟩
set_option maxRecDepth 100000 in
theorem open_ruleS {base : Nat} {v : Value} {d : DataW H} {p : List MemPlace} (hv : Value.okWide Try.prog W .any base 22 v) (h : DataW.Trod enc Try.prog W 0 (fun _ => true) true 22 v d p) :
    ∃ A c xs, v = .slice A xs.length c ∧ Rows ruleC none W W.heap.size A xs :=
  open_rowsArg Try.underlying22 (by kernel_rfl) (by decide) el_Rule hv h
end
end Go.Proofs.Ytnnhhmdeoedmmaa
