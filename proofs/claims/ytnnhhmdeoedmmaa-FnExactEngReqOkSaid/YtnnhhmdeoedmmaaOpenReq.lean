/- An argument that is a request, as the statement reads it. -/
import Derived.Test.YtnnhhmdeoedmmaaOpenRule
import Derived.Test.YtnnhhmdeoedmmaaEngReq
namespace Go.Proofs.Ytnnhhmdeoedmmaa
open Go.ChangeShapes Go.WideShapes Go.ChangeAt Go.RowKit Go.Deep
instance : Inhabited GReq := ⟨⟨0, 0, 0, 0, 0, 0, [], ⟨0, 0, 0⟩, 0⟩⟩
section
variable {H : Type} {enc : TypeId × Value → H} {W : World}
set_option maxRecDepth 100000 in
theorem el_Req (n : Nat) (cs : List Value) (y : DataW H × List MemPlace) (h : DataW.trod enc Try.prog W 0 (fun _ => true) true n 60 cs = some y) : ∃ x, reqC.R none W W.heap.size x cs := by
  obtain ⟨ys, n', _, _, hlen, hyl, hf⟩ := DataW.trod_struct Try.underlying60 h
  have hlen' : cs.length = 11 := hlen.trans (by kernel_rfl)
  match cs, hlen' with
  | [e0, e1, e2, e3, e4, e5, e6, e7, e8, e9, e10], _ =>
    obtain ⟨a0, rfl⟩ := field_int (i := 0) hyl (hf 0 _ rfl) (by decide) Try.underlying3 (by kernel_rfl) rfl
    obtain ⟨a1, rfl⟩ := field_int (i := 1) hyl (hf 1 _ rfl) (by decide) Try.underlying3 (by kernel_rfl) rfl
    obtain ⟨a2, rfl⟩ := field_int (i := 2) hyl (hf 2 _ rfl) (by decide) Try.underlying3 (by kernel_rfl) rfl
    obtain ⟨a3, rfl⟩ := field_int (i := 3) hyl (hf 3 _ rfl) (by decide) Try.underlying3 (by kernel_rfl) rfl
    obtain ⟨a4, rfl⟩ := field_int (i := 4) hyl (hf 4 _ rfl) (by decide) Try.underlying3 (by kernel_rfl) rfl
    obtain ⟨a5, rfl⟩ := field_int (i := 5) hyl (hf 5 _ rfl) (by decide) Try.underlying3 (by kernel_rfl) rfl
    obtain ⟨A6, c6, a6, rfl, r6⟩ := field_rows (C := intC) (i := 6) hyl (hf 6 _ rfl) (by decide) Try.underlying30 (by kernel_rfl) rfl (by kernel_rfl) (by decide) el_Int
    have h7 := hf 7 _ rfl
    rw [List.getElem?_eq_getElem (by rw [hyl]; decide)] at h7
    obtain ⟨a, ha⟩ := el_Ask _ _ _ h7
    have ha' : [e7, e8, e9] = a.cells := ha
    simp only [GAsk.cells, List.cons.injEq, and_true] at ha'
    obtain ⟨rfl, rfl, rfl⟩ := ha'
    obtain ⟨a8, rfl⟩ := field_int (i := 8) hyl (hf 8 _ rfl) (by decide) Try.underlying3 (by kernel_rfl) rfl
    exact ⟨⟨a0, a1, a2, a3, a4, a5, a6, a, a8⟩, A6, c6, rfl, r6⟩
set_option maxRecDepth 100000 in
theorem open_req {base : Nat} {v : Value} {d : DataW H} {p : List MemPlace} (hv : Value.okWide Try.prog W .any base 60 v) (h : DataW.Trod enc Try.prog W 0 (fun _ => true) true 60 v d p) :
    ∃ x, ∃ cs : List Value, v = .agg cs.toArray ∧ reqC.R none W W.heap.size x cs :=
  open_structArg Try.underlying60 el_Req hv h
end
end Go.Proofs.Ytnnhhmdeoedmmaa
