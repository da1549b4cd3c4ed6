/- Arguments of type CasCase, as the statement reads them. -/
import Derived.Test.YtkoaaagmcjjimaaOpenDid
import Derived.Test.YtkoaaagmcjjimaaOpenItem
import Derived.Test.YtkoaaagmcjjimaaCopyCase
namespace Go.Proofs.Ytkoaaagmcjjimaa
open Go.ChangeShapes Go.WideShapes Go.ChangeAt Go.RowKit Go.Deep
instance : Inhabited GCase := ⟨⟨0, [], [], [], []⟩⟩
section
variable {H : Type} {enc : TypeId × Value → H} {W : World}
set_option maxRecDepth 100000 in
theorem el_Case (n : Nat) (cs : List Value) (y : DataW H × List MemPlace) (h : DataW.trod enc Try.prog W 0 (fun _ => true) true n 109 cs = some y) : ∃ x, caseC.R none W W.heap.size x cs := by
  obtain ⟨ys, n', _, _, hlen, hyl, hf⟩ := DataW.trod_struct Try.underlying109 h
  have hlen' : cs.length = 5 := hlen.trans (by kernel_rfl)
  match cs, hlen' with
  | [e0, e1, e2, e3, e4], _ =>
    obtain ⟨a0, rfl⟩ := field_int (i := 0) hyl (hf 0 _ rfl) (by decide) Try.underlying3 (by kernel_rfl) rfl
    obtain ⟨A1, c1, a1, rfl, r1⟩ := field_rows (C := intC) (i := 1) hyl (hf 1 _ rfl) (by decide) Try.underlying23 (by kernel_rfl) rfl (by kernel_rfl) (by decide) el_Int
    obtain ⟨A2, c2, a2, rfl, r2⟩ := field_rows (C := itemC) (i := 2) hyl (hf 2 _ rfl) (by decide) Try.underlying106 (by kernel_rfl) rfl (by kernel_rfl) (by decide) el_Item
    obtain ⟨A3, c3, a3, rfl, r3⟩ := field_rows (C := intC) (i := 3) hyl (hf 3 _ rfl) (by decide) Try.underlying23 (by kernel_rfl) rfl (by kernel_rfl) (by decide) el_Int
    obtain ⟨A4, c4, a4, rfl, r4⟩ := field_rows (C := didC) (i := 4) hyl (hf 4 _ rfl) (by decide) Try.underlying107 (by kernel_rfl) rfl (by kernel_rfl) (by decide) el_Did
    exact ⟨⟨a0, a1, a2, a3, a4⟩, A1, c1, A2, c2, A3, c3, A4, c4, rfl, r1, r2, r3, r4⟩
set_option maxRecDepth 100000 in
theorem open_case {base : Nat} {v : Value} {d : DataW H} {p : List MemPlace} (hv : Value.okWide Try.prog W .any base 109 v) (h : DataW.Trod enc Try.prog W 0 (fun _ => true) true 109 v d p) :
    ∃ x, ∃ cs : List Value, v = .agg cs.toArray ∧ caseC.R none W W.heap.size x cs :=
  open_structArg Try.underlying109 el_Case hv h
end
end Go.Proofs.Ytkoaaagmcjjimaa
