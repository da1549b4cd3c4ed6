/- Arguments of type CasDid, as the statement reads them. -/
import Derived.Test.YtkoaaagmcjjimaaOpenRows
namespace Go.Proofs.Ytkoaaagmcjjimaa
open Go.ChangeShapes Go.WideShapes Go.ChangeAt Go.RowKit Go.Deep
section
variable {H : Type} {enc : TypeId × Value → H} {W : World}
set_option maxRecDepth 100000 in
theorem el_Did (n : Nat) (cs : List Value) (y : DataW H × List MemPlace) (h : DataW.trod enc Try.prog W 0 (fun _ => true) true n 218 cs = some y) : ∃ x, didC.R none W W.heap.size x cs := by
  obtain ⟨ys, n', _, _, hlen, hyl, hf⟩ := DataW.trod_struct Try.underlying218 h
  have hlen' : cs.length = 2 := hlen.trans (by kernel_rfl)
  match cs, hlen' with
  | [e0, e1], _ =>
    obtain ⟨a0, rfl⟩ := field_int (i := 0) hyl (hf 0 _ rfl) (by decide) Try.underlying3 (by kernel_rfl) rfl
    obtain ⟨a1, rfl⟩ := field_int (i := 1) hyl (hf 1 _ rfl) (by decide) Try.underlying3 (by kernel_rfl) rfl
    exact ⟨⟨a0, a1⟩, rfl⟩
set_option maxRecDepth 100000 in
theorem open_didS {base : Nat} {v : Value} {d : DataW H} {p : List MemPlace} (hv : Value.okWide Try.prog W .any base 107 v) (h : DataW.Trod enc Try.prog W 0 (fun _ => true) true 107 v d p) :
    ∃ A c xs, v = .slice A xs.length c ∧ Rows didC none W W.heap.size A xs :=
  open_rowsArg Try.underlying107 (by kernel_rfl) (by decide) el_Did hv h
end
end Go.Proofs.Ytkoaaagmcjjimaa
