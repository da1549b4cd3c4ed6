/- Arguments that are a question, as the statement reads them. -/
import Derived.Test.YtkkjljpokannkaaOpenRows
import Derived.Test.YtkkjljpokannkaaAsk
namespace Go.Proofs.Ytkkjljpokannkaa
open Go.ChangeShapes Go.WideShapes Go.ChangeAt Go.RowKit Go.Deep
instance : Inhabited GAsk := ⟨⟨0, 0, 0⟩⟩
section
variable {H : Type} {enc : TypeId × Value → H} {W : World}
set_option maxRecDepth 100000 in
theorem el_Ask (n : Nat) (cs : List Value) (y : DataW H × List MemPlace) (h : DataW.trod enc Try.prog W 0 (fun _ => true) true n 115 cs = some y) : ∃ x, askC.R none W W.heap.size x cs := by
  obtain ⟨ys, n', _, _, hlen, hyl, hf⟩ := DataW.trod_struct Try.underlying115 h
  have hlen' : cs.length = 3 := hlen.trans (by kernel_rfl)
  match cs, hlen' with
  | [e0, e1, e2], _ =>
    obtain ⟨a0, rfl⟩ := field_int (i := 0) hyl (hf 0 _ rfl) (by decide) Try.underlying3 (by kernel_rfl) rfl
    obtain ⟨a1, rfl⟩ := field_int (i := 1) hyl (hf 1 _ rfl) (by decide) Try.underlying3 (by kernel_rfl) rfl
    obtain ⟨a2, rfl⟩ := field_int (i := 2) hyl (hf 2 _ rfl) (by decide) Try.underlying3 (by kernel_rfl) rfl
    exact ⟨⟨a0, a1, a2⟩, rfl⟩
set_option maxRecDepth 100000 in
theorem open_ask {base : Nat} {v : Value} {d : DataW H} {p : List MemPlace} (hv : Value.okWide Try.prog W .any base 115 v) (h : DataW.Trod enc Try.prog W 0 (fun _ => true) true 115 v d p) :
    ∃ x, ∃ cs : List Value, v = .agg cs.toArray ∧ askC.R none W W.heap.size x cs :=
  open_structArg Try.underlying115 el_Ask hv h
end
end Go.Proofs.Ytkkjljpokannkaa
