/- Arguments that are nets or tasks, as the statement reads them. -/
import Derived.Test.YtkkjljpokannkaaOpenRows
import Derived.Test.YtkkjljpokannkaaOpenAsk
import Derived.Test.YtkkjljpokannkaaNet
namespace Go.Proofs.Ytkkjljpokannkaa
open Go.ChangeShapes Go.WideShapes Go.ChangeAt Go.RowKit Go.Deep
instance : Inhabited GFlow := ⟨flow0⟩
instance : Inhabited GTask := ⟨⟨0, 0, [], [], [], 0, 0, 0, 0⟩⟩
section
variable {H : Type} {enc : TypeId × Value → H} {W : World}
set_option maxRecDepth 100000 in
theorem el_Flow (n : Nat) (cs : List Value) (y : DataW H × List MemPlace) (h : DataW.trod enc Try.prog W 0 (fun _ => true) true n 199 cs = some y) : ∃ x, flowC.R none W W.heap.size x cs := by
  obtain ⟨ys, n', _, _, hlen, hyl, hf⟩ := DataW.trod_struct Try.underlying199 h
  have hlen' : cs.length = 4 := hlen.trans (by kernel_rfl)
  match cs, hlen' with
  | [e0, e1, e2, e3], _ =>
    obtain ⟨a0, rfl⟩ := field_int (i := 0) hyl (hf 0 _ rfl) (by decide) Try.underlying3 (by kernel_rfl) rfl
    have h1 := hf 1 _ rfl
    rw [List.getElem?_eq_getElem (by rw [hyl]; decide)] at h1
    obtain ⟨a, ha⟩ := el_Ask _ _ _ h1
    have ha' : [e1, e2, e3] = a.cells := ha
    simp only [GAsk.cells, List.cons.injEq, and_true] at ha'
    obtain ⟨rfl, rfl, rfl⟩ := ha'
    exact ⟨⟨a0, a⟩, rfl⟩
set_option maxRecDepth 100000 in
theorem el_Task (n : Nat) (cs : List Value) (y : DataW H × List MemPlace) (h : DataW.trod enc Try.prog W 0 (fun _ => true) true n 45 cs = some y) : ∃ x, taskC.R none W W.heap.size x cs := by
  obtain ⟨ys, n', _, _, hlen, hyl, hf⟩ := DataW.trod_struct Try.underlying45 h
  have hlen' : cs.length = 9 := hlen.trans (by kernel_rfl)
  match cs, hlen' with
  | [e0, e1, e2, e3, e4, e5, e6, e7, e8], _ =>
    obtain ⟨a0, rfl⟩ := field_int (i := 0) hyl (hf 0 _ rfl) (by decide) Try.underlying3 (by kernel_rfl) rfl
    obtain ⟨a1, rfl⟩ := field_int (i := 1) hyl (hf 1 _ rfl) (by decide) Try.underlying3 (by kernel_rfl) rfl
    obtain ⟨A2, c2, a2, rfl, r2⟩ := field_rows (C := intC) (i := 2) hyl (hf 2 _ rfl) (by decide) Try.underlying23 (by kernel_rfl) rfl (by kernel_rfl) (by decide) el_Int
    obtain ⟨A3, c3, a3, rfl, r3⟩ := field_rows (C := flowC) (i := 3) hyl (hf 3 _ rfl) (by decide) Try.underlying43 (by kernel_rfl) rfl (by kernel_rfl) (by decide) el_Flow
    obtain ⟨A4, c4, a4, rfl, r4⟩ := field_rows (C := intC) (i := 4) hyl (hf 4 _ rfl) (by decide) Try.underlying23 (by kernel_rfl) rfl (by kernel_rfl) (by decide) el_Int
    obtain ⟨a5, rfl⟩ := field_int (i := 5) hyl (hf 5 _ rfl) (by decide) Try.underlying3 (by kernel_rfl) rfl
    obtain ⟨a6, rfl⟩ := field_int (i := 6) hyl (hf 6 _ rfl) (by decide) Try.underlying3 (by kernel_rfl) rfl
    obtain ⟨a7, rfl⟩ := field_int (i := 7) hyl (hf 7 _ rfl) (by decide) Try.underlying3 (by kernel_rfl) rfl
    obtain ⟨a8, rfl⟩ := field_int (i := 8) hyl (hf 8 _ rfl) (by decide) Try.underlying3 (by kernel_rfl) rfl
    exact ⟨⟨a0, a1, a2, a3, a4, a5, a6, a7, a8⟩, A2, c2, A3, c3, A4, c4, rfl, r2, r3, r4⟩
set_option maxRecDepth 100000 in
theorem el_Net (n : Nat) (cs : List Value) (y : DataW H × List MemPlace) (h : DataW.trod enc Try.prog W 0 (fun _ => true) true n 87 cs = some y) : ∃ x, netC.R none W W.heap.size x cs := by
  obtain ⟨ys, n', _, _, hlen, hyl, hf⟩ := DataW.trod_struct Try.underlying87 h
  have hlen' : cs.length = 2 := hlen.trans (by kernel_rfl)
  match cs, hlen' with
  | [e0, e1], _ =>
    obtain ⟨a0, rfl⟩ := field_int (i := 0) hyl (hf 0 _ rfl) (by decide) Try.underlying3 (by kernel_rfl) rfl
    obtain ⟨A1, c1, a1, rfl, r1⟩ := field_rows (C := taskC) (i := 1) hyl (hf 1 _ rfl) (by decide) Try.underlying85 (by kernel_rfl) rfl (by kernel_rfl) (by decide) el_Task
    exact ⟨⟨a0, a1⟩, A1, c1, rfl, r1⟩
set_option maxRecDepth 100000 in
theorem open_net {base : Nat} {v : Value} {d : DataW H} {p : List MemPlace} (hv : Value.okWide Try.prog W .any base 87 v) (h : DataW.Trod enc Try.prog W 0 (fun _ => true) true 87 v d p) :
    ∃ x, ∃ cs : List Value, v = .agg cs.toArray ∧ netC.R none W W.heap.size x cs :=
  open_structArg Try.underlying87 el_Net hv h
set_option maxRecDepth 100000 in
theorem open_task {base : Nat} {v : Value} {d : DataW H} {p : List MemPlace} (hv : Value.okWide Try.prog W .any base 45 v) (h : DataW.Trod enc Try.prog W 0 (fun _ => true) true 45 v d p) :
    ∃ x, ∃ cs : List Value, v = .agg cs.toArray ∧ taskC.R none W W.heap.size x cs :=
  open_structArg Try.underlying45 el_Task hv h
end
end Go.Proofs.Ytkkjljpokannkaa
