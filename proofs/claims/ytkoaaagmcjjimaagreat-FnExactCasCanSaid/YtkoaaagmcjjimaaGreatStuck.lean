/- Whether nothing can happen in a case: impl.CasStuck and spec.CasStuck give the same. -/
import Derived.Test.YtkoaaagmcjjimaaGreatGEna
import Derived.Test.YtkoaaagmcjjimaaGreatCasOk
namespace Go.Proofs.YtkoaaagmcjjimaaGreat
open Go.RowKit
set_option linter.unusedSimpArgs false
set_option linter.unusedVariables false

def runs (x : GNet) (y : GCase) : Bool := casOk x y && decide (y.state = 1)
def stuckOf (x : GNet) (y : GCase) : Bool := runs x y && (decide (y.busy.length = 0) && decide ((enaOf x y.marks y.busy).length = 0))
theorem casOk_net {x : GNet} {y : GCase} (h : casOk x y = true) : netOk x = true ∧ mrkOk x y.marks = true ∧ busyOk x y.busy = true := by
  unfold casOk at h
  simp only [Bool.and_eq_true] at h
  exact ⟨(mrk_len h.1).1, h.1, h.2.1⟩

set_option maxRecDepth 100000 in
set_option maxHeartbeats 2000000 in
theorem impl_running (x : GNet) (A : Option Addr) (c : Nat) (y : GCase) (A1 : Option Addr) (c1 : Nat) (A2 : Option Addr) (c2 : Nat) (A3 : Option Addr) (c3 : Nat) (A4 : Option Addr) (c4 : Nat) (m m2 : Option Nat) (w : World) (hx : Rows taskC m w w.heap.size A x.tasks)
    (h1 : Rows intC m2 w w.heap.size A1 y.marks) (h2 : Rows itemC m2 w w.heap.size A2 y.busy) (h3 : Rows intC m2 w w.heap.size A3 y.data) (h4 : Rows didC m2 w w.heap.size A4 y.did) :
    Calls Tryz.prog 30 #[.agg (netCells x A c), .agg (caseCells y A1 c1 A2 c2 A3 c3 A4 c4)] w (Says (.bool (runs x y)) w) := by
  have HX := Lib.hid hx
  have H1 := Lib.hid h1
  have H2 := Lib.hid h2
  have H3 := Lib.hid h3
  have H4 := Lib.hid h4
  clear hx h1 h2 h3 h4
  go_enter Tryz.func30, Tryz.ntmps30
  go_wp2_with fail
  refine callsAt fun W hW => ?_
  have C1 : Hid (Bk W (w.heap.size + 1) 41 (caseCells y A1 c1 A2 c2 A3 c3 A4 c4)) := by show Bk _ _ _ _; rw [hW]; exact Bk.new (by simp)
  have B : Hid (Below w.heap.size w W) := by show Below _ _ _; rw [hW]; go_grown
  clear hW
  refine (impl_CasOk x A c y A1 c1 A2 c2 A3 c3 A4 c4 m m2 W (HX.out.later B.out) (H1.out.later B.out) (H2.out.later B.out) (H3.out.later B.out) (H4.out.later B.out)).mono ?_
  rintro e w1 ⟨rfl, hb⟩
  have C1 := Lib.hid (C1.out.later hb)
  have B := Lib.hid (B.out.trans (hb.mono B.out.size))
  clear hb
  have k1 := fun i => C1.out.cell i
  cases q1 : casOk x y with
  | false =>
    have HE : Hid (runs x y = false) := by show _ = _; rw [runs, q1]; rfl
    go_wp2
    go_ret
    exact ⟨by rw [HE.out]; rfl, B.out⟩
  | true =>
  by_cases hs : y.state = 1
  · have hb1 : (y.state == 1) = true := by simp [hs]
    have HE : Hid (runs x y = true) := by show _ = _; rw [runs, q1]; simp [hs]
    clear hs
    go_wp2
    go_ret
    exact ⟨by rw [HE.out]; rfl, B.out⟩
  · have hb1 : (y.state == 1) = false := by simp [hs]
    have HE : Hid (runs x y = false) := by show _ = _; rw [runs, q1]; simp [hs]
    clear hs
    go_wp2
    go_ret
    exact ⟨by rw [HE.out]; rfl, B.out⟩

end Go.Proofs.YtkoaaagmcjjimaaGreat
