/- Whether nothing can happen in a case: impl.CasStuck and spec.CasStuck give the same. -/
import Derived.Test.YtkoaaagmcjjimaaGEna
import Derived.Test.YtkoaaagmcjjimaaCasOk
namespace Go.Proofs.Ytkoaaagmcjjimaa
open Go.RowKit
set_option linter.unusedSimpArgs false
set_option linter.unusedVariables false

def runs (x : GNet) (y : GCase) : Bool := casOk x y && decide (y.state = 1)
def stuckOf (x : GNet) (y : GCase) : Bool := runs x y && (decide (y.busy.length = 0) && decide ((enaOf x y.marks y.busy).length = 0))
theorem casOk_net {x : GNet} {y : GCase} (h : casOk x y = true) : netOk x = true ∧ mrkOk x y.marks = true ∧ busyOk x y.busy = true := by
  unfold casOk at h
  simp only [Bool.and_eq_true] at h
  exact ⟨(mrk_len h.1).1, h.1, h.2.1⟩

set_option maxRecDepth 100000 in
set_option maxHeartbeats 2000000 in
theorem spec_CasStuck (x : GNet) (A : Option Addr) (c : Nat) (y : GCase) (A1 : Option Addr) (c1 : Nat) (A2 : Option Addr) (c2 : Nat) (A3 : Option Addr) (c3 : Nat) (A4 : Option Addr) (c4 : Nat) (m m2 : Option Nat) (w : World) (hx : Rows taskC m w w.heap.size A x.tasks)
    (h1 : Rows intC m2 w w.heap.size A1 y.marks) (h2 : Rows itemC m2 w w.heap.size A2 y.busy) (h3 : Rows intC m2 w w.heap.size A3 y.data) (h4 : Rows didC m2 w w.heap.size A4 y.did) :
    Calls Try.prog 84 #[.agg (netCells x A c), .agg (caseCells y A1 c1 A2 c2 A3 c3 A4 c4)] w (Says (.bool (stuckOf x y)) w) := by
  have n2 := h2.1
  have HX := Lib.hid hx
  have H1 := Lib.hid h1
  have H2 := Lib.hid h2
  have H3 := Lib.hid h3
  have H4 := Lib.hid h4
  clear hx h1 h2 h3 h4
  go_enter Try.func84, Try.ntmps84
  go_wp2_with fail
  refine callsAt fun W hW => ?_
  have P1 : Hid (Bk W w.heap.size 37 (netCells x A c)) := by show Bk _ _ _ _; rw [hW]; exact (Bk.new rfl).alloc _
  have C1 : Hid (Bk W (w.heap.size + 1) 63 (caseCells y A1 c1 A2 c2 A3 c3 A4 c4)) := by show Bk _ _ _ _; rw [hW]; exact Bk.new (by simp)
  have B : Hid (Below w.heap.size w W) := by show Below _ _ _; rw [hW]; go_grown
  clear hW
  refine (spec_CasOk x A c y A1 c1 A2 c2 A3 c3 A4 c4 m m2 W (HX.out.later B.out) (H1.out.later B.out) (H2.out.later B.out) (H3.out.later B.out) (H4.out.later B.out)).mono ?_
  rintro e w1 ⟨rfl, hb⟩
  have P1 := Lib.hid (P1.out.later hb)
  have C1 := Lib.hid (C1.out.later hb)
  have B := Lib.hid (B.out.trans (hb.mono B.out.size))
  clear hb
  have k0 := fun i => P1.out.cell i
  have k1 := fun i => C1.out.cell i
  cases q1 : casOk x y with
  | false =>
    have HE : Hid (stuckOf x y = false) := by show _ = _; rw [stuckOf, runs, q1]; rfl
    go_wp2
    go_ret
    exact ⟨by rw [HE.out]; rfl, B.out⟩
  | true =>
  by_cases hs : y.state = 1
  rotate_left
  · have hb1 : (y.state == 1) = false := by simp [hs]
    have HE : Hid (stuckOf x y = false) := by show _ = _; rw [stuckOf, runs, q1]; simp [hs]
    clear hs
    go_wp2
    go_ret
    exact ⟨by rw [HE.out]; rfl, B.out⟩
  have hb1 : (y.state == 1) = true := by simp [hs]
  by_cases h0 : y.busy.length = 0
  rotate_left
  · have hb2 : ((y.busy.length : Int) == 0) = false := by rw [beq_eq_false_iff_ne]; omega
    have HE : Hid (stuckOf x y = false) := by show _ = _; rw [stuckOf]; simp [h0]
    clear hs h0
    go_wp2
    go_ret
    exact ⟨by rw [HE.out]; rfl, B.out⟩
  have hb2 : ((y.busy.length : Int) == 0) = true := by rw [beq_iff_eq]; omega
  have HE : Hid (stuckOf x y = decide ((enaOf x y.marks y.busy).length = 0)) := by show _ = _; rw [stuckOf, runs, q1]; simp [hs, h0]
  have ht6 := (netOk_len (casOk_net q1).1).2.1
  clear hs h0 q1
  go_wp2_with fail
  clear k0 k1
  refine (spec_EnaTasks x A c A1 c1 y.marks A2 c2 y.busy m m2 _ (HX.out.later B.out) (H1.out.later B.out).ints (H2.out.later B.out) (by omega)).mono ?_
  rintro e w2 ⟨v, rfl, hv, hb⟩
  have B := Lib.hid (B.out.trans (hb.mono B.out.size))
  obtain ⟨A5, c5, hv5, _⟩ := hv.form
  subst hv5
  clear hb hv
  by_cases h5 : (enaOf x y.marks y.busy).length = 0
  · have hb3 : (((enaOf x y.marks y.busy).length : Int) == 0) = true := by rw [beq_iff_eq]; omega
    have HE2 : Hid (stuckOf x y = true) := by show _ = _; rw [HE.out]; simp [h5]
    clear h5
    go_wp2
    go_ret
    exact ⟨by rw [HE2.out]; rfl, B.out⟩
  · have hb3 : (((enaOf x y.marks y.busy).length : Int) == 0) = false := by rw [beq_eq_false_iff_ne]; omega
    have HE2 : Hid (stuckOf x y = false) := by show _ = _; rw [HE.out]; simp [h5]
    clear h5
    go_wp2
    go_ret
    exact ⟨by rw [HE2.out]; rfl, B.out⟩

set_option maxRecDepth 100000 in
set_option maxHeartbeats 2000000 in
theorem impl_running (x : GNet) (A : Option Addr) (c : Nat) (y : GCase) (A1 : Option Addr) (c1 : Nat) (A2 : Option Addr) (c2 : Nat) (A3 : Option Addr) (c3 : Nat) (A4 : Option Addr) (c4 : Nat) (m m2 : Option Nat) (w : World) (hx : Rows taskC m w w.heap.size A x.tasks)
    (h1 : Rows intC m2 w w.heap.size A1 y.marks) (h2 : Rows itemC m2 w w.heap.size A2 y.busy) (h3 : Rows intC m2 w w.heap.size A3 y.data) (h4 : Rows didC m2 w w.heap.size A4 y.did) :
    Calls Try.prog 169 #[.agg (netCells x A c), .agg (caseCells y A1 c1 A2 c2 A3 c3 A4 c4)] w (Says (.bool (runs x y)) w) := by
  have HX := Lib.hid hx
  have H1 := Lib.hid h1
  have H2 := Lib.hid h2
  have H3 := Lib.hid h3
  have H4 := Lib.hid h4
  clear hx h1 h2 h3 h4
  go_enter Try.func169, Try.ntmps169
  go_wp2_with fail
  refine callsAt fun W hW => ?_
  have C1 : Hid (Bk W (w.heap.size + 1) 63 (caseCells y A1 c1 A2 c2 A3 c3 A4 c4)) := by show Bk _ _ _ _; rw [hW]; exact Bk.new (by simp)
  have B : Hid (Below w.heap.size w W) := by show Below _ _ _; rw [hW]; go_grown
  clear hW
  refine (impl_CasOk x A c y A1 c1 A2 c2 A3 c3 A4 c4 m m2 W (HX.out.later B.out) (H1.out.later B.out) (H2.out.later B.out) (H3.out.later B.out) (H4.out.later B.out)).mono ?_
  rintro e w1 ⟨rfl, hb⟩
  have C1 := Lib.hid (C1.out.later hb)
  have B := Lib.hid (B.out.trans (hb.mono B.out.size))
  clear hb
  have k1 := fun i => C1.out.cell i
  cases q1 : casOk x y with
  | false =>
    have HE : Hid (runs x y = false) := by show _ = _; rw [runs, q1]; rfl
    go_wp2
    go_ret
    exact ⟨by rw [HE.out]; rfl, B.out⟩
  | true =>
  by_cases hs : y.state = 1
  · have hb1 : (y.state == 1) = true := by simp [hs]
    have HE : Hid (runs x y = true) := by show _ = _; rw [runs, q1]; simp [hs]
    clear hs
    go_wp2
    go_ret
    exact ⟨by rw [HE.out]; rfl, B.out⟩
  · have hb1 : (y.state == 1) = false := by simp [hs]
    have HE : Hid (runs x y = false) := by show _ = _; rw [runs, q1]; simp [hs]
    clear hs
    go_wp2
    go_ret
    exact ⟨by rw [HE.out]; rfl, B.out⟩

set_option maxRecDepth 100000 in
set_option maxHeartbeats 2000000 in
theorem impl_CasStuck (x : GNet) (A : Option Addr) (c : Nat) (y : GCase) (A1 : Option Addr) (c1 : Nat) (A2 : Option Addr) (c2 : Nat) (A3 : Option Addr) (c3 : Nat) (A4 : Option Addr) (c4 : Nat) (m m2 : Option Nat) (w : World) (hx : Rows taskC m w w.heap.size A x.tasks)
    (h1 : Rows intC m2 w w.heap.size A1 y.marks) (h2 : Rows itemC m2 w w.heap.size A2 y.busy) (h3 : Rows intC m2 w w.heap.size A3 y.data) (h4 : Rows didC m2 w w.heap.size A4 y.did) :
    Calls Try.prog 86 #[.agg (netCells x A c), .agg (caseCells y A1 c1 A2 c2 A3 c3 A4 c4)] w (Says (.bool (stuckOf x y)) w) := by
  have n2 := h2.1
  have HX := Lib.hid hx
  have H1 := Lib.hid h1
  have H2 := Lib.hid h2
  have H3 := Lib.hid h3
  have H4 := Lib.hid h4
  clear hx h1 h2 h3 h4
  go_enter Try.func86, Try.ntmps86
  go_wp2_with fail
  refine callsAt fun W hW => ?_
  have P1 : Hid (Bk W w.heap.size 37 (netCells x A c)) := by show Bk _ _ _ _; rw [hW]; exact (Bk.new rfl).alloc _
  have C1 : Hid (Bk W (w.heap.size + 1) 63 (caseCells y A1 c1 A2 c2 A3 c3 A4 c4)) := by show Bk _ _ _ _; rw [hW]; exact Bk.new (by simp)
  have B : Hid (Below w.heap.size w W) := by show Below _ _ _; rw [hW]; go_grown
  clear hW
  refine (impl_running x A c y A1 c1 A2 c2 A3 c3 A4 c4 m m2 W (HX.out.later B.out) (H1.out.later B.out) (H2.out.later B.out) (H3.out.later B.out) (H4.out.later B.out)).mono ?_
  rintro e w1 ⟨rfl, hb⟩
  have P1 := Lib.hid (P1.out.later hb)
  have C1 := Lib.hid (C1.out.later hb)
  have B := Lib.hid (B.out.trans (hb.mono B.out.size))
  clear hb
  have k0 := fun i => P1.out.cell i
  have k1 := fun i => C1.out.cell i
  cases q1 : runs x y with
  | false =>
    have HE : Hid (stuckOf x y = false) := by show _ = _; rw [stuckOf, q1]; rfl
    go_wp2
    go_ret
    exact ⟨by rw [HE.out]; rfl, B.out⟩
  | true =>
  by_cases h0 : y.busy.length = 0
  rotate_left
  · have hb2 : ((y.busy.length : Int) == 0) = false := by rw [beq_eq_false_iff_ne]; omega
    have HE : Hid (stuckOf x y = false) := by show _ = _; rw [stuckOf]; simp [h0]
    clear h0
    go_wp2
    go_ret
    exact ⟨by rw [HE.out]; rfl, B.out⟩
  have hb2 : ((y.busy.length : Int) == 0) = true := by rw [beq_iff_eq]; omega
  have hnil : y.busy = [] := List.eq_nil_of_length_eq_zero h0
  have HE : Hid (stuckOf x y = decide ((enaOf x y.marks []).length = 0)) := by show _ = _; rw [stuckOf, q1, hnil]; rfl
  clear h0 q1 hnil
  go_wp2_with fail
  clear k0 k1
  refine (impl_EnaTasks x A c A1 c1 y.marks none 0 [] m m2 _ (HX.out.later B.out) (H1.out.later B.out).ints Rows.nil).mono ?_
  rintro e w2 ⟨v, rfl, hv, hb⟩
  have B := Lib.hid (B.out.trans (hb.mono B.out.size))
  obtain ⟨A5, c5, hv5, _⟩ := hv.form
  subst hv5
  clear hb hv
  by_cases h5 : (enaOf x y.marks []).length = 0
  · have hb3 : (((enaOf x y.marks []).length : Int) == 0) = true := by rw [beq_iff_eq]; omega
    have HE2 : Hid (stuckOf x y = true) := by show _ = _; rw [HE.out]; simp [h5]
    clear h5
    go_wp2
    go_ret
    exact ⟨by rw [HE2.out]; rfl, B.out⟩
  · have hb3 : (((enaOf x y.marks []).length : Int) == 0) = false := by rw [beq_eq_false_iff_ne]; omega
    have HE2 : Hid (stuckOf x y = false) := by show _ = _; rw [HE.out]; simp [h5]
    clear h5
    go_wp2
    go_ret
    exact ⟨by rw [HE2.out]; rfl, B.out⟩
end Go.Proofs.Ytkoaaagmcjjimaa
