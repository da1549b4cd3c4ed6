/- The reference's l7Same. -/
import Derived.Test.YtjieilicjdoaaaaWayS
import Derived.Test.YtjieilicjdoaaaaAddPlain
import Derived.Deep.RegionHeld3
import Derived.Deep.RegionWith
namespace Go.Proofs.Ytjieilicjdoaaaa
open Go.RowKit

set_option maxRecDepth 100000 in
set_option maxHeartbeats 4000000 in
theorem spec_l7Same (A A1 A2 : Option Addr) (c c1 c2 : Nat) (t : List GRule) (a b : List Int) (m : Option Nat) (w : World) (hx : Rows ruleC m w w.heap.size A t) (ha : Ints w w.heap.size A1 a) (hb : Ints w w.heap.size A2 b) (hok : treeOk t = true) :
    Calls Try.prog 33 #[.slice A t.length c, .slice A1 a.length c1, .slice A2 b.length c2] w (Says (.bool (sameL t a b)) w) := by
  have HX := Lib.hid hx
  have HA := Lib.hid ha
  have HB := Lib.hid hb
  clear hx ha hb
  go_enter Try.func33, Try.ntmps33
  go_wp2_with fail
  refine (spec_l7Walk A A1 c c1 t a m w HX.out HA.out hok).mono ?_
  intro e w1 hW1
  unfold Walked at hW1
  obtain ⟨rfl, hb1⟩ := hW1
  have B1 := Lib.hid hb1
  clear hb1
  go_wp2_with fail
  refine (spec_l7Walk A A2 c c2 t b m w1 (HX.out.later B1.out) (HB.out.later B1.out) hok).mono ?_
  intro e w2 hW2
  unfold Walked at hW2
  obtain ⟨rfl, hb2⟩ := hW2
  have B2 := Lib.hid (B1.out.trans (hb2.mono B1.out.size))
  have hin := asked_in hok a
  have HF : Hid (sameL t a b = (decide (asked t a = asked t b) && (decide (asked t a = -1) || (holds (rule t (asked t a)).ask a == holds (rule t (asked t a)).ask b)))) := rfl
  have ea : lastOf (wayL t a) = asked t a := rfl
  have eb : lastOf (wayL t b) = asked t b := rfl
  rw [ea, eb]
  clear hb2 ea eb
  generalize asked t a = x at HF hin ⊢
  generalize asked t b = y at HF ⊢
  generalize heldOf t a (wayL t a) = h1
  generalize heldOf t b (wayL t b) = h2
  by_cases hxy : x = y
  · subst hxy
    have q0 : (x == x) = true := by simp
    rcases hin with rfl | ⟨i, rfl, hil⟩
    · go_wp2
      go_quiet (fail)
      go_wp2
      go_ret
      exact ⟨by rw [HF.out]; rfl, bdN B2.out _⟩
    · have q1 : ((i : Int) == -1) = false := by simp
      have hiz : (i : Int) < (t.length : Int) := by omega
      have HF2 : Hid (sameL t a b = (holds t[i].ask a == holds t[i].ask b)) := by
        show _ = _
        rw [HF.out, rule_get hil]
        have h3 : decide ((i : Int) = -1) = false := by simp
        rw [h3]
        simp
      obtain ⟨bb, off, A3, c3, rfl, hbb, hr, hd0, hd1, hd2, hd3, hd4, hd5, hd6⟩ := rule_at (HX.out.below B2.out) hil
      clear hr hd3 hd4 hd5 hd6
      generalize t[i] = r at hd0 hd1 hd2 HF2
      have HS : Hid ((fun W : World => W.cell? ⟨bb, off + i * 7, none⟩ = some (.int .i64 r.ask.op) ∧ W.cell? ⟨bb, off + i * 7 + 1, none⟩ = some (.int .i64 r.ask.var) ∧ W.cell? ⟨bb, off + i * 7 + 2, none⟩ = some (.int .i64 r.ask.k)) w2.drew) := ⟨hd0, hd1, hd2⟩
      have QA : Hid (Ints w2.drew w2.drew.heap.size A1 a) := (HA.out.later B2.out : Ints w2 w2.heap.size A1 a)
      have QB : Hid (Ints w2.drew w2.drew.heap.size A2 b) := (HB.out.later B2.out : Ints w2 w2.heap.size A2 b)
      go_wp2
      go_region_held3 (fun W : World => W.cell? ⟨bb, off + i * 7, none⟩ = some (.int .i64 r.ask.op) ∧ W.cell? ⟨bb, off + i * 7 + 1, none⟩ = some (.int .i64 r.ask.var) ∧ W.cell? ⟨bb, off + i * 7 + 2, none⟩ = some (.int .i64 r.ask.k)) (first | exact HS.out | exact HS6.out | exact HS7.out)
        (first
          | (go_at_call_of 31 A1; refine (spec_ExpHolds r.ask A1 c1 a _ QA.out).mono ?_; rintro e w6 ⟨rfl, hb6⟩; have HB6 := Lib.hid hb6; have HS6 := Lib.hid (⟨(hb6.cell (p := ⟨bb, off + i * 7, none⟩) (by have := B2.out.size; show bb < w2.heap.size; omega)).trans HS.out.1, (hb6.cell (p := ⟨bb, off + i * 7 + 1, none⟩) (by have := B2.out.size; show bb < w2.heap.size; omega)).trans HS.out.2.1, (hb6.cell (p := ⟨bb, off + i * 7 + 2, none⟩) (by have := B2.out.size; show bb < w2.heap.size; omega)).trans HS.out.2.2⟩ : (fun W : World => W.cell? ⟨bb, off + i * 7, none⟩ = some (.int .i64 r.ask.op) ∧ W.cell? ⟨bb, off + i * 7 + 1, none⟩ = some (.int .i64 r.ask.var) ∧ W.cell? ⟨bb, off + i * 7 + 2, none⟩ = some (.int .i64 r.ask.k)) w6); clear hb6)
          | (go_at_call_of 31 A2; refine (spec_ExpHolds r.ask A2 c2 b _ (QB.out.later HB6.out)).mono ?_; rintro e w7 ⟨rfl, hb7⟩; have HB7 := Lib.hid hb7; have HS7 := Lib.hid (⟨(hb7.cell (p := ⟨bb, off + i * 7, none⟩) (by have := B2.out.size; have := HB6.out.size; have hq : w2.drew.heap.size = w2.heap.size := rfl; show bb < w6.heap.size; omega)).trans HS6.out.1, (hb7.cell (p := ⟨bb, off + i * 7 + 1, none⟩) (by have := B2.out.size; have := HB6.out.size; have hq : w2.drew.heap.size = w2.heap.size := rfl; show bb < w6.heap.size; omega)).trans HS6.out.2.1, (hb7.cell (p := ⟨bb, off + i * 7 + 2, none⟩) (by have := B2.out.size; have := HB6.out.size; have hq : w2.drew.heap.size = w2.heap.size := rfl; show bb < w6.heap.size; omega)).trans HS6.out.2.2⟩ : (fun W : World => W.cell? ⟨bb, off + i * 7, none⟩ = some (.int .i64 r.ask.op) ∧ W.cell? ⟨bb, off + i * 7 + 1, none⟩ = some (.int .i64 r.ask.var) ∧ W.cell? ⟨bb, off + i * 7 + 2, none⟩ = some (.int .i64 r.ask.k)) w7); clear hb7))
      go_wp2
      go_ret
      exact ⟨by rw [HF2.out]; rfl, (B2.out.drew.trans (HB6.out.mono B2.out.size)).trans (HB7.out.mono (Nat.le_trans B2.out.size HB6.out.size))⟩
  · have q0 : (x == y) = false := by simp [hxy]
    have HF2 : Hid (sameL t a b = false) := by show _ = _; rw [HF.out]; simp [hxy]
    clear hxy
    go_wp2
    go_quiet (fail)
    go_wp2
    go_ret
    exact ⟨by rw [HF2.out]; rfl, bdN B2.out _⟩
end Go.Proofs.Ytjieilicjdoaaaa
