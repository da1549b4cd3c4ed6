/- Whether a case is ok: both sides. -/
import Derived.Test.YtjieilicjdoaaaaMrkOk
import Derived.Test.YtjieilicjdoaaaaBusyImpl
import Derived.Test.YtjieilicjdoaaaaGCopy
import Derived.Test.YtjieilicjdoaaaaGNet
namespace Go.Proofs.Ytjieilicjdoaaaa
open Go.RowKit

def didAt (n : GNet) (d : GDid) : Bool := inB d.task 0 (n.tasks.length - 1) && inB d.who 1 4
/-- The end is marked just if the case has ended. -/
def endOk (y : GCase) : Bool :=
 if y.state = 1 then y.marks.getD 1 0 == 0 else (decide (y.busy.length = 0) && ((y.state == 2) == decide ((0 : Int) < y.marks.getD 1 0)))
def casOk (x : GNet) (y : GCase) : Bool :=
 mrkOk x y.marks && (busyOk x y.busy && (datOk y.data && (decide (y.did.length ≤ 60) && (inB y.state 1 3 && (y.did.all (didAt x) && endOk y)))))
abbrev caseCells (y : GCase) (A1 : Option Addr) (c1 : Nat) (A2 : Option Addr) (c2 : Nat) (A3 : Option Addr) (c3 : Nat) (A4 : Option Addr) (c4 : Nat) : Array Value :=
 #[.int .i64 y.state, .slice A1 y.marks.length c1, .slice A2 y.busy.length c2, .slice A3 y.data.length c3, .slice A4 y.did.length c4]

set_option maxRecDepth 100000 in
set_option maxHeartbeats 4000000 in
theorem spec_CasOk (x : GNet) (A : Option Addr) (c : Nat) (y : GCase) (A1 : Option Addr) (c1 : Nat) (A2 : Option Addr) (c2 : Nat) (A3 : Option Addr) (c3 : Nat) (A4 : Option Addr) (c4 : Nat) (m m2 : Option Nat) (w : World) (hx : Rows taskC m w w.heap.size A x.tasks)
  (h1 : Rows intC m2 w w.heap.size A1 y.marks) (h2 : Rows itemC m2 w w.heap.size A2 y.busy) (h3 : Rows intC m2 w w.heap.size A3 y.data) (h4 : Rows didC m2 w w.heap.size A4 y.did) :
  Calls Try.prog 78 #[.agg (netCells x A c), .agg (caseCells y A1 c1 A2 c2 A3 c3 A4 c4)] w (Says (.bool (casOk x y)) w) := by
 have n4 := h4.1
 have HX := Lib.hid hx
 have H1 := Lib.hid h1
 have H2 := Lib.hid h2
 have H3 := Lib.hid h3
 have H4 := Lib.hid h4
 clear hx h1 h2 h3 h4
 go_enter Try.func78, Try.ntmps78
 go_wp2_with fail
 refine callsAt fun W hW => ?_
 have P0 : Hid (Bk W w.heap.size 75 (netCells x A c)) := by show Bk _ _ _ _; rw [hW]; exact (Bk.new rfl).alloc _
 have P1 : Hid (Bk W (w.heap.size + 1) 43 (caseCells y A1 c1 A2 c2 A3 c3 A4 c4)) := by show Bk _ _ _ _; rw [hW]; exact Bk.new (by simp)
 have B : Hid (Below w.heap.size w W) := by show Below _ _ _; rw [hW]; go_grown
 clear hW
 refine (spec_MrkOk x A c A1 c1 y.marks m W (HX.out.later B.out) (H1.out.later B.out).ints).mono ?_
 rintro e w1 ⟨rfl, hb⟩
 have P0 := Lib.hid (P0.out.later hb)
 have P1 := Lib.hid (P1.out.later hb)
 have B := Lib.hid (B.out.trans (hb.mono B.out.size))
 clear hb
 have k0 := fun i => P0.out.cell i
 have k1 := fun i => P1.out.cell i
 cases q1 : mrkOk x y.marks with
 | false =>
  go_wp2
  go_ret
  exact ⟨by rw [casOk, q1]; rfl, B.out⟩
 | true =>
 have hok : netOk x = true := by rw [mrkOk, Bool.and_eq_true] at q1; exact q1.1
 obtain ⟨t1, t6, t2, t8⟩ := netOk_len hok
 have hml : 2 ≤ y.marks.length := by
  rw [mrkOk, Bool.and_eq_true, marksOk, Bool.and_eq_true, decide_eq_true_eq] at q1
  omega
 go_wp2_with fail
 clear k0 k1
 refine (l3Busy x A c A2 c2 y.busy m m2 _ hok (HX.out.later B.out) (H2.out.later B.out)).mono ?_
 rintro e w2 ⟨rfl, hb⟩
 have P0 := Lib.hid (P0.out.later hb)
 have P1 := Lib.hid (P1.out.later hb)
 have B := Lib.hid (B.out.trans (hb.mono B.out.size))
 clear hb
 have k0 := fun i => P0.out.cell i
 have k1 := fun i => P1.out.cell i
 cases q2 : busyOk x y.busy with
 | false =>
  go_wp2
  go_ret
  exact ⟨by rw [casOk, q1, q2]; rfl, B.out⟩
 | true =>
 go_wp2_with fail
 refine (spec_DatOk A3 c3 y.data _ _ (H3.out.later B.out).ints).mono ?_
 rintro e w' ⟨rfl, rfl⟩
 cases q3 : datOk y.data with
 | false =>
  go_wp2
  go_ret
  exact ⟨by rw [casOk, q1, q2, q3]; rfl, B.out⟩
 | true =>
 by_cases h60 : 60 < y.did.length
 ·
  have h60z : (60 : Int) < (y.did.length : Int) := by omega
  have q4 : decide (y.did.length ≤ 60) = false := decide_eq_false (by omega)
  go_wp2
  go_ret
  exact ⟨by rw [casOk, q1, q2, q3, q4]; rfl, B.out⟩
 have h60z : ¬ (60 : Int) < (y.did.length : Int) := by omega
 have q4 : decide (y.did.length ≤ 60) = true := decide_eq_true (by omega)
 go_wp2_with fail
 refine (l1In _ _ _ _).mono ?_
 rintro e w' ⟨rfl, rfl⟩
 cases q5 : inB y.state 1 3 with
 | false =>
  go_wp2
  go_ret
  exact ⟨by rw [casOk, q1, q2, q3, q4, q5]; rfl, B.out⟩
 | true =>
 have HF : Hid (casOk x y = (y.did.all (didAt x) && endOk y)) := by show _ = _; rw [casOk, q1, q2, q3, q4, q5]; rfl
 obtain ⟨mb, mo, hA1, hmb, hmc⟩ := (H1.out.later B.out).ints.at_ (k := 1) (by omega)
 have hm1 : y.marks.getD 1 0 = y.marks[1] := getD_get (by omega)
 have HM1 := Lib.hid hm1
 have HMC := Lib.hid hmc
 have HB2 := Lib.hid hmb
 subst hA1
 clear q1 q2 q3 q4 hm1 hmc hmb
 go_wp2
 clear k0 k1
 go_loopg [5] y.did.length (fun gg s5 wr => ∃ k : Nat, k ≤ y.did.length ∧ y.did.length - k ≤ gg ∧ s5 = .int .i64 k ∧ Aside (Below w2.heap.size w2 wr) ∧ Aside ((y.did.take k).all (didAt x) = true))
 case atStart => exact ⟨0, Nat.zero_le _, by omega, rfl, Below.refl _ _, by show List.all (y.did.take 0) _ = true; simp⟩
 case round =>
  obtain ⟨k, hk, hg, rfl, EW, AN⟩ := hrel
  have k0 := fun i => (P0.out.later EW.out).cell i
  have k1 := fun i => (P1.out.later EW.out).cell i
  have BD := Lib.hid (B.out.trans (EW.out.mono B.out.size))
  by_cases hlt : k < y.did.length
  ·
   have hltz : (k : Int) < (y.did.length : Int) := by omega
   obtain ⟨b, off, rfl, hb, hc0, hc1⟩ := did_at (H4.out.later BD.out) hlt
   have HM := Lib.hid (all_step (didAt x) y.did k hlt)
   have HN : Hid (didAt x y.did[k] = false → y.did.all (didAt x) = false) := fun h => all_false _ _ k hlt h
   generalize y.did[k] = z at hc0 hc1 HM HN
   obtain ⟨zt, zw⟩ := z
   cases q1 : inB zt 0 ((x.tasks.length : Int) - 1) with
   | false =>
    have HS := Lib.hid (HN.out (by rw [didAt]; simp only [q1]; rfl))
    go_wp2
    go_quiet (first | (go_at_call 32; exact quiet_left (l1In _ _ _ _)))
    go_wp2
    go_ret
    exact ⟨by rw [HF.out, HS.out]; rfl, bdN BD.out _⟩
   | true =>
    cases q2 : inB zw 1 4 with
    | false =>
     have HS := Lib.hid (HN.out (by rw [didAt]; simp only [q1, q2]; rfl))
     go_wp2
     go_quiet (first | (go_at_call 32; exact quiet_left (l1In _ _ _ _)))
     go_wp2
     go_ret
     exact ⟨by rw [HF.out, HS.out]; rfl, bdN BD.out _⟩
    | true =>
     have HS : Hid ((y.did.take (k + 1)).all (didAt x) = true) := HM.out.trans (by rw [AN.out, didAt]; simp only [q1, q2]; rfl)
     go_wp2
     go_quiet (first | (go_at_call 32; exact quiet_left (l1In _ _ _ _)))
     go_wp2
     go_roundg (y.did.length - (k + 1))
     case measure => omega
     case rel => exact ⟨k + 1, by omega, by omega, by go_num, bdN EW.out _, HS.out⟩
  ·
   have hltz : ¬ (k : Int) < (y.did.length : Int) := by omega
   have he : k = y.did.length := by omega
   have HA : Hid (y.did.all (didAt x) = true) := by
    have h1 := AN.out
    rw [he, List.take_length] at h1
    exact h1
   clear he
   have HC : Hid (wr.cell? ⟨mb, mo + 1, none⟩ = some (.int .i64 y.marks[1])) := (EW.out.cell (p := ⟨mb, mo + 1, none⟩) HB2.out).trans HMC.out
   have hmk := HC.out
   have hsl1 : (1 : Int) < (y.marks.length : Int) := by omega
   have HE : Hid (endOk y = if y.state = 1 then y.marks[1] == 0 else (decide (y.busy.length = 0) && ((y.state == 2) == decide ((0 : Int) < y.marks[1])))) := by show _ = _; rw [endOk, HM1.out]
   generalize y.marks[1] = z1 at hmk HE
   by_cases hst : y.state = 1
   ·
    have hs1 : (y.state == 1) = true := by simp [hst]
    have HE1 : Hid (endOk y = (z1 == 0)) := by show _ = _; rw [HE.out, if_pos hst]
    clear hst
    go_wp2
    go_ret
    exact ⟨by rw [HF.out, HA.out, HE1.out]; rfl, BD.out⟩
   ·
    have hs1 : (y.state == 1) = false := by simp [hst]
    have HE1 : Hid (endOk y = (decide (y.busy.length = 0) && ((y.state == 2) == decide ((0 : Int) < z1)))) := by show _ = _; rw [HE.out, if_neg hst]
    clear hst
    by_cases hb0 : y.busy.length = 0
    ·
     have hz0 : ((y.busy.length : Int) == 0) = true := by simp [hb0]
     have HE2 : Hid (endOk y = ((y.state == 2) == decide ((0 : Int) < z1))) := by show _ = _; rw [HE1.out, decide_eq_true hb0]; rfl
     clear hb0
     go_wp2
     go_quiet (fail)
     go_wp2
     go_ret
     exact ⟨by rw [HF.out, HA.out, HE2.out]; rfl, bdN BD.out _⟩
    ·
     have hz0 : ((y.busy.length : Int) == 0) = false := beq_eq_false_iff_ne.2 (by omega)
     have HE2 : Hid (endOk y = false) := by show _ = _; rw [HE1.out, decide_eq_false hb0]; rfl
     clear hb0
     go_wp2
     go_quiet (fail)
     go_wp2
     go_ret
     exact ⟨by rw [HF.out, HA.out, HE2.out]; rfl, bdN BD.out _⟩

end Go.Proofs.Ytjieilicjdoaaaa
