/- Whether active tasks fit a net: l3Busy of the reference. -/
import Derived.Test.YtjieilicjdoaaaaMrkOk
namespace Go.Proofs.Ytjieilicjdoaaaa
open Go.RowKit

def task0 : GTask := ⟨0, 0, [], [], [], 0, 0, 0, 0⟩
def busyAt (n : GNet) (b : GItem) : Bool := inB b.task 0 (n.tasks.length - 1) && (inB b.who 1 4 && inB b.did 0 ((n.tasks.getD b.task.toNat task0).need - 1))
def busyOk (n : GNet) (bs : List GItem) : Bool := decide (bs.length ≤ 6) && bs.all (busyAt n)

theorem netOk_need {n : GNet} (h : netOk n = true) {j : Nat} (hj : j < n.tasks.length) : 1 ≤ n.tasks[j].need ∧ n.tasks[j].need ≤ 3 := by
 unfold netOk at h
 simp only [Bool.and_eq_true, List.all_eq_true] at h
 have ht := h.2.2 n.tasks[j] (List.getElem_mem hj)
 unfold taskOk at ht
 simp only [Bool.and_eq_true, inB_iff] at ht
 omega
theorem netOk_len {n : GNet} (h : netOk n = true) : 1 ≤ n.tasks.length ∧ n.tasks.length ≤ 6 ∧ 2 ≤ n.places ∧ n.places ≤ 8 := by
 unfold netOk at h
 simp only [Bool.and_eq_true, inB_iff] at h
 omega

set_option maxRecDepth 100000 in
set_option maxHeartbeats 2000000 in
theorem l3Busy (x : GNet) (A : Option Addr) (c : Nat) (A2 : Option Addr) (c2 : Nat) (bs : List GItem) (m m2 : Option Nat) (w : World) (hok : netOk x = true) (hx : Rows taskC m w w.heap.size A x.tasks) (hb : Rows itemC m2 w w.heap.size A2 bs) :
  Calls Try.prog 90 #[.agg (netCells x A c), .slice A2 bs.length c2] w (Says (.bool (busyOk x bs)) w) := by
 have hlen := hb.1
 have HX := Lib.hid hx
 have HBs := Lib.hid hb
 clear hx hb
 obtain ⟨t1, t6, _, _⟩ := netOk_len hok
 by_cases h6 : 6 < bs.length
 ·
  have h6z : (6 : Int) < (bs.length : Int) := by omega
  have HF : Hid (busyOk x bs = false) := by
   show _ = _
   have : decide (bs.length ≤ 6) = false := by simp; omega
   rw [busyOk, this]; rfl
  go_enter Try.func90, Try.ntmps90
  go_wp2
  go_ret
  exact ⟨by rw [HF.out]; rfl, by go_grown⟩
 ·
  have h6z : ¬ (6 : Int) < (bs.length : Int) := by omega
  have HF : Hid (busyOk x bs = bs.all (busyAt x)) := by
   show _ = _
   have : decide (bs.length ≤ 6) = true := by simp; omega
   rw [busyOk, this]; rfl
  go_enter Try.func90, Try.ntmps90
  go_wp2
  generalize hW : w.alloc _ = W
  have b0 : Bk W w.heap.size 75 (netCells x A c) := by rw [← hW]; exact Bk.new rfl
  have HB : Hid (Below w.heap.size w W) := by show Below _ _ _; rw [← hW]; exact (Below.refl _ w).alloc (Nat.le_refl _) _
  clear hW
  have B0 := Lib.hid b0
  clear b0
  go_loopg [5] bs.length (fun gg s5 wr => ∃ k : Nat, k ≤ bs.length ∧ bs.length - k ≤ gg ∧ s5 = .int .i64 k ∧ Aside (Below W.heap.size W wr) ∧ Aside ((bs.take k).all (busyAt x) = true))
  case atStart => exact ⟨0, Nat.zero_le _, by omega, rfl, Below.refl _ _, by show List.all (bs.take 0) _ = true; simp⟩
  case round =>
   obtain ⟨k, hk, hg, rfl, EW, AN⟩ := hrel
   have k0 := fun i => (B0.out.later EW.out).cell i
   have EWw := Lib.hid (HB.out.trans (EW.out.mono HB.out.size))
   by_cases hlt : k < bs.length
   ·
    have hltz : (k : Int) < (bs.length : Int) := by omega
    obtain ⟨b, off, rfl, hb, hc0, hc1, hc2⟩ := item_at (HBs.out.later EWw.out) hlt
    have HM := Lib.hid (all_step (busyAt x) bs k hlt)
    have HN : Hid (busyAt x bs[k] = false → bs.all (busyAt x) = false) := fun h => all_false _ _ k hlt h
    generalize bs[k] = y at hc0 hc1 hc2 HM HN
    obtain ⟨yt, yw, yd⟩ := y
    cases q1 : inB yt 0 ((x.tasks.length : Int) - 1) with
    | false =>
     have HS := Lib.hid (HN.out (by rw [busyAt]; simp only [q1]; rfl))
     go_wp2
     go_quiet (first | (go_at_call 32; exact quiet_left (l1In _ _ _ _)))
     go_wp2
     go_ret
     exact ⟨by rw [HF.out, HS.out]; rfl, bdN EWw.out _⟩
    | true =>
     cases q2 : inB yw 1 4 with
     | false =>
      have HS := Lib.hid (HN.out (by rw [busyAt]; simp only [q1, q2]; rfl))
      go_wp2
      go_quiet (first | (go_at_call 32; exact quiet_left (l1In _ _ _ _)))
      go_wp2
      go_ret
      exact ⟨by rw [HF.out, HS.out]; rfl, bdN EWw.out _⟩
     | true =>
      have hyt := inB_iff.1 q1
      obtain ⟨j, rfl⟩ := Int.eq_ofNat_of_zero_le hyt.1
      have hj : j < x.tasks.length := by omega
      have hjz : (j : Int) < (x.tasks.length : Int) := by omega
      obtain ⟨b2, off2, B1, d1, B2, d2, B3, d3, rfl, hb2, _, e0, e1, e2, e3, e4, e5, e6, e7, e8⟩ := task_at (HX.out.later EWw.out) hj
      have hneed := netOk_need hok hj
      have HA : Hid (busyAt x ⟨j, yw, yd⟩ = inB yd 0 (x.tasks[j].need - 1)) := by
       show _ = _
       unfold busyAt
       simp only [q1, q2, Int.toNat_natCast, getD_get hj]
       rfl
      generalize x.tasks[j] = t at e0 e1 e2 e3 e4 e5 e6 e7 e8 hneed HA
      clear e0 e1 e2 e3 e4 e5 e6 e7
      cases q3 : inB yd 0 (t.need - 1) with
      | false =>
       have HS := Lib.hid (HN.out (by rw [HA.out, q3]))
       go_wp2
       go_quiet (first | (go_at_call 32; exact quiet_left (l1In _ _ _ _)))
       go_wp2
       go_ret
       exact ⟨by rw [HF.out, HS.out]; rfl, bdN EWw.out _⟩
      | true =>
       have HS : Hid ((bs.take (k + 1)).all (busyAt x) = true) := HM.out.trans (by rw [AN.out, HA.out, q3]; rfl)
       go_wp2
       go_quiet (first | (go_at_call 32; exact quiet_left (l1In _ _ _ _)))
       go_wp2
       go_roundg (bs.length - (k + 1))
       case measure => omega
       case rel => exact ⟨k + 1, by omega, by omega, by go_num, bdN EW.out _, HS.out⟩
   ·
    have hltz : ¬ (k : Int) < (bs.length : Int) := by omega
    have he : k = bs.length := by omega
    have HE := Lib.hid he
    clear he
    go_wp2
    go_ret
    have h1 := AN.out
    rw [HE.out, List.take_length] at h1
    exact ⟨by rw [HF.out, h1]; rfl, EWw.out⟩
end Go.Proofs.Ytjieilicjdoaaaa
