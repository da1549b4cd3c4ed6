/- Whether a net is plain: both sides. -/
import Derived.Test.YtkoaaagmcjjimaaNetOk
namespace Go.Proofs.Ytkoaaagmcjjimaa
open Go.RowKit

def bent (t : GTask) : Bool := decide (t.join = 3) || decide (0 < t.clear.length)
def plainOk (n : GNet) : Bool := netOk n && !n.tasks.any bent

theorem plain_pred (w : World) : PredTask 107 #[] bent w := by
  intro W x cs m hb hx
  obtain ⟨A1, c1, A2, c2, A3, c3, rfl, h1, h2, h3⟩ := hx
  have hl := h3.1
  show Calls Try.prog 107 #[.agg #[.int .i64 x.join, .int .i64 x.split, .slice A1 x.inn.length c1, .slice A2 x.out.length c2, .slice A3 x.clear.length c3, .int .i64 x.role, .int .i64 x.apart, .int .i64 x.all, .int .i64 x.need]] W _
  by_cases h : x.join = 3
  · have hb1 : (x.join == 3) = true := by simp [h]
    have HF : Hid (bent x = true) := by show _ = _; rw [bent, decide_eq_true h, Bool.true_or]
    clear h
    go_enter Try.func107, Try.ntmps107
    go_wp2
    go_ret
    exact ⟨by rw [HF.out]; rfl, by go_grown⟩
  · have hb1 : (x.join == 3) = false := by simp [h]
    by_cases h0 : 0 < x.clear.length
    · have hz : (0 : Int) < (x.clear.length : Int) := by omega
      have HF : Hid (bent x = true) := by show _ = _; rw [bent, decide_eq_true h0, Bool.or_true]
      clear h
      go_enter Try.func107, Try.ntmps107
      go_wp2
      go_ret
      exact ⟨by rw [HF.out]; rfl, by go_grown⟩
    · have hz : ¬ (0 : Int) < (x.clear.length : Int) := by omega
      have HF : Hid (bent x = false) := by show _ = _; rw [bent, decide_eq_false h, decide_eq_false h0]; rfl
      clear h
      go_enter Try.func107, Try.ntmps107
      go_wp2
      go_ret
      exact ⟨by rw [HF.out]; rfl, by go_grown⟩

set_option maxHeartbeats 1000000 in
theorem impl_SndPlain (x : GNet) (A : Option Addr) (c : Nat) (m : Option Nat) (w : World) (hx : Rows taskC m w w.heap.size A x.tasks) :
    Calls Try.prog 25 #[.agg #[.int .i64 x.places, .slice A x.tasks.length c]] w (Says (.bool (plainOk x)) w) := by
  have H := Lib.hid hx
  clear hx
  have eg : ∀ args w, (callFunc 107 args).run Try.prog w = .ok (.enter 107 args) w := enters_of Try.func107 (by kernel_rfl) rfl
  go_enter Try.func25, Try.ntmps25
  go_wp2_with fail
  refine callsAt fun W hW => ?_
  have b0 : Bk W w.heap.size 37 #[.int .i64 x.places, .slice A x.tasks.length c] := by rw [hW]; exact Bk.new rfl
  have hB : Below w.heap.size w W := by rw [hW]; go_grown
  clear hW
  refine (impl_NetOk x _ m W ⟨A, c, rfl, H.out.later hB⟩).mono ?_
  rintro e w2 ⟨rfl, hb⟩
  have b2 := b0.later hb
  have HB := Lib.hid (hB.trans (hb.mono hB.size))
  have kk := fun i => b2.cell i
  clear hB hb b0 b2
  cases q : netOk x with
  | false =>
    go_wp2
    go_ret
    exact ⟨by rw [plainOk, q]; rfl, HB.out⟩
  | true =>
    go_wp2_with fail
    refine (containsFunc_task 107 #[] bent eg A c x.tasks m w2 (plain_pred w2) (H.out.later HB.out)).mono ?_
    rintro e w3 ⟨rfl, hb3⟩
    have HB3 := Lib.hid (HB.out.trans (hb3.mono HB.out.size))
    clear hb3 kk
    go_wp2
    go_ret
    exact ⟨by rw [plainOk, q]; rfl, HB3.out⟩

theorem any_fits {α : Type} (p : α → Bool) (xs : List α) (k : Nat) (hk : k < xs.length) (h2 : p xs[k] = true) : xs.any p = true := by
  rw [List.any_eq_true]; exact ⟨xs[k], List.getElem_mem hk, h2⟩

set_option maxHeartbeats 1000000 in
theorem spec_SndPlain (x : GNet) (A : Option Addr) (c : Nat) (m : Option Nat) (w : World) (hx : Rows taskC m w w.heap.size A x.tasks) :
    Calls Try.prog 26 #[.agg #[.int .i64 x.places, .slice A x.tasks.length c]] w (Says (.bool (plainOk x)) w) := by
  have hlen := hx.1
  have H := Lib.hid hx
  clear hx
  go_enter Try.func26, Try.ntmps26
  go_wp2_with fail
  refine callsAt fun W hW => ?_
  have b0 : Bk W w.heap.size 37 #[.int .i64 x.places, .slice A x.tasks.length c] := by rw [hW]; exact Bk.new rfl
  have hB : Below w.heap.size w W := by rw [hW]; go_grown
  clear hW
  refine (spec_NetOk x _ m W ⟨A, c, rfl, H.out.later hB⟩).mono ?_
  rintro e w2 ⟨rfl, hb⟩
  have B2 := Lib.hid (b0.later hb)
  have HB := Lib.hid (hB.trans (hb.mono hB.size))
  clear hB hb b0
  have X2 := Lib.hid (H.out.later HB.out)
  cases q : netOk x with
  | false =>
    go_wp2
    go_ret
    exact ⟨by rw [plainOk, q]; rfl, HB.out⟩
  | true =>
    have HF : Hid (plainOk x = !x.tasks.any bent) := by show _ = _; rw [plainOk, q]; rfl
    have k0 := fun i => B2.out.cell i
    go_wp2
    clear q
    go_loopg [3] x.tasks.length (fun gg s3 wr => ∃ k : Nat, k ≤ x.tasks.length ∧ x.tasks.length - k ≤ gg ∧ s3 = .int .i64 k ∧ Aside (w2 = wr) ∧ Aside ((x.tasks.take k).any bent = false))
    case atStart => exact ⟨0, Nat.zero_le _, by omega, rfl, rfl, by show List.any (x.tasks.take 0) _ = false; simp⟩
    case round =>
      obtain ⟨k, hk, hg, rfl, EW, AN⟩ := hrel
      obtain rfl := EW.out
      by_cases hlt : k < x.tasks.length
      · have hltz : (k : Int) < (x.tasks.length : Int) := by omega
        obtain ⟨b, off, A1, c1, A2, c2, A3, c3, rfl, hb, hR, d0, d1, d2, d3, d4, d5, d6, d7, d8⟩ := task_at X2.out hlt
        have hcl := hR.2.2.1
        have HM := Lib.hid (any_split bent x.tasks k hlt AN.out)
        have HT := Lib.hid (any_fits bent x.tasks k hlt)
        clear hR
        generalize x.tasks[k] = t at d0 d1 d2 d3 d4 d5 d6 d7 d8 HM HT hcl
        clear d1 d2 d3 d5 d6 d7 d8
        by_cases h : t.join = 3
        · have hb1 : (t.join == 3) = true := by simp [h]
          have HS := Lib.hid (HT.out (by rw [bent, decide_eq_true h, Bool.true_or]))
          clear h
          go_wp2
          go_ret
          exact ⟨by rw [HF.out, HS.out]; rfl, HB.out⟩
        · have hb1 : (t.join == 3) = false := by simp [h]
          by_cases h0 : 0 < t.clear.length
          · have hz : (0 : Int) < (t.clear.length : Int) := by omega
            have HS := Lib.hid (HT.out (by rw [bent, decide_eq_true h0, Bool.or_true]))
            clear h
            go_wp2
            go_ret
            exact ⟨by rw [HF.out, HS.out]; rfl, HB.out⟩
          · have hz : ¬ (0 : Int) < (t.clear.length : Int) := by omega
            have HS : Hid ((x.tasks.take (k + 1)).any bent = false) := HM.out.trans (by rw [bent, decide_eq_false h, decide_eq_false h0]; rfl)
            clear h
            go_wp2
            go_roundg (x.tasks.length - (k + 1))
            case measure => omega
            case rel => exact ⟨k + 1, by omega, by omega, by go_num, rfl, HS.out⟩
      · have hltz : ¬ (k : Int) < (x.tasks.length : Int) := by omega
        have he : k = x.tasks.length := by omega
        have HE := Lib.hid he
        clear he
        go_wp2
        go_ret
        refine ⟨?_, HB.out⟩
        have h1 := AN.out
        rw [HE.out, List.take_length] at h1
        rw [HF.out, h1]; rfl
end Go.Proofs.Ytkoaaagmcjjimaa
