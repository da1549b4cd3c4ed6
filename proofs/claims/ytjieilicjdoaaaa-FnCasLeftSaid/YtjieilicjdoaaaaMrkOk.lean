/- MrkOk of the program and of the reference: whether marks fit a net. -/
import Derived.Test.YtjieilicjdoaaaaNetOk
namespace Go.Proofs.Ytjieilicjdoaaaa
open Go.RowKit

def marksOk (n : GNet) (ms : List Int) : Bool := decide ((ms.length : Int) = n.places) && !ms.any fun x => !inB x 0 4
def mrkOk (n : GNet) (ms : List Int) : Bool := netOk n && marksOk n ms

/-- The box of a net: its two cells in a block of their own. -/
abbrev netCells (x : GNet) (A : Option Addr) (c : Nat) : Array Value := #[.int .i64 x.places, .slice A x.tasks.length c]

set_option maxHeartbeats 1000000 in
theorem spec_MrkOk (x : GNet) (A : Option Addr) (c : Nat) (A2 : Option Addr) (c2 : Nat) (ms : List Int) (m : Option Nat) (w : World) (hx : Rows taskC m w w.heap.size A x.tasks) (hm : Ints w w.heap.size A2 ms) :
  Calls Try.prog 89 #[.agg (netCells x A c), .slice A2 ms.length c2] w (Says (.bool (mrkOk x ms)) w) := by
 have hlen := hm.1
 have HX := Lib.hid hx
 have HM := Lib.hid hm
 clear hx hm
 go_enter Try.func89, Try.ntmps89
 go_wp2_with fail
 refine callsAt fun W hW => ?_
 have b0 : Bk W w.heap.size 75 (netCells x A c) := by rw [hW]; exact Bk.new rfl
 have hB : Below w.heap.size w W := by rw [hW]; go_grown
 clear hW
 refine (spec_NetOk x _ m W ⟨A, c, rfl, HX.out.later hB⟩).mono ?_
 rintro e w2 ⟨rfl, hb⟩
 have b2 := b0.later hb
 have HB := Lib.hid (hB.trans (hb.mono hB.size))
 have kk := fun i => b2.cell i
 clear hB hb b0 b2
 cases q : netOk x with
 | false =>
  go_wp2
  go_ret
  exact ⟨by rw [mrkOk, q]; rfl, HB.out⟩
 | true =>
  by_cases h : (ms.length : Int) = x.places
  ·
   have b : ((ms.length : Int) != x.places) = false := by simp [h]
   have HF : Hid (mrkOk x ms = !ms.any fun n => !inB n 0 4) := by show _ = _; simp [mrkOk, marksOk, h, q]
   clear h
   go_wp2
   clear kk q
   go_loopg [5] ms.length (fun gg s5 wr => ∃ k : Nat, k ≤ ms.length ∧ ms.length - k ≤ gg ∧ s5 = .int .i64 k ∧ Aside (w2 = wr) ∧ Aside ((ms.take k).any (fun n => !inB n 0 4) = false))
   case atStart => exact ⟨0, Nat.zero_le _, by omega, rfl, rfl, by show (ms.take 0).any _ = false; simp⟩
   case round =>
    obtain ⟨k, hk, hg, rfl, EW, AN⟩ := hrel
    obtain rfl := EW.out
    by_cases hlt : k < ms.length
    ·
     have hltz : (k : Int) < (ms.length : Int) := by omega
     obtain ⟨b', off, rfl, hb', hc⟩ := (HM.out.later HB.out).at_ hlt
     cases hq : inB ms[k] 0 4 with
     | true =>
      have HS := Lib.hid (any_miss (fun n => !inB n 0 4) ms k hlt AN.out (by simp [hq]))
      generalize ms[k] = y at hc hq
      go_wp2_with (go_at_call 32; refine (l1In _ _ _ _).mono ?_; rintro e w' ⟨rfl, rfl⟩)
      go_roundg (ms.length - (k + 1))
      case measure => omega
      case rel => exact ⟨k + 1, by omega, by omega, by go_num, rfl, HS.out⟩
     | false =>
      have HS := Lib.hid (any_hit (fun n => !inB n 0 4) ms k hlt (by simp [hq]))
      generalize ms[k] = y at hc hq
      go_wp2_with (go_at_call 32; refine (l1In _ _ _ _).mono ?_; rintro e w' ⟨rfl, rfl⟩)
      go_ret
      exact ⟨by rw [HF.out, HS.out]; rfl, HB.out⟩
    ·
     have hltz : ¬ (k : Int) < (ms.length : Int) := by omega
     have he : k = ms.length := by omega
     have HE := Lib.hid he
     clear he
     go_wp2
     go_ret
     refine ⟨?_, HB.out⟩
     have h1 := AN.out
     rw [HE.out, List.take_length] at h1
     rw [HF.out, h1]; rfl
  ·
   have b : ((ms.length : Int) != x.places) = true := by simp [h]
   have HF : Hid (mrkOk x ms = false) := by show _ = _; simp [mrkOk, marksOk, h]
   clear h
   go_wp2
   go_ret
   exact ⟨by rw [HF.out]; rfl, HB.out⟩
end Go.Proofs.Ytjieilicjdoaaaa
