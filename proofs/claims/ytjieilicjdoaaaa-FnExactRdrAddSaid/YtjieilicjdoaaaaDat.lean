/- Data: DatOk of the program and of the reference; guOk; guHas. -/
import Derived.Test.YtjieilicjdoaaaaPpl0
namespace Go.Proofs.Ytjieilicjdoaaaa
open Go.RowKit

def datOk (xs : List Int) : Bool := decide (xs.length = 3) && !xs.any fun n => !inB n (-99) 99

theorem impl_isDatum (n : Int) (w : World) : Calls Try.prog 54 #[.int .i64 n] w fun e w' => e = .returned (.bool (inB n (-99) 99)) ∧ w = w' := by
  go_enter Try.func54, Try.ntmps54
  go_wp2_with (go_at_call 51; refine (impl_in _ _ _ _).mono ?_; rintro e w' ⟨rfl, rfl⟩)
  go_ret
  exact ⟨rfl, rfl⟩
theorem datOk_pred (w : World) : PredInt 53 #[] (fun n => !inB n (-99) 99) w := by
  intro W x hb
  show Calls Try.prog 53 #[.int .i64 x] W _
  go_enter Try.func53, Try.ntmps53
  go_wp2_with (go_at_call 54; refine (impl_isDatum _ _).mono ?_; rintro e w' ⟨rfl, rfl⟩)
  go_ret
  exact ⟨rfl, Below.refl _ _⟩
theorem impl_DatOk (A : Option Addr) (c : Nat) (xs : List Int) (w : World) (hx : Ints w w.heap.size A xs) :
    Calls Try.prog 38 #[.slice A xs.length c] w fun e w' => e = .returned (.bool (datOk xs)) ∧ Below w.heap.size w w' := by
  have hlen := hx.1
  have eg : ∀ args w, (callFunc 53 args).run Try.prog w = .ok (.enter 53 args) w := enters_of Try.func53 (by kernel_rfl) rfl
  have HC := Lib.hid (containsFunc_int _ #[] _ eg A c xs w (datOk_pred w) hx)
  clear hx eg
  by_cases h : xs.length = 3
  · have b : ((xs.length : Int) == 3) = true := by simp [h]
    have HF : Hid (datOk xs = !xs.any fun n => !inB n (-99) 99) := by show _ = _; simp [datOk, h]
    clear h
    go_enter Try.func38, Try.ntmps38
    go_wp2_with (go_at_call 52; refine HC.out.mono ?_; rintro e w' ⟨rfl, hb⟩)
    go_ret
    exact ⟨by rw [HF.out]; rfl, hb⟩
  · have b : ((xs.length : Int) == 3) = false := by simp; omega
    have HF : Hid (datOk xs = false) := by show _ = _; simp [datOk, h]
    clear h
    go_enter Try.func38, Try.ntmps38
    go_wp2
    go_ret
    exact ⟨by rw [HF.out]; rfl, Below.refl _ _⟩
theorem spec_DatOk (A : Option Addr) (c : Nat) (xs : List Int) (w : World) (B : Nat) (hx : Ints w B A xs) :
    Calls Try.prog 30 #[.slice A xs.length c] w fun e w' => e = .returned (.bool (datOk xs)) ∧ w = w' := by
  have hlen := hx.1
  have HX := Lib.hid hx
  clear hx
  by_cases h : xs.length = 3
  · have b : ((xs.length : Int) == 3) = true := by simp [h]
    have bn : ((xs.length : Int) != 3) = false := by simp [h]
    have HF : Hid (datOk xs = !xs.any fun n => !inB n (-99) 99) := by show _ = _; simp [datOk, h]
    have H3 := Lib.hid h
    clear h
    go_enter Try.func30, Try.ntmps30
    go_wp2
    go_loopg [3] xs.length (fun gg s3 wr => ∃ k : Nat, k ≤ xs.length ∧ xs.length - k ≤ gg ∧ s3 = .int .i64 k ∧ Aside (w = wr) ∧ Aside ((xs.take k).any (fun n => !inB n (-99) 99) = false))
    case atStart => exact ⟨0, Nat.zero_le _, by omega, rfl, rfl, by show (xs.take 0).any _ = false; simp⟩
    case round =>
      obtain ⟨k, hk, hg, rfl, EW, AN⟩ := hrel
      obtain rfl := EW.out
      by_cases hlt : k < xs.length
      · have hltz : (k : Int) < (xs.length : Int) := by omega
        obtain ⟨b, off, rfl, hb, hc⟩ := HX.out.at_ hlt
        cases hq : inB xs[k] (-99) 99 with
        | true =>
          have HS := Lib.hid (any_miss (fun n => !inB n (-99) 99) xs k hlt AN.out (by simp [hq]))
          generalize xs[k] = y at hc hq
          go_wp2_with (go_at_call 32; refine (l1In _ _ _ _).mono ?_; rintro e w' ⟨rfl, rfl⟩)
          go_roundg (xs.length - (k + 1))
          case measure => omega
          case rel => exact ⟨k + 1, by omega, by omega, by go_num, rfl, HS.out⟩
        | false =>
          have HS := Lib.hid (any_hit (fun n => !inB n (-99) 99) xs k hlt (by simp [hq]))
          generalize xs[k] = y at hc hq
          go_wp2_with (go_at_call 32; refine (l1In _ _ _ _).mono ?_; rintro e w' ⟨rfl, rfl⟩)
          go_ret
          exact ⟨by rw [HF.out, HS.out]; rfl, rfl⟩
      · have hltz : ¬ (k : Int) < (xs.length : Int) := by omega
        have he : k = xs.length := by omega
        have HE := Lib.hid he
        clear he
        go_wp2
        go_ret
        refine ⟨?_, rfl⟩
        have h1 := AN.out
        rw [HE.out, List.take_length] at h1
        rw [HF.out, h1]; rfl
  · have b : ((xs.length : Int) == 3) = false := by simp; omega
    have HF : Hid (datOk xs = false) := by show _ = _; simp [datOk, h]
    clear h
    go_enter Try.func30, Try.ntmps30
    go_wp2
    go_ret
    exact ⟨by rw [HF.out]; rfl, rfl⟩

theorem laws_guOk (w : World) : Calls Try.prog 21 #[] w fun e w' => e = .returned (.bool true) ∧ Below w.heap.size w w' := by
  go_enter Try.func21, Try.ntmps21
  go_wp2_with fail
  have hb : Below w.heap.size w (w.alloc (.cells #[.int .i64 0, .int .i64 0, .int .i64 0] 3)) := (Below.refl _ _).alloc (Nat.le_refl _) _
  refine (impl_DatOk (some ⟨w.heap.size, 0, none⟩) 3 [0, 0, 0] _ ((Wr.new w 3 #[.int .i64 0, .int .i64 0, .int .i64 0]).ints (xs := [0, 0, 0]) (by simp) (by simp))).mono ?_
  rintro e w1 ⟨rfl, hb1⟩
  have HB := Lib.hid (hb.trans (hb1.mono hb.size))
  clear hb hb1
  go_wp2
  go_ret
  exact ⟨by rfl, HB.out⟩

end Go.Proofs.Ytjieilicjdoaaaa
