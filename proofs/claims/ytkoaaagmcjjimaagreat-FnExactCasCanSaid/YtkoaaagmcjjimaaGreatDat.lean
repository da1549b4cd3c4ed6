/- Data: DatOk of the program and of the reference; guOk; guHas. -/
import Derived.Test.YtkoaaagmcjjimaaGreatPpl0
namespace Go.Proofs.YtkoaaagmcjjimaaGreat
open Go.RowKit

def datOk (xs : List Int) : Bool := decide (xs.length = 3) && !xs.any fun n => !inB n (-99) 99

theorem impl_isDatum (n : Int) (w : World) : Calls Tryz.prog 92 #[.int .i64 n] w fun e w' => e = .returned (.bool (inB n (-99) 99)) ∧ w = w' := by
  go_enter Tryz.func92, Tryz.ntmps92
  go_wp2_with (go_at_call 73; refine (impl_in _ _ _ _).mono ?_; rintro e w' ⟨rfl, rfl⟩)
  go_ret
  exact ⟨rfl, rfl⟩
theorem datOk_pred (w : World) : PredInt 91 #[] (fun n => !inB n (-99) 99) w := by
  intro W x hb
  show Calls Tryz.prog 91 #[.int .i64 x] W _
  go_enter Tryz.func91, Tryz.ntmps91
  go_wp2_with (go_at_call 92; refine (impl_isDatum _ _).mono ?_; rintro e w' ⟨rfl, rfl⟩)
  go_ret
  exact ⟨rfl, Below.refl _ _⟩
theorem impl_DatOk (A : Option Addr) (c : Nat) (xs : List Int) (w : World) (hx : Ints w w.heap.size A xs) :
    Calls Tryz.prog 70 #[.slice A xs.length c] w fun e w' => e = .returned (.bool (datOk xs)) ∧ Below w.heap.size w w' := by
  have hlen := hx.1
  have eg : ∀ args w, (callFunc 91 args).run Tryz.prog w = .ok (.enter 91 args) w := enters_of Tryz.func91 (by kernel_rfl) rfl
  have HC := Lib.hid (containsFunc_int _ #[] _ eg A c xs w (datOk_pred w) hx)
  clear hx eg
  by_cases h : xs.length = 3
  · have b : ((xs.length : Int) == 3) = true := by simp [h]
    have HF : Hid (datOk xs = !xs.any fun n => !inB n (-99) 99) := by show _ = _; simp [datOk, h]
    clear h
    go_enter Tryz.func70, Tryz.ntmps70
    go_wp2_with (go_at_call 90; refine HC.out.mono ?_; rintro e w' ⟨rfl, hb⟩)
    go_ret
    exact ⟨by rw [HF.out]; rfl, hb⟩
  · have b : ((xs.length : Int) == 3) = false := by simp; omega
    have HF : Hid (datOk xs = false) := by show _ = _; simp [datOk, h]
    clear h
    go_enter Tryz.func70, Tryz.ntmps70
    go_wp2
    go_ret
    exact ⟨by rw [HF.out]; rfl, Below.refl _ _⟩
theorem spec_DatOk (A : Option Addr) (c : Nat) (xs : List Int) (w : World) (B : Nat) (hx : Ints w B A xs) :
    Calls Tryz.prog 41 #[.slice A xs.length c] w fun e w' => e = .returned (.bool (datOk xs)) ∧ w = w' := by
  have hlen := hx.1
  have HX := Lib.hid hx
  clear hx
  by_cases h : xs.length = 3
  · have b : ((xs.length : Int) == 3) = true := by simp [h]
    have bn : ((xs.length : Int) != 3) = false := by simp [h]
    have HF : Hid (datOk xs = !xs.any fun n => !inB n (-99) 99) := by show _ = _; simp [datOk, h]
    have H3 := Lib.hid h
    clear h
    go_enter Tryz.func41, Tryz.ntmps41
    go_wp2
    go_loopg [3] xs.length (fun gg s3 wr => ∃ k : Nat, k ≤ xs.length ∧ xs.length - k ≤ gg ∧ s3 = .int .i64 k ∧ Aside (w = wr) ∧ Aside ((xs.take k).any (fun n => !inB n (-99) 99) = false))
    case atStart => exact ⟨0, Nat.zero_le _, by omega, rfl, rfl, by show (xs.take 0).any _ = false; simp⟩
    case round =>
      obtain ⟨k, hk, hg, rfl, EW, AN⟩ := hrel
      obtain rfl := EW.out
      by_cases hlt : k < xs.length
      · have hltz : (k : Int) < (xs.length : Int) := by omega
        obtain ⟨b, off, rfl, hb, hc⟩ := HX.out.at_ hlt
        cases hq : inB xs[k] (-99) 99 with
        | true =>
          have HS := Lib.hid (any_miss (fun n => !inB n (-99) 99) xs k hlt AN.out (by simp [hq]))
          generalize xs[k] = y at hc hq
          go_wp2_with (go_at_call 42; refine (l1In _ _ _ _).mono ?_; rintro e w' ⟨rfl, rfl⟩)
          go_roundg (xs.length - (k + 1))
          case measure => omega
          case rel => exact ⟨k + 1, by omega, by omega, by go_num, rfl, HS.out⟩
        | false =>
          have HS := Lib.hid (any_hit (fun n => !inB n (-99) 99) xs k hlt (by simp [hq]))
          generalize xs[k] = y at hc hq
          go_wp2_with (go_at_call 42; refine (l1In _ _ _ _).mono ?_; rintro e w' ⟨rfl, rfl⟩)
          go_ret
          exact ⟨by rw [HF.out, HS.out]; rfl, rfl⟩
      · have hltz : ¬ (k : Int) < (xs.length : Int) := by omega
        have he : k = xs.length := by omega
        have HE := Lib.hid he
        clear he
        go_wp2
        go_ret
        refine ⟨?_, rfl⟩
        have h1 := AN.out
        rw [HE.out, List.take_length] at h1
        rw [HF.out, h1]; rfl
  · have b : ((xs.length : Int) == 3) = false := by simp; omega
    have HF : Hid (datOk xs = false) := by show _ = _; simp [datOk, h]
    clear h
    go_enter Tryz.func41, Tryz.ntmps41
    go_wp2
    go_ret
    exact ⟨by rw [HF.out]; rfl, rfl⟩

end Go.Proofs.YtkoaaagmcjjimaaGreat
