/- People: PplOk, PplHas of the program and of the reference compute the same plain functions. -/
import Derived.Test.YtjieilicjdoaaaaInts
namespace Go.Proofs.Ytjieilicjdoaaaa
open Go.RowKit

def pplOk (xs : List Int) : Bool := inB xs.length 1 4 && !xs.any fun n => !inB n 0 7

theorem any_miss {α : Type} (p : α → Bool) (xs : List α) (k : Nat) (hk : k < xs.length) (h : (xs.take k).any p = false) (h2 : p xs[k] = false) : (xs.take (k + 1)).any p = false := by
  rw [any_split p xs k hk h, h2]
theorem any_hit {α : Type} (p : α → Bool) (xs : List α) (k : Nat) (hk : k < xs.length) (h2 : p xs[k] = true) : xs.any p = true :=
  List.any_eq_true.2 ⟨xs[k], List.getElem_mem hk, h2⟩

theorem spec_PplOk (A : Option Addr) (c : Nat) (xs : List Int) (w : World) (B : Nat) (hx : Ints w B A xs) :
    Calls Try.prog 82 #[.slice A xs.length c] w fun e w' => e = .returned (.bool (pplOk xs)) ∧ w = w' := by
  have hlen := hx.1
  have HX := Lib.hid hx
  clear hx
  cases h : inB xs.length 1 4 with
  | true =>
    have HF : Hid (pplOk xs = !xs.any fun n => !inB n 0 7) := by show _ = _; simp [pplOk, h]
    go_enter Try.func82, Try.ntmps82
    go_wp2_with (go_at_call 32; refine (l1In _ _ _ _).mono ?_; rintro e w' ⟨rfl, rfl⟩)
    clear h
    go_loopg [3] xs.length (fun gg s3 wr => ∃ k : Nat, k ≤ xs.length ∧ xs.length - k ≤ gg ∧ s3 = .int .i64 k ∧ Aside (w = wr) ∧ Aside ((xs.take k).any (fun n => !inB n 0 7) = false))
    case atStart => exact ⟨0, Nat.zero_le _, by omega, rfl, rfl, by show (xs.take 0).any _ = false; simp⟩
    case round =>
      obtain ⟨k, hk, hg, rfl, EW, AN⟩ := hrel
      obtain rfl := EW.out
      by_cases hlt : k < xs.length
      · have hltz : (k : Int) < (xs.length : Int) := by omega
        obtain ⟨b, off, rfl, hb, hc⟩ := HX.out.at_ hlt
        cases hq : inB xs[k] 0 7 with
        | true =>
          have HS := Lib.hid (any_miss (fun n => !inB n 0 7) xs k hlt AN.out (by simp [hq]))
          generalize xs[k] = y at hc hq
          go_wp2_with (go_at_call 32; refine (l1In _ _ _ _).mono ?_; rintro e w' ⟨rfl, rfl⟩)
          go_roundg (xs.length - (k + 1))
          case measure => omega
          case rel => exact ⟨k + 1, by omega, by omega, by go_num, rfl, HS.out⟩
        | false =>
          have HS := Lib.hid (any_hit (fun n => !inB n 0 7) xs k hlt (by simp [hq]))
          generalize xs[k] = y at hc hq
          go_wp2_with (go_at_call 32; refine (l1In _ _ _ _).mono ?_; rintro e w' ⟨rfl, rfl⟩)
          go_ret
          exact ⟨by rw [HF.out, HS.out]; rfl, rfl⟩
      · have hltz : ¬ (k : Int) < (xs.length : Int) := by omega
        have he : k = xs.length := by omega
        have HE := Lib.hid he
        clear he
        go_wp2
        go_ret
        refine ⟨?_, rfl⟩
        have h1 := AN.out
        rw [HE.out, List.take_length] at h1
        rw [HF.out, h1]; rfl
  | false =>
    have HF : Hid (pplOk xs = false) := by show _ = _; simp [pplOk, h]
    go_enter Try.func82, Try.ntmps82
    go_wp2_with (go_at_call 32; refine (l1In _ _ _ _).mono ?_; rintro e w' ⟨rfl, rfl⟩)
    go_ret
    exact ⟨by rw [HF.out]; rfl, rfl⟩
end Go.Proofs.Ytjieilicjdoaaaa
