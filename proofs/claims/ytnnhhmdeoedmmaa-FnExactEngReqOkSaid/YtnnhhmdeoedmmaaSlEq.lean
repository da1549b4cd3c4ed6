/- slices.Equal over ints. -/
import Derived.Test.YtnnhhmdeoedmmaaInts
namespace Go.Proofs.Ytnnhhmdeoedmmaa
open Go.RowKit

set_option maxHeartbeats 400000 in
theorem slices_Equal (A A' : Option Addr) (c c' : Nat) (xs ys : List Int) (w : World) (B : Nat) (hx : Ints w B A xs) (hy : Ints w B A' ys) :
    Calls Try.prog 102 #[.slice A xs.length c, .slice A' ys.length c'] w (Same xs ys w) := by
  have hlx := hx.1
  have hly := hy.1
  have HX := Lib.hid hx
  have HY := Lib.hid hy
  clear hx hy
  by_cases hl : xs.length = ys.length
  · have hne : ((xs.length : Int) != (ys.length : Int)) = false := by simp [hl]
    have HL := Lib.hid hl
    clear hl
    go_enter Try.func102, Try.ntmps102
    go_wp2
    go_loopg [5, 13] xs.length (fun gg _ s13 wr => ∃ k : Nat, k ≤ xs.length ∧ xs.length - k ≤ gg ∧ s13 = .int .i64 k ∧ Aside (∃ n, wr = w.drewN n) ∧ Aside (xs.take k = ys.take k))
    case atStart => exact ⟨0, Nat.zero_le _, by omega, rfl, ⟨0, rfl⟩, by show xs.take 0 = ys.take 0; simp⟩
    case round =>
      obtain ⟨k, hk, hg, rfl, DW, TK⟩ := hrel
      by_cases hlt : k < xs.length
      · have hltz : (k : Int) < (xs.length : Int) := by omega
        have hlt2 : k < ys.length := by have := HL.out; omega
        have hltz2 : (k : Int) < (ys.length : Int) := by omega
        have h0 : (0 : Int) ≤ (k : Int) := by omega
        obtain ⟨b, off, rfl, hb, hc⟩ := HX.out.at_ hlt
        obtain ⟨b', off', rfl, hb', hc'⟩ := HY.out.at_ hlt2
        obtain ⟨q, rfl⟩ := DW.out
        by_cases he : xs[k] = ys[k]
        · have hbe : (xs[k] != ys[k]) = false := by simp [he]
          have HE := Lib.hid (eq_step hlt HL.out TK.out he)
          clear he TK
          generalize xs[k] = x at hc hbe
          generalize ys[k] = y at hc' hbe
          go_wp2
          go_quiet (fail)
          go_wp2
          go_roundg (xs.length - (k + 1))
          case measure => omega
          case rel => exact ⟨k + 1, by omega, by omega, by go_num, ⟨_, rfl⟩, HE.out⟩
        · have hbe : (xs[k] != ys[k]) = true := by simp [he]
          have HE := Lib.hid (eq_miss hlt hlt2 he)
          clear he TK
          generalize xs[k] = x at hc hbe
          generalize ys[k] = y at hc' hbe
          go_wp2
          go_quiet (fail)
          go_wp2
          go_ret
          exact ⟨by rw [HE.out]; rfl, _, World.drewN_drewN _ _ _⟩
      · have hltz : ¬ (k : Int) < (xs.length : Int) := by omega
        have he : k = xs.length := by omega
        have HE := Lib.hid he
        clear he
        go_wp2
        go_ret
        refine ⟨?_, DW.out⟩
        have h1 := TK.out
        rw [HE.out, List.take_length, HL.out, List.take_length] at h1
        rw [h1]; simp
  · have hne : ((xs.length : Int) != (ys.length : Int)) = true := by simp; omega
    have hd : decide (xs = ys) = false := by
      simp only [decide_eq_false_iff_not]
      rintro rfl
      exact hl rfl
    have HD := Lib.hid hd
    clear hd hl
    go_enter Try.func102, Try.ntmps102
    go_wp2
    go_ret
    exact ⟨by rw [HD.out]; rfl, 0, rfl⟩
end Go.Proofs.Ytnnhhmdeoedmmaa
