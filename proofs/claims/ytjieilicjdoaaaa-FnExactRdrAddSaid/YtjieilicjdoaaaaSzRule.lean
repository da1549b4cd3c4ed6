/- Rules measured. -/
import Derived.Test.YtjieilicjdoaaaaSz
import Derived.Test.YtjieilicjdoaaaaCopyRule
import Derived.Deep.RegionHeld3
import Derived.Outline
namespace Go.Proofs.Ytjieilicjdoaaaa
open Go.RowKit

theorem laws_szRdrNode (x : GRule) (A : Option Addr) (c : Nat) (left : Int) (h0 : 0 ≤ left) (h1 : left ≤ 1048576) (hn : x.stone.length ≤ 9223372036854775807) (w : World) :
    Calls Try.prog 27 #[.agg #[.int .i64 x.ask.op, .int .i64 x.ask.var, .int .i64 x.ask.k, .int .i64 x.yes, .int .i64 x.no, .int .i64 x.ans, .slice A x.stone.length c], .int .i64 left] w (Says (.int .i64 (szOf x.stone.length left)) w) := by
  have hb := szOf_le (n := x.stone.length) h0
  cases q : decide (szOf x.stone.length left < 0) with
  | true =>
    have q1 : szOf x.stone.length left < 0 := of_decide_eq_true q
    have q2 : szOf x.stone.length left = -1 := by omega
    have Q2 := Lib.hid q2
    clear q q2 hb
    go_enter Try.func27, Try.ntmps27
    go_wp2_with (go_at_call 49; refine (laws_szIntS _ _ _ _ (by omega) (by omega) (by omega) _).mono ?_; rintro e w' ⟨rfl, rfl⟩)
    go_ret
    exact ⟨by rw [Q2.out]; rfl, by go_grown⟩
  | false =>
    have q1 : ¬ szOf x.stone.length left < 0 := of_decide_eq_false q
    clear q hb
    go_enter Try.func27, Try.ntmps27
    go_wp2_with (go_at_call 49; refine (laws_szIntS _ _ _ _ (by omega) (by omega) (by omega) _).mono ?_; rintro e w' ⟨rfl, rfl⟩)
    go_ret
    exact ⟨rfl, by go_grown⟩

set_option maxHeartbeats 1000000 in
theorem laws_szRdrNodeS (A : Option Addr) (c : Nat) (xs : List GRule) (m : Option Nat) (w : World) (hx : Rows ruleC m w w.heap.size A xs) :
    Calls Try.prog 6 #[.slice A xs.length c, .int .i64 1048576] w (Sized xs w) := by
  have hlen := hx.1
  have HX := Lib.hid hx
  clear hx
  by_cases h : (1048576 : Int) - xs.length < 0
  · go_enter Try.func6, Try.ntmps6
    go_wp2
    go_ret
    exact ⟨-1, rfl, by omega, by omega, fun h => by omega, Below.refl _ _⟩
  · go_enter Try.func6, Try.ntmps6
    go_wp2
    go_loopg [1, 5] xs.length (fun gg s1 s5 wr => ∃ (k : Nat) (l : Int), k ≤ xs.length ∧ xs.length - k ≤ gg ∧ s5 = .int .i64 k ∧ s1 = .int .i64 l ∧ 0 ≤ l ∧ l ≤ 1048576 ∧ Aside (∀ x ∈ xs.take k, x.stone.length ≤ 1048576) ∧ Aside (Below w.heap.size w wr))
    case atStart => exact ⟨0, 1048576 - xs.length, Nat.zero_le _, by omega, rfl, rfl, by omega, by omega, by show ∀ x ∈ xs.take 0, _; simp, Below.refl _ _⟩
    case round =>
      obtain ⟨k, l, hk, hg, rfl, rfl, hl0, hl1, SM, BW⟩ := hrel
      by_cases hlt : k < xs.length
      · have hltz : (k : Int) < (xs.length : Int) := by omega
        obtain ⟨b, off, A1, c1, rfl, hb, hr, hc0, hc1, hc2, hc3, hc4, hc5, hc6⟩ := rule_at HX.out hlt
        have hd0 := (BW.out.cell (p := ⟨b, off + k * 7, none⟩) (by show b < w.heap.size; omega)).trans hc0
        have hd1 := (BW.out.cell (p := ⟨b, off + k * 7 + 1, none⟩) (by show b < w.heap.size; omega)).trans hc1
        have hd2 := (BW.out.cell (p := ⟨b, off + k * 7 + 2, none⟩) (by show b < w.heap.size; omega)).trans hc2
        have hd3 := (BW.out.cell (p := ⟨b, off + k * 7 + 3, none⟩) (by show b < w.heap.size; omega)).trans hc3
        have hd4 := (BW.out.cell (p := ⟨b, off + k * 7 + 4, none⟩) (by show b < w.heap.size; omega)).trans hc4
        have hd5 := (BW.out.cell (p := ⟨b, off + k * 7 + 5, none⟩) (by show b < w.heap.size; omega)).trans hc5
        have hd6 := (BW.out.cell (p := ⟨b, off + k * 7 + 6, none⟩) (by show b < w.heap.size; omega)).trans hc6
        have hrl := hr.1
        clear hc0 hc1 hc2 hc3 hc4 hc5 hc6 hr
        have HY : Hid (xs.take (k + 1) = xs.take k ++ [xs[k]]) := List.take_succ_eq_append_getElem hlt
        generalize xs[k] = y at hd0 hd1 hd2 hd3 hd4 hd5 hd6 HY hrl
        cases q : decide (szOf y.stone.length l < 0) with
        | true =>
          have q1 : szOf y.stone.length l < 0 := of_decide_eq_true q
          have hle := szOf_le (n := y.stone.length) hl0
          clear q
          go_wp2_with (go_at_call 27; refine (laws_szRdrNode y _ _ _ hl0 hl1 hrl _).mono ?_; rintro e w1 ⟨rfl, hb1⟩; have HB1 := Lib.hid hb1; clear hb1)
          go_ret
          exact ⟨-1, rfl, by omega, by omega, fun h => by omega, BW.out.trans (HB1.out.mono BW.out.size)⟩
        | false =>
          have q1 : ¬ szOf y.stone.length l < 0 := of_decide_eq_false q
          have hle := szOf_le (n := y.stone.length) hl0
          have hp := szOf_pos q1
          clear q
          go_wp2_with (go_at_call 27; refine (laws_szRdrNode y _ _ _ hl0 hl1 hrl _).mono ?_; rintro e w1 ⟨rfl, hb1⟩; have HB1 := Lib.hid hb1; clear hb1)
          go_roundg (xs.length - (k + 1))
          case measure => omega
          case rel =>
            refine ⟨k + 1, _, by omega, by omega, by go_num, rfl, by omega, by omega, ?_, BW.out.trans (HB1.out.mono BW.out.size)⟩
            show ∀ x ∈ xs.take (k + 1), x.stone.length ≤ 1048576
            rw [HY.out]
            intro x hx
            rcases List.mem_append.1 hx with h1 | h1
            · exact SM.out x h1
            · rw [List.mem_singleton.1 h1]; omega
      · have hltz : ¬ (k : Int) < (xs.length : Int) := by omega
        have he : k = xs.length := by omega
        have HE := Lib.hid he
        clear he
        go_wp2
        go_ret
        refine ⟨l, rfl, by omega, hl1, fun _ => ⟨by omega, fun x hx => SM.out x ?_⟩, BW.out⟩
        rw [HE.out, List.take_length]; exact hx
end Go.Proofs.Ytjieilicjdoaaaa
