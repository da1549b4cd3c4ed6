/- The walk of FnRdrDepth: it returns true. -/
import Derived.Test.YtnnhhmdeoedmmaaDrawRdr
import Derived.Test.YtnnhhmdeoedmmaaDepthS
namespace Go.Proofs.Ytnnhhmdeoedmmaa
open Go.RowKit

set_option maxHeartbeats 2000000 in
theorem walk_FnRdrDepth (A : Option Addr) (c : Nat) (xs : List Int) (w : World) (hx : Code w w.heap.size A c xs) :
    Calls Try.prog 10 #[.slice A xs.length c] w fun e w' => e = .returned (.bool true) ∧ Below w.heap.size w w' := by
  by_cases hl : xs.length ≤ 1048576
  · have hlz : ¬ (1048576 : Int) < xs.length := by omega
    have HX := Lib.hid hx
    clear hx
    go_enter Try.func10, Try.ntmps10
    go_wp2_with fail
    refine (spec_DrawRdrDepth A c xs w HX.out).mono ?_
    rintro e w1 ⟨A1, c1, t, rfl, htl, hst, hrow, hb1⟩
    have T1 := Lib.hid hrow
    have B1 := Lib.hid hb1
    clear hrow hb1 hst hlz
    go_wp2_with fail
    refine (impl_RdrDepth A1 c1 t none w1 T1.out (by omega)).mono ?_
    rintro e w2 ⟨rfl, hb2⟩
    have Q2 := Lib.hid hb2
    have B2 := Lib.hid (B1.out.trans (hb2.mono B1.out.size))
    clear hb2
    go_wp2_with fail
    refine (spec_RdrDepth A1 c1 t none w2 (T1.out.later Q2.out)).mono ?_
    rintro e w3 ⟨rfl, hb3⟩
    have Q3 := Lib.hid (Q2.out.trans (hb3.mono Q2.out.size))
    have B3 := Lib.hid (B2.out.trans (hb3.mono B2.out.size))
    clear hb3 B2 Q2
    go_wp2_with fail
    refine (spec_RdrOk A1 c1 t none w3 (T1.out.later Q3.out)).mono ?_
    rintro e w4 ⟨rfl, hb4⟩
    have Q4 := Lib.hid (Q3.out.trans (hb4.mono Q3.out.size))
    have B4 := Lib.hid (B3.out.trans (hb4.mono B3.out.size))
    clear hb4 B3 Q3
    have HLE := Lib.hid (rdrDepth_le t)
    cases q : treeOk t with
    | false =>
      have HD : Hid (rdrDepth t = 0) := by show _ = _; unfold rdrDepth; rw [q]; rfl
      rw [HD.out]
      go_wp2_with (go_at_call 30; refine (laws_guOk _).mono ?_; rintro e w5 ⟨rfl, hb5⟩; have B5 := Lib.hid hb5; clear hb5)
      go_ret
      exact ⟨rfl, B4.out.trans (B5.out.mono B4.out.size)⟩
    | true =>
      by_cases h0 : t.length = 0
      · have hz : ((t.length : Int) == 0) = true := by simp [h0]
        have HD : Hid (rdrDepth t = 0) := by show _ = _; have := HLE.out; omega
        rw [HD.out]
        clear h0
        go_wp2_with (go_at_call 30; refine (laws_guOk _).mono ?_; rintro e w5 ⟨rfl, hb5⟩; have B5 := Lib.hid hb5; clear hb5)
        go_ret
        exact ⟨rfl, B4.out.trans (B5.out.mono B4.out.size)⟩
      · have hz : ((t.length : Int) == 0) = false := by rw [beq_eq_false_iff_ne]; omega
        have HPO := Lib.hid (rdrDepth_pos q (by omega))
        have HWD := Lib.hid (rdrWay_depth t)
        generalize rdrDepth t = n at HLE HPO HWD ⊢
        clear h0
        go_wp2
        clear hz
        go_loopg [5, 6] t.length (fun gg s5 s6 wr => ∃ k m : Nat, k ≤ t.length ∧ t.length - k ≤ gg ∧ s6 = .int .i64 k ∧ s5 = .int .i64 m ∧ m ≤ n ∧ Aside (Below w4.heap.size w4 wr))
        case atStart => exact ⟨0, 0, Nat.zero_le _, by omega, rfl, rfl, Nat.zero_le _, Below.refl _ _⟩
        case round =>
          obtain ⟨k, m, hk, hg, rfl, rfl, hm, BW⟩ := hrel
          by_cases hlt : k < t.length
          · have hltz : (k : Int) < (t.length : Int) := by omega
            have QW := Lib.hid (Q4.out.trans (BW.out.mono Q4.out.size))
            obtain ⟨b, off, A3, c3, rfl, hb, hr, hd0, hd1, hd2, hd3, hd4, hd5, hd6⟩ := rule_at (T1.out.later QW.out) hlt
            have HR := Lib.hid hr.ints
            clear hr hd0 hd1 hd2 hd3 hd4 hd5
            have hle := HWD.out t[k].stone
            have hw12 := rdrWay_len t t[k].stone
            go_wp2_with fail
            refine (impl_RdrWay _ _ _ _ t t[k].stone none wr (T1.out.later QW.out) HR.out (by omega)).mono ?_
            rintro e w6 ⟨v6, rfl, hv6, hb6⟩
            obtain ⟨A6, c6, rfl, _⟩ := own_ints hv6 (by omega)
            have BW6 := Lib.hid (BW.out.trans (hb6.mono BW.out.size))
            clear hv6 hb6 hd6
            generalize (rdrWay t t[k].stone).length = l at hle hw12 ⊢
            by_cases hml : m < l
            · have hmlz : (m : Int) < (l : Int) := by omega
              go_wp2
              go_roundg (t.length - (k + 1))
              case measure => omega
              case rel => exact ⟨k + 1, l, by omega, by omega, by go_num, by simp, by omega, BW6.out⟩
            · have hmlz : ¬ (m : Int) < (l : Int) := by omega
              go_wp2
              go_roundg (t.length - (k + 1))
              case measure => omega
              case rel => exact ⟨k + 1, m, by omega, by omega, by go_num, by simp, by omega, BW6.out⟩
          · have hltz : ¬ (k : Int) < (t.length : Int) := by omega
            have a1 : (1 : Int) ≤ (n : Int) := by have := HPO.out; omega
            have a2 : (n : Int) ≤ (t.length : Int) := by have := HLE.out; omega
            have a3 : (m : Int) ≤ (n : Int) := by omega
            have c1 : decide ((1 : Int) ≤ (n : Int)) = true := decide_eq_true a1
            have c2 : decide ((n : Int) ≤ (t.length : Int)) = true := decide_eq_true a2
            have c3 : decide ((m : Int) ≤ (n : Int)) = true := decide_eq_true a3
            go_wp2
            go_ret
            exact ⟨by simp, B4.out.trans (BW.out.mono B4.out.size)⟩
  · have hz : (1048576 : Int) < xs.length := by omega
    go_enter Try.func10, Try.ntmps10
    go_wp2
    go_ret
    exact ⟨rfl, Below.refl _ _⟩
end Go.Proofs.Ytnnhhmdeoedmmaa
