/- The walk of FnExactRdrHeld: it returns true. -/
import Derived.Test.YtnnhhmdeoedmmaaWayS
import Derived.Test.YtnnhhmdeoedmmaaRuleArg
namespace Go.Proofs.Ytnnhhmdeoedmmaa
open Go.RowKit

set_option maxHeartbeats 1000000 in
theorem walk_FnExactRdrHeld (A0 : Option Addr) (c0 : Nat) (t : List GRule) (A1 : Option Addr) (c1 : Nat) (d : List Int) (w : World) (ht : Rows ruleC none w w.heap.size A0 t) (hd : Ints w w.heap.size A1 d) :
    Calls Try.prog 5 #[.slice A0 t.length c0, .slice A1 d.length c1] w fun e w' => e = .returned (.bool true) ∧ Below w.heap.size w w' := by
  by_cases hld : d.length ≤ 1048576
  · have HT := Lib.hid ht
    have HD := Lib.hid hd
    clear hd
    clear ht
    go_enter Try.func5, Try.ntmps5
    go_wp2_with fail
    refine (laws_szRdrNodeS A0 c0 t none _ HT.out).mono ?_
    rintro e w0 ⟨v, rfl, hv1, hv2, hv3, hb0⟩
    have B0 := Lib.hid hb0
    clear hb0
    by_cases hv : v < 0
    · clear hv3
      go_wp2
      go_ret
      exact ⟨rfl, B0.out⟩
    · obtain ⟨hl, hs⟩ := hv3 (by omega)
      have HS := Lib.hid hs
      clear hs
      go_wp2_with fail
      refine (toRules A0 c0 t none _ (HT.out.later B0.out) hl HS.out).mono ?_
      rintro e w1 ⟨g1, hg1, rfl, hr1, hb1⟩
      have Q1 := Lib.hid hb1
      have B1 := Lib.hid (B0.out.trans (hb1.mono B0.out.size))
      have T1 := Lib.hid hr1
      clear hr1 hb1
      go_wp2_with fail
      refine (laws_toIntS A1 c1 d _ w.heap.size B1.out.size (HD.out.below B1.out) hld).mono ?_
      rintro e w2 ⟨rfl, hw2, hb2⟩
      have Q2 := Lib.hid hb2
      have B2 := Lib.hid (B1.out.trans (hb2.mono B1.out.size))
      have T1 := Lib.hid (T1.out.later hb2)
      have D1 := Lib.hid (hw2.ints hw2.lt (by omega))
      clear hw2 hb2
      go_wp2_with fail
      refine (spec_RdrHeld _ _ _ _ t d _ _ T1.out D1.out).mono ?_
      rintro e w3 ⟨rfl, hb3⟩
      have Q3 := Lib.hid hb3
      have B3 := Lib.hid (B2.out.trans (hb3.mono B2.out.size))
      clear hb3 T1 D1
      go_wp2_with fail
      refine (toRules A0 c0 t none _ (HT.out.later B3.out) hl HS.out).mono ?_
      rintro e w4 ⟨g4, hg4, rfl, hr4, hb4⟩
      have Q4 := Lib.hid hb4
      have B4 := Lib.hid (B3.out.trans (hb4.mono B3.out.size))
      have T2 := Lib.hid hr4
      clear hr4 hb4
      go_wp2_with fail
      refine (laws_toIntS A1 c1 d _ w.heap.size B4.out.size (HD.out.below B4.out) hld).mono ?_
      rintro e w5 ⟨rfl, hw5, hb5⟩
      have Q5 := Lib.hid hb5
      have B5 := Lib.hid (B4.out.trans (hb5.mono B4.out.size))
      have T2 := Lib.hid (T2.out.later hb5)
      have D2 := Lib.hid (hw5.ints hw5.lt (by omega))
      clear hw5 hb5
      go_wp2_with fail
      refine (impl_RdrHeld _ _ _ _ t d _ _ T2.out D2.out hl).mono ?_
      rintro e w6 ⟨rfl, hb6⟩
      have Q6 := Lib.hid hb6
      have B6 := Lib.hid (B5.out.trans (hb6.mono B5.out.size))
      clear hb6
      have T2 := Lib.hid (T2.out.later Q6.out)
      have D2 := Lib.hid (D2.out.later Q6.out)
      go_wp2_with fail
      refine (toRules A0 c0 t none _ (HT.out.later B6.out) hl HS.out).mono ?_
      rintro e w7 ⟨g7, hg7, rfl, hr7, hb7⟩
      have Q7 := Lib.hid hb7
      have B7 := Lib.hid (B6.out.trans (hb7.mono B6.out.size))
      have T2 := Lib.hid (T2.out.later Q7.out)
      have D2 := Lib.hid (D2.out.later Q7.out)
      have T3 := Lib.hid hr7
      clear hr7 hb7
      go_wp2_with fail
      refine (laws_eqRdrNodeS _ _ _ _ t _ _ _ T2.out T3.out).mono ?_
      rintro e w8 ⟨rfl, hb8⟩
      have Q8 := Lib.hid hb8
      have B8 := Lib.hid (B7.out.trans (hb8.mono B7.out.size))
      clear hb8
      have D2 := Lib.hid (D2.out.later Q8.out)
      go_wp2_with fail
      refine (laws_toIntS A1 c1 d _ w.heap.size B8.out.size (HD.out.below B8.out) hld).mono ?_
      rintro e w9 ⟨rfl, hw9, hb9⟩
      have Q9 := Lib.hid hb9
      have B9 := Lib.hid (B8.out.trans (hb9.mono B8.out.size))
      have D2 := Lib.hid (D2.out.later Q9.out)
      have D3 := Lib.hid (hw9.ints hw9.lt (by omega))
      clear hw9 hb9
      go_wp2_with fail
      refine (laws_eqIntS _ _ _ _ d d _ _ D2.out (D3.out : Ints w9 w9.heap.size _ d)).mono ?_
      rintro e w10 ⟨rfl, n10, rfl⟩
      go_wp2
      go_ret
      exact ⟨rfl, bdN B9.out _⟩
  · have hz : (1048576 : Int) < d.length := by omega
    go_enter Try.func5, Try.ntmps5
    go_wp2
    go_ret
    exact ⟨rfl, Below.refl _ _⟩
end Go.Proofs.Ytnnhhmdeoedmmaa
