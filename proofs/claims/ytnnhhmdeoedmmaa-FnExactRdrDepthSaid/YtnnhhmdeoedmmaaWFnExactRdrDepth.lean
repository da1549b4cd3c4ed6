/- The walk of FnExactRdrDepth: it returns true. -/
import Derived.Test.YtnnhhmdeoedmmaaDepthS
import Derived.Test.YtnnhhmdeoedmmaaRuleArg
namespace Go.Proofs.Ytnnhhmdeoedmmaa
open Go.RowKit

set_option maxHeartbeats 1000000 in
theorem walk_FnExactRdrDepth (A0 : Option Addr) (c0 : Nat) (t : List GRule) (w : World) (ht : Rows ruleC none w w.heap.size A0 t) :
    Calls Try.prog 4 #[.slice A0 t.length c0] w fun e w' => e = .returned (.bool true) ∧ Below w.heap.size w w' := by
  have HT := Lib.hid ht
  clear ht
  go_enter Try.func4, Try.ntmps4
  go_wp2_with fail
  refine (laws_szRdrNodeS A0 c0 t none _ HT.out).mono ?_
  rintro e w0 ⟨v, rfl, hv1, hv2, hv3, hb0⟩
  have B0 := Lib.hid hb0
  clear hb0
  by_cases hv : v < 0
  · clear hv3
    go_wp2
    go_ret
    exact ⟨rfl, B0.out⟩
  · obtain ⟨hl, hs⟩ := hv3 (by omega)
    have HS := Lib.hid hs
    clear hs
    go_wp2_with fail
    refine (toRules A0 c0 t none _ (HT.out.later B0.out) hl HS.out).mono ?_
    rintro e w1 ⟨g1, hg1, rfl, hr1, hb1⟩
    have Q1 := Lib.hid hb1
    have B1 := Lib.hid (B0.out.trans (hb1.mono B0.out.size))
    have T1 := Lib.hid hr1
    clear hr1 hb1
    go_wp2_with fail
    refine (spec_RdrDepth _ _ t _ _ T1.out).mono ?_
    rintro e w2 ⟨rfl, hb2⟩
    have Q2 := Lib.hid hb2
    have B2 := Lib.hid (B1.out.trans (hb2.mono B1.out.size))
    clear hb2 T1
    go_wp2_with fail
    refine (toRules A0 c0 t none _ (HT.out.later B2.out) hl HS.out).mono ?_
    rintro e w3 ⟨g3, hg3, rfl, hr3, hb3⟩
    have Q3 := Lib.hid hb3
    have B3 := Lib.hid (B2.out.trans (hb3.mono B2.out.size))
    have T2 := Lib.hid hr3
    clear hr3 hb3
    go_wp2_with fail
    refine (impl_RdrDepth _ _ t _ _ T2.out hl).mono ?_
    rintro e w4 ⟨rfl, hb4⟩
    have Q4 := Lib.hid hb4
    have B4 := Lib.hid (B3.out.trans (hb4.mono B3.out.size))
    clear hb4
    have T2 := Lib.hid (T2.out.later Q4.out)
    go_wp2_with fail
    refine (toRules A0 c0 t none _ (HT.out.later B4.out) hl HS.out).mono ?_
    rintro e w5 ⟨g5, hg5, rfl, hr5, hb5⟩
    have Q5 := Lib.hid hb5
    have B5 := Lib.hid (B4.out.trans (hb5.mono B4.out.size))
    have T2 := Lib.hid (T2.out.later Q5.out)
    have T3 := Lib.hid hr5
    clear hr5 hb5
    go_wp2_with fail
    refine (laws_eqRdrNodeS _ _ _ _ t _ _ _ T2.out T3.out).mono ?_
    rintro e w6 ⟨rfl, hb6⟩
    have Q6 := Lib.hid hb6
    have B6 := Lib.hid (B5.out.trans (hb6.mono B5.out.size))
    clear hb6
    go_wp2
    go_ret
    exact ⟨rfl, B6.out⟩
end Go.Proofs.Ytnnhhmdeoedmmaa
