/- The walk of FnExactRdrWay: it returns true. -/
import Derived.Test.YtnnhhmdeoedmmaaWayS
import Derived.Test.YtnnhhmdeoedmmaaMarkRule
import Derived.Test.YtnnhhmdeoedmmaaMarks
namespace Go.Proofs.Ytnnhhmdeoedmmaa
open Go.RowKit

set_option maxHeartbeats 2000000 in
theorem walk_FnExactRdrWay (A0 : Option Addr) (c0 : Nat) (t : List GRule) (A1 : Option Addr) (c1 : Nat) (d : List Int) (w : World) (ht : Rows ruleC none w w.heap.size A0 t) (hd : Ints w w.heap.size A1 d) :
    Calls Try.prog 8 #[.slice A0 t.length c0, .slice A1 d.length c1] w fun e w' => e = .returned (.bool true) ∧ Below w.heap.size w w' := by
  by_cases hld : d.length ≤ 1048576
  · have HT := Lib.hid ht
    have HD := Lib.hid hd
    have hol := rdrWay_len t d
    clear ht hd
    go_enter Try.func8, Try.ntmps8
    go_wp2_with fail
    refine (laws_szRdrNodeS A0 c0 t none _ HT.out).mono ?_
    rintro e w0 ⟨v, rfl, hv1, hv2, hv3, hb0⟩
    have B0 := Lib.hid hb0
    clear hb0
    by_cases hv : v < 0
    · clear hv3
      go_wp2
      go_ret
      exact ⟨rfl, B0.out⟩
    · obtain ⟨hl, hs⟩ := hv3 (by omega)
      have HS := Lib.hid hs
      clear hs
      -- the reference's answer
      go_wp2_with fail
      refine (toRules A0 c0 t none _ (HT.out.later B0.out) hl HS.out).mono ?_
      rintro e w1 ⟨g1, hg1, rfl, hr1, hb1⟩
      have B1 := Lib.hid (B0.out.trans (hb1.mono B0.out.size))
      have T1 := Lib.hid hr1
      clear hr1 hb1
      go_wp2_with fail
      refine (laws_toIntS A1 c1 d _ w.heap.size B1.out.size (HD.out.below B1.out) hld).mono ?_
      rintro e w2 ⟨rfl, hw2, hb2⟩
      have B2 := Lib.hid (B1.out.trans (hb2.mono B1.out.size))
      have T2 := Lib.hid (T1.out.later hb2)
      have D2 := Lib.hid (hw2.ints hw2.lt (by omega))
      clear hw2 hb2 T1
      go_wp2_with fail
      refine (spec_RdrWay _ _ _ _ t d _ _ T2.out D2.out).mono ?_
      rintro e w3 ⟨v0, rfl, hv0, hb3⟩
      have B3 := Lib.hid (B2.out.trans (hb3.mono B2.out.size))
      obtain ⟨Ao, co, rfl, o0⟩ := OwnI.of_v hv0
      have I0 := Lib.hid (o0.ints (by omega))
      clear hv0 hb3 T2 D2 o0
      generalize hout : rdrWay t d = out at *
      have HOUT := Lib.hid hout
      clear hout
      -- the copies that are handed to the program, and its answer
      go_wp2_with fail
      refine (laws_toRdrNodeS A0 c0 t none _ (HT.out.later B3.out) hl HS.out).mono ?_
      rintro e w4 ⟨g4, hg4, rfl, hf4, hb4⟩
      have Q4 := Lib.hid hb4
      have B4 := Lib.hid (B3.out.trans (hb4.mono B3.out.size))
      have M4 := Lib.hid (TreeAt.of_filled hf4)
      have T4 := Lib.hid (hf4.done (by omega))
      have l4 := hf4.lt
      clear hf4 hb4
      go_wp2_with fail
      refine (laws_toIntS A1 c1 d _ w.heap.size B4.out.size (HD.out.below B4.out) hld).mono ?_
      rintro e w5 ⟨rfl, hw5, hb5⟩
      have K5 := Lib.hid (Q4.out.trans (hb5.mono Q4.out.size) : Below w3.heap.size w3 w5)
      have B5 := Lib.hid (B4.out.trans (hb5.mono B4.out.size))
      have M5 := Lib.hid (M4.out.later hb5 l4 (Nat.le_refl _))
      have T5 := Lib.hid (T4.out.later hb5)
      have s45 := hb5.size
      have D5 := Lib.hid hw5
      have d5 := hw5.lt
      clear hw5 hb5 M4 T4 Q4
      go_wp2_with fail
      refine (impl_RdrWay _ _ _ _ t d _ _ T5.out (D5.out.ints D5.out.lt (by omega)) hl).mono ?_
      rintro e w6 ⟨v6, rfl, hv6, hb6⟩
      rw [HOUT.out] at hv6
      obtain ⟨G, cg, rfl, og⟩ := OwnI.of_v hv6
      have s56 := hb6.size
      have s3 := K5.out.size
      have K6 := Lib.hid (K5.out.trans (hb6.mono s3))
      have B6 := Lib.hid (B5.out.trans (hb6.mono B5.out.size))
      have M6 := Lib.hid (M5.out.later hb6 (by omega) s45)
      have T6 := Lib.hid (T5.out.later hb6)
      have D6 := Lib.hid (D5.out.later hb6)
      have G6 := Lib.hid og
      clear hv6 hb6 og M5 T5 D5
      go_wp2_with fail
      refine (laws_eqIntS _ _ _ _ out out _ w6.heap.size (G6.out.ints (by omega)) ((I0.out.below K6.out).more K6.out.size)).mono ?_
      rintro e w7 ⟨rfl, n7, rfl⟩
      have K7 := Lib.hid (bdN K6.out n7)
      have B7 := Lib.hid (bdN B6.out n7)
      have M7 : Hid (TreeAt (w6.drewN n7) g4 w4.heap.size t) := M6.out
      have T7 : Hid (Rows ruleC (some g4) (w6.drewN n7) (w6.drewN n7).heap.size (some ⟨g4, 0, none⟩) t) := T6.out
      have D7 : Hid (Wr (w6.drewN n7) w4.heap.size 3 (iv d)) := D6.out
      have G7 : Hid (OwnI (w6.drewN n7) w5.heap.size G out) := G6.out
      have s7 : w6.heap.size = (w6.drewN n7).heap.size := rfl
      clear K6 B6 M6 T6 D6 G6
      generalize w6.drewN n7 = W7 at K7 B7 M7 T7 D7 G7 s7 ⊢
      -- they are as they were
      go_wp2_with fail
      refine (toRules A0 c0 t none _ (HT.out.later B7.out) hl HS.out).mono ?_
      rintro e w8 ⟨g8, hg8, rfl, hr8, hb8⟩
      go_wp2_with fail
      refine (laws_eqRdrNodeS _ _ _ _ t _ _ _ (T7.out.later hb8) hr8).mono ?_
      rintro e w9 ⟨rfl, hb9⟩
      have hb79 : Below W7.heap.size W7 w9 := hb8.trans (hb9.mono hb8.size)
      have s79 := hb79.size
      have K9 := Lib.hid (K7.out.trans (hb79.mono (by omega)))
      have B9 := Lib.hid (B7.out.trans (hb79.mono B7.out.size))
      have M9 := Lib.hid (M7.out.later hb79 (by omega) (by omega))
      have D9 := Lib.hid (D7.out.later hb79)
      have G9 := Lib.hid (G7.out.later hb79)
      clear hb8 hb9 hb79 hr8 hg8 M7 T7 D7 G7 K7 B7
      go_wp2_with fail
      refine (laws_toIntS A1 c1 d _ w.heap.size B9.out.size (HD.out.below B9.out) hld).mono ?_
      rintro e w10 ⟨rfl, hw10, hb10⟩
      go_wp2_with fail
      refine (laws_eqIntS _ _ _ _ d d _ w10.heap.size ((D9.out.later hb10).ints (D9.out.later hb10).lt (by omega)) (hw10.ints hw10.lt (by omega))).mono ?_
      rintro e w11 ⟨rfl, n11, rfl⟩
      have hb911 : Below w9.heap.size w9 (w10.drewN n11) := bdN hb10 n11
      have s911 := hb911.size
      have K11 := Lib.hid (K9.out.trans (hb911.mono (by omega)))
      have B11 := Lib.hid (B9.out.trans (hb911.mono B9.out.size))
      have M11 := Lib.hid (M9.out.later hb911 (by omega) (by omega))
      have D11 := Lib.hid (D9.out.later hb911)
      have G11 := Lib.hid (G9.out.later hb911)
      clear hw10 hb10 hb911 M9 D9 G9 K9 B9
      generalize w10.drewN n11 = W11 at K11 B11 M11 D11 G11 s911 ⊢
      -- the copies are marked
      go_wp2_with fail
      refine (laws_markRdrNodeS g4 _ t 1 _ w3.heap.size w4.heap.size M11.out hg4 l4 hl HS.out (by omega) (by omega)).mono ?_
      rintro e w12 ⟨⟨k12, rfl, hk0, hk1⟩, in12⟩
      have K12 := Lib.hid (K11.out.trans (in12.below (Nat.le_refl _)))
      have G12 := Lib.hid (G11.out.inside in12 (by omega))
      have D12 : Hid (OwnI w12 w4.heap.size (some ⟨w4.heap.size, 0, none⟩) d) := fun _ => ⟨_, rfl, Nat.le_refl _, D11.out.keep (in12.block _ (.inr (Nat.le_refl _)))⟩
      have s12 := in12.size
      clear in12 D11 G11 M11
      go_wp2_with fail
      refine (laws_markIntS_own (some ⟨w4.heap.size, 0, none⟩) _ d k12 _ w4.heap.size (w4.heap.size + 1) D12.out (fun _ g hg => by cases hg; omega) (by omega) (by omega) (by omega)).mono ?_
      rintro e w13 ⟨rfl, _, in13⟩
      have K13 := Lib.hid (K12.out.trans (in13.below (by omega)))
      have G13 := Lib.hid (G12.out.inside in13 (by omega))
      have s13 := K13.out.size
      have q13 : ¬ (k12 + (d.length : Int) < 0) := by omega
      clear in13 G12 D12
      go_wp2_with fail
      refine (laws_eqIntS _ _ _ _ out out _ w13.heap.size (G13.out.ints (by omega)) ((I0.out.below K13.out).more s13)).mono ?_
      rintro e w14 ⟨rfl, n14, rfl⟩
      have K14 := Lib.hid (bdN K13.out n14)
      -- the answer is marked, and asked for its marks
      go_wp2_with fail
      refine (laws_markIntS_own G _ out 1 _ w5.heap.size (w13.drewN n14).heap.size (G13.out.drewN n14) (fun hn => OwnI.hi (G13.out.drewN n14) hn) (by omega) (by omega) (by omega)).mono ?_
      rintro e w15 ⟨rfl, ow15, in15⟩
      have K15 := Lib.hid (K14.out.trans (in15.below (by omega)))
      have G15 := Lib.hid ow15
      have s15 := K15.out.size
      clear in15 ow15
      go_wp2_with fail
      refine (laws_heldIntS G _ out.length 1 _ w15.heap.size (G15.out.ints (by rw [seqI_len]; omega)) (by omega) (by omega) (by omega)).mono ?_
      rintro e w' ⟨rfl, rfl⟩
      have q0 : ¬ ((1 : Int) + out.length < 0) := by omega
      -- once more
      have B15 := Lib.hid (B3.out.trans (K15.out.mono B3.out.size))
      go_wp2_with fail
      refine (toRules A0 c0 t none _ (HT.out.later B15.out) hl HS.out).mono ?_
      rintro e w16 ⟨g16, hg16, rfl, hr16, hb16⟩
      have B16 := Lib.hid (B15.out.trans (hb16.mono B15.out.size))
      go_wp2_with fail
      refine (laws_toIntS A1 c1 d _ w.heap.size B16.out.size (HD.out.below B16.out) hld).mono ?_
      rintro e w17 ⟨rfl, hw17, hb17⟩
      go_wp2_with fail
      refine (impl_RdrWay _ _ _ _ t d _ _ (hr16.later hb17) (hw17.ints hw17.lt (by omega)) hl).mono ?_
      rintro e w18 ⟨v18, rfl, hv18, hb18⟩
      rw [HOUT.out] at hv18
      obtain ⟨H, ch, rfl, oh⟩ := OwnI.of_v hv18
      have hb1518 : Below w15.heap.size w15 w18 := hb16.trans ((hb17.mono hb16.size).trans (hb18.mono (Nat.le_trans hb16.size hb17.size)))
      have K18 := Lib.hid (K15.out.trans (hb1518.mono s15))
      have G18 := Lib.hid (G15.out.later hb1518)
      have H18 := Lib.hid oh
      have s18 := K18.out.size
      clear hv18 hb18 oh hw17 hb17 hb16 hr16 hg16 hb1518
      go_wp2_with fail
      refine (laws_eqIntS _ _ _ _ out out _ w18.heap.size (H18.out.ints (by omega)) ((I0.out.below K18.out).more s18)).mono ?_
      rintro e w19 ⟨rfl, n19, rfl⟩
      have K19 := Lib.hid (bdN K18.out n19)
      go_wp2_with fail
      refine (laws_heldIntS G _ out.length 1 _ w18.heap.size ((G18.out.ints (by rw [seqI_len]; omega)).below (bdN (Below.refl _ _) _)) (by omega) (by omega) (by omega)).mono ?_
      rintro e w' ⟨rfl, rfl⟩
      go_wp2
      go_ret
      exact ⟨rfl, B3.out.trans (K19.out.mono B3.out.size)⟩
  · have hz : (1048576 : Int) < d.length := by omega
    go_enter Try.func8, Try.ntmps8
    go_wp2
    go_ret
    exact ⟨rfl, Below.refl _ _⟩
end Go.Proofs.Ytnnhhmdeoedmmaa
