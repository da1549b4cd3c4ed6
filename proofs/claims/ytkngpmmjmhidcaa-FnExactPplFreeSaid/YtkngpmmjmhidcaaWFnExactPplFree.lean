/- The walk of FnExactPplFree: it returns true. -/
import Derived.Test.YtkngpmmjmhidcaaFree
import Derived.Test.YtkngpmmjmhidcaaCopyItem
import Derived.Test.YtkngpmmjmhidcaaMarkItem
namespace Go.Proofs.Ytkngpmmjmhidcaa
open Go.RowKit

set_option maxHeartbeats 1000000 in
theorem walk_FnExactPplFree (A : Option Addr) (c : Nat) (xs : List Int) (A' : Option Addr) (c' : Nat) (bs : List GItem) (w : World) (hx : Ints w w.heap.size A xs) (hb : Rows itemC none w w.heap.size A' bs) :
    Calls Try.prog 11 #[.slice A xs.length c, .slice A' bs.length c'] w fun e w' => e = .returned (.bool true) ∧ Below w.heap.size w w' := by
  by_cases hl : xs.length ≤ 1048576
  · by_cases hl2 : bs.length ≤ 1048576
    · have hol := personsOf_len xs fun who => !doing bs who
      have hs : szOf bs.length 1048576 = 1048576 - bs.length := if_neg (by omega)
      have HS := Lib.hid hs
      have HX := Lib.hid hx
      have HY := Lib.hid hb
      have nb := hb.1
      clear hx hs hb
      go_enter Try.func11, Try.ntmps11
      go_wp2_with fail
      refine (laws_szCasItemS A' c' bs.length 1048576 (by omega) (by omega) nb _).mono ?_; rintro e w' ⟨rfl, rfl⟩
      rw [HS.out]
      clear HS
      go_wp2_with fail
      refine (laws_toIntS A c xs _ w.heap.size (Nat.le_refl _) HX.out hl).mono ?_; rintro e w1 ⟨rfl, hw1, hb1⟩
      go_wp2_with fail
      refine (laws_toCasItemS A' c' bs none _ w.heap.size hb1.size (HY.out.below hb1) hl2).mono ?_; rintro e w1b ⟨g1, hg1, rfl, hw1b, hb1b⟩
      go_wp2_with fail
      refine (spec_PplFree _ _ _ _ xs bs _ _ ((hw1.ints hw1.lt (by omega)).later hb1b) hw1b).mono ?_; rintro e w2 ⟨v0, rfl, hv0, hb2⟩
      obtain ⟨A0, c0, rfl, o0⟩ := OwnI.of_v hv0
      have hB2 : Below w.heap.size w w2 := hb1.trans ((hb1b.mono hb1.size).trans (hb2.mono (Nat.le_trans hb1.size hb1b.size)))
      have I0 := Lib.hid (o0.ints (by omega))
      have HB2 := Lib.hid hB2
      clear hw1 hb1 hb2 hv0 o0 hB2 hw1b hb1b hg1
      generalize hout : (personsOf xs fun who => !doing bs who) = out at *
      have HOUT := Lib.hid hout
      clear hout
      -- the copies that are handed to the program, and its answer
      go_wp2_with fail
      refine (laws_toIntS A c xs _ w.heap.size HB2.out.size (HX.out.below HB2.out) hl).mono ?_; rintro e w3 ⟨rfl, hw3, hb3⟩
      have h23 := hb3.size
      go_wp2_with fail
      refine (laws_toCasItemS A' c' bs none _ w.heap.size (Nat.le_trans HB2.out.size h23) (HY.out.below (HB2.out.trans (hb3.mono HB2.out.size))) hl2).mono ?_; rintro e w3b ⟨g3, hg3, rfl, hw3b, hb3b⟩
      have h33 := hb3b.size
      go_wp2_with fail
      refine (impl_PplFree _ _ _ _ xs bs _ _ ((hw3.ints hw3.lt (by omega)).later hb3b) hw3b).mono ?_; rintro e w4 ⟨v4, rfl, hv4, hb4⟩
      rw [HOUT.out] at hv4
      obtain ⟨G, cg, rfl, og⟩ := OwnI.of_v hv4
      have h34 := hb4.size
      have K4 := Lib.hid (hb3.trans ((hb3b.mono h23).trans (hb4.mono (Nat.le_trans h23 h33))) : Below w2.heap.size w2 w4)
      have X4 := Lib.hid ((hw3.later hb3b).later hb4)
      have Y4 := Lib.hid (hw3b.later hb4)
      have YI := Lib.hid (fun hn : 0 < bs.length => item_intRow hw3b hn)
      have Yb := Lib.hid hb4
      have xlt := hw3.lt
      have G4 := Lib.hid og
      clear hw3 hb3 hb4 hv4 og hw3b hb3b
      go_wp2_with fail
      refine (laws_eqIntS _ _ _ _ out out _ w4.heap.size (G4.out.ints (by omega)) ((I0.out.below K4.out).more (by omega))).mono ?_; rintro e w5 ⟨rfl, n5, rfl⟩
      go_wp2_with fail
      have K5 := Lib.hid (bdN K4.out n5)
      have h5 : w2.heap.size ≤ (w4.drewN n5).heap.size := K5.out.size
      refine (laws_toIntS A c xs _ w.heap.size (Nat.le_trans HB2.out.size h5) (HX.out.below (HB2.out.trans (K5.out.mono HB2.out.size))) hl).mono ?_; rintro e w6 ⟨rfl, hw6, hb6⟩
      have hb46 : Below w4.heap.size w4 w6 := (bdN (Below.refl _ _) n5).trans hb6
      have K6 := Lib.hid (K4.out.trans (hb46.mono (by omega)))
      have X6 := Lib.hid (X4.out.later hb46)
      have Y6 := Lib.hid (Y4.out.later hb46)
      have G6 := Lib.hid (G4.out.later hb46)
      go_wp2_with fail
      refine (laws_eqIntS _ _ _ _ xs xs _ w6.heap.size (X6.out.ints X6.out.lt (by omega)) (hw6.ints hw6.lt (by omega))).mono ?_; rintro e w7 ⟨rfl, n7, rfl⟩
      have K7 := Lib.hid (bdN K6.out n7)
      have h7 : w2.heap.size ≤ (w6.drewN n7).heap.size := K7.out.size
      clear hw6 hb6 K5 h5
      go_wp2_with fail
      refine (laws_toCasItemS A' c' bs none _ w.heap.size (Nat.le_trans HB2.out.size h7) (HY.out.below (HB2.out.trans (K7.out.mono HB2.out.size))) hl2).mono ?_; rintro e w7b ⟨g7, hg7, rfl, hw7b, hb7b⟩
      have hb67 : Below w6.heap.size w6 w7b := (bdN (Below.refl _ _) n7).trans hb7b
      have h67 := hb67.size
      go_wp2_with fail
      refine (laws_eqCasItemS _ _ _ _ bs _ _ _ (Y6.out.later hb67) hw7b).mono ?_; rintro e w7c ⟨rfl, hb7c⟩
      have hb6c : Below w6.heap.size w6 w7c := hb67.trans (hb7c.mono h67)
      have h6c := hb6c.size
      have h46 := hb46.size
      have K7 := Lib.hid (K6.out.trans (hb6c.mono (K6.out.size)))
      have X7 := Lib.hid (X6.out.later hb6c)
      have G7 := Lib.hid (G6.out.later hb6c)
      have Y7 := Lib.hid (fun hn : 0 < bs.length => (((YI.out hn).1.later Yb.out).later hb46).later hb6c)
      clear hb7c hb67 hb7b hw7b hg7 h7 hb6c hb46
      -- the copies are marked
      go_wp2_with fail
      refine (laws_markIntS_own (some ⟨w2.heap.size, 0, none⟩) _ xs 1 _ w2.heap.size (w2.heap.size + 1) (fun _ => ⟨w2.heap.size, rfl, Nat.le_refl _, X7.out⟩) (fun _ g hg => by cases hg; omega) (by omega) (by omega) (by omega)).mono ?_
      rintro e w8 ⟨rfl, _, in8⟩
      have K8 := Lib.hid (K7.out.trans (in8.below (Nat.le_refl _)))
      have G8 := Lib.hid (G7.out.inside in8 (by omega))
      have Y8 := Lib.hid (fun hn : 0 < bs.length => (⟨g3, rfl, (Y7.out hn).inside in8 (by have := (YI.out hn).2.1; omega), by have := (YI.out hn).2.1; omega, (YI.out hn).2.2⟩ : ∃ g, some (⟨g3, 0, none⟩ : Addr) = some ⟨g, 0, none⟩ ∧ IntRow w8 g (bs.length * 3) ∧ w2.heap.size ≤ g ∧ g < w3b.heap.size))
      have s8 := K8.out.size
      clear in8
      go_wp2_with fail
      refine (laws_markCasItemS _ _ bs _ _ w2.heap.size w3b.heap.size Y8.out (by omega) (by omega) (by omega)).mono ?_
      rintro e w8b ⟨rfl, in8b⟩
      have K8 := Lib.hid (K8.out.trans (in8b.below (Nat.le_refl _)))
      have G8 := Lib.hid (G8.out.inside in8b (by omega))
      have s8 := K8.out.size
      clear in8b
      go_wp2_with fail
      refine (laws_eqIntS _ _ _ _ out out _ w8b.heap.size (G8.out.ints (by omega)) ((I0.out.below K8.out).more s8)).mono ?_; rintro e w9 ⟨rfl, n9, rfl⟩
      have K9 := Lib.hid (bdN K8.out n9)
      -- the answer is marked, and asked for its marks
      go_wp2_with fail
      refine (laws_markIntS_own G _ out 1 _ w3b.heap.size (w8b.drewN n9).heap.size (G8.out.drewN n9) (fun hn => OwnI.hi (G8.out.drewN n9) hn) (by omega) (by omega) (by omega)).mono ?_
      rintro e w10 ⟨rfl, ow10, in10⟩
      have K10 := Lib.hid (K9.out.trans (in10.below (by omega)))
      have G10 := Lib.hid ow10
      have s10 := K10.out.size
      clear in10 ow10
      go_wp2_with fail
      refine (laws_heldIntS G _ out.length 1 _ w10.heap.size (G10.out.ints (by rw [seqI_len]; omega)) (by omega) (by omega) (by omega)).mono ?_
      rintro e w' ⟨rfl, rfl⟩
      have q0 : ¬ ((1 : Int) + out.length < 0) := by omega
      -- once more
      go_wp2_with fail
      refine (laws_toIntS A c xs _ w.heap.size (Nat.le_trans HB2.out.size s10) (HX.out.below (HB2.out.trans (K10.out.mono HB2.out.size))) hl).mono ?_; rintro e w11 ⟨rfl, hw11, hb11⟩
      have K11 := Lib.hid (K10.out.trans (hb11.mono s10))
      have G11 := Lib.hid (G10.out.later hb11)
      have s11 := K11.out.size
      go_wp2_with fail
      refine (laws_toCasItemS A' c' bs none _ w.heap.size (Nat.le_trans HB2.out.size s11) (HY.out.below (HB2.out.trans (K11.out.mono HB2.out.size))) hl2).mono ?_; rintro e w11b ⟨g11, hg11, rfl, hw11b, hb11b⟩
      have K11 := Lib.hid (K11.out.trans (hb11b.mono s11))
      have G11 := Lib.hid (G11.out.later hb11b)
      have s11 := K11.out.size
      go_wp2_with fail
      refine (impl_PplFree _ _ _ _ xs bs _ _ ((hw11.ints hw11.lt (by omega)).later hb11b) hw11b).mono ?_; rintro e w12 ⟨v12, rfl, hv12, hb12⟩
      rw [HOUT.out] at hv12
      obtain ⟨H, ch, rfl, oh⟩ := OwnI.of_v hv12
      have K12 := Lib.hid (K11.out.trans (hb12.mono s11))
      have G12 := Lib.hid (G11.out.later hb12)
      have H12 := Lib.hid oh
      have s12 := K12.out.size
      clear hv12 hb12 oh hw11 hw11b hb11 hb11b hg11
      go_wp2_with fail
      refine (laws_eqIntS _ _ _ _ out out _ w12.heap.size (H12.out.ints (by omega)) ((I0.out.below K12.out).more s12)).mono ?_; rintro e w13 ⟨rfl, n13, rfl⟩
      have K13 := Lib.hid (bdN K12.out n13)
      go_wp2_with fail
      refine (laws_heldIntS G _ out.length 1 _ w12.heap.size ((G12.out.ints (by rw [seqI_len]; omega)).below (bdN (Below.refl _ _) _)) (by omega) (by omega) (by omega)).mono ?_
      rintro e w' ⟨rfl, rfl⟩
      go_wp2
      go_ret
      exact ⟨rfl, HB2.out.trans (K13.out.mono HB2.out.size)⟩
    · have hs : szOf bs.length 1048576 = -1 := if_pos (by omega)
      have nb := hb.1
      go_enter Try.func11, Try.ntmps11
      go_wp2_with fail
      refine (laws_szCasItemS A' c' bs.length 1048576 (by omega) (by omega) nb _).mono ?_; rintro e w' ⟨rfl, rfl⟩
      rw [hs]
      clear hs
      go_wp2
      go_ret
      exact ⟨rfl, Below.refl _ _⟩
  · have hz : (1048576 : Int) < xs.length := by omega
    go_enter Try.func11, Try.ntmps11
    go_wp2
    go_ret
    exact ⟨rfl, Below.refl _ _⟩
end Go.Proofs.Ytkngpmmjmhidcaa
