/- The walk of FnExactPplAny: it returns true. -/
import Derived.Test.YtkngpmmjmhidcaaAny
namespace Go.Proofs.Ytkngpmmjmhidcaa
open Go.RowKit

theorem personsOf_len (xs : List Int) (p : Int → Bool) : (personsOf xs p).length ≤ 4 := by
  unfold personsOf
  split
  · rename_i h
    exact Nat.le_trans (personsTo_len p _) (pplOk_bounds h).2.1
  · simp

set_option maxHeartbeats 1000000 in
theorem walk_FnExactPplAny (A : Option Addr) (c : Nat) (xs : List Int) (role : Int) (w : World) (hx : Ints w w.heap.size A xs) (_ : -9223372036854775808 ≤ role ∧ role ≤ 9223372036854775807) :
    Calls Try.prog 9 #[.slice A xs.length c, .int .i64 role] w fun e w' => e = .returned (.bool true) ∧ Below w.heap.size w w' := by
  by_cases hl : xs.length ≤ 1048576
  · have hol := personsOf_len xs fun who => pplHas xs who role
    have HX := Lib.hid hx
    clear hx
    go_enter Try.func9, Try.ntmps9
    go_wp2_with fail
    refine (laws_toIntS A c xs _ w.heap.size (Nat.le_refl _) HX.out hl).mono ?_; rintro e w1 ⟨rfl, hw1, hb1⟩
    go_wp2_with fail
    refine (spec_PplAny _ _ xs _ _ (hw1.ints hw1.lt (by omega))).mono ?_; rintro e w2 ⟨v0, rfl, hv0, hb2⟩
    obtain ⟨A0, c0, rfl, o0⟩ := OwnI.of_v hv0
    have hB2 : Below w.heap.size w w2 := hb1.trans (hb2.mono hb1.size)
    have I0 := Lib.hid (o0.ints (by omega))
    have HB2 := Lib.hid hB2
    clear hw1 hb1 hb2 hv0 o0 hB2
    generalize hout : (personsOf xs fun who => pplHas xs who role) = out at *
    have HOUT := Lib.hid hout
    clear hout
    -- the copy that is handed to the program, and its answer
    go_wp2_with fail
    refine (laws_toIntS A c xs _ w.heap.size HB2.out.size (HX.out.below HB2.out) hl).mono ?_; rintro e w3 ⟨rfl, hw3, hb3⟩
    go_wp2_with fail
    have hx3 : Ints w3 w3.heap.size (some ⟨w2.heap.size, 0, none⟩) xs := hw3.ints hw3.lt (by omega)
    refine (impl_PplAny _ _ xs _ _ hx3).mono ?_; rintro e w4 ⟨v4, rfl, hv4, hb4⟩
    rw [HOUT.out] at hv4
    obtain ⟨G, cg, rfl, og⟩ := OwnI.of_v hv4
    have h23 := hb3.size
    have h34 := hb4.size
    have K4 := Lib.hid (hb3.trans (hb4.mono hb3.size) : Below w2.heap.size w2 w4)
    have X4 := Lib.hid (hw3.below hb4 hw3.lt)
    have xlt := hw3.lt
    have G4 := Lib.hid og
    clear hw3 hb3 hb4 hv4 og hx3
    go_wp2_with fail
    refine (laws_eqIntS _ _ _ _ out out _ w4.heap.size (G4.out.ints (by omega)) ((I0.out.below K4.out).more (by omega))).mono ?_; rintro e w5 ⟨rfl, n5, rfl⟩
    go_wp2_with fail
    have K5 := Lib.hid (bdN K4.out n5)
    have h5 : w2.heap.size ≤ (w4.drewN n5).heap.size := K5.out.size
    refine (laws_toIntS A c xs _ w.heap.size (Nat.le_trans HB2.out.size h5) (HX.out.below (HB2.out.trans (K5.out.mono HB2.out.size))) hl).mono ?_; rintro e w6 ⟨rfl, hw6, hb6⟩
    have K6 := Lib.hid (K5.out.trans (hb6.mono h5))
    have X6 := Lib.hid ((X4.out.drewN n5).later hb6)
    have G6 := Lib.hid ((G4.out.drewN n5).later hb6)
    go_wp2_with fail
    refine (laws_eqIntS _ _ _ _ xs xs _ w6.heap.size (X6.out.ints X6.out.lt (by omega)) (hw6.ints hw6.lt (by omega))).mono ?_; rintro e w7 ⟨rfl, n7, rfl⟩
    have K7 := Lib.hid (bdN K6.out n7)
    clear hw6 hb6 K5 h5
    -- the copy is marked
    go_wp2_with fail
    refine (laws_markIntS_own (some ⟨w2.heap.size, 0, none⟩) _ xs 1 _ w2.heap.size (w2.heap.size + 1) (fun _ => ⟨w2.heap.size, rfl, Nat.le_refl _, X6.out.drewN n7⟩) (fun _ g hg => by cases hg; omega) (by omega) (by omega) (by omega)).mono ?_
    rintro e w8 ⟨rfl, _, in8⟩
    have K8 := Lib.hid (K7.out.trans (in8.below (Nat.le_refl _)))
    have G8 := Lib.hid ((G6.out.drewN n7).inside in8 (by omega))
    have s8 := K8.out.size
    clear in8
    go_wp2_with fail
    refine (laws_eqIntS _ _ _ _ out out _ w8.heap.size (G8.out.ints (by omega)) ((I0.out.below K8.out).more s8)).mono ?_; rintro e w9 ⟨rfl, n9, rfl⟩
    have K9 := Lib.hid (bdN K8.out n9)
    -- the answer is marked, and asked for its marks
    go_wp2_with fail
    refine (laws_markIntS_own G _ out 1 _ w3.heap.size (w8.drewN n9).heap.size (G8.out.drewN n9) (fun hn => OwnI.hi (G8.out.drewN n9) hn) (by omega) (by omega) (by omega)).mono ?_
    rintro e w10 ⟨rfl, ow10, in10⟩
    have K10 := Lib.hid (K9.out.trans (in10.below h23))
    have G10 := Lib.hid ow10
    have s10 := K10.out.size
    clear in10 ow10
    go_wp2_with fail
    refine (laws_heldIntS G _ out.length 1 _ w10.heap.size (G10.out.ints (by rw [seqI_len]; omega)) (by omega) (by omega) (by omega)).mono ?_
    rintro e w' ⟨rfl, rfl⟩
    have q0 : ¬ ((1 : Int) + out.length < 0) := by omega
    -- once more
    go_wp2_with fail
    refine (laws_toIntS A c xs _ w.heap.size (Nat.le_trans HB2.out.size s10) (HX.out.below (HB2.out.trans (K10.out.mono HB2.out.size))) hl).mono ?_; rintro e w11 ⟨rfl, hw11, hb11⟩
    have K11 := Lib.hid (K10.out.trans (hb11.mono s10))
    have G11 := Lib.hid (G10.out.later hb11)
    have hx11 : Ints w11 w11.heap.size (some ⟨w10.heap.size, 0, none⟩) xs := hw11.ints hw11.lt (by omega)
    clear hw11 hb11
    go_wp2_with fail
    refine (impl_PplAny _ _ xs _ _ hx11).mono ?_; rintro e w12 ⟨v12, rfl, hv12, hb12⟩
    rw [HOUT.out] at hv12
    obtain ⟨H, ch, rfl, oh⟩ := OwnI.of_v hv12
    have s11 := K11.out.size
    have K12 := Lib.hid (K11.out.trans (hb12.mono s11))
    have G12 := Lib.hid (G11.out.later hb12)
    have H12 := Lib.hid oh
    have s12 := K12.out.size
    clear hv12 hb12 oh hx11
    go_wp2_with fail
    refine (laws_eqIntS _ _ _ _ out out _ w12.heap.size (H12.out.ints (by omega)) ((I0.out.below K12.out).more s12)).mono ?_; rintro e w13 ⟨rfl, n13, rfl⟩
    have K13 := Lib.hid (bdN K12.out n13)
    go_wp2_with fail
    refine (laws_heldIntS G _ out.length 1 _ w12.heap.size ((G12.out.ints (by rw [seqI_len]; omega)).below (bdN (Below.refl _ _) _)) (by omega) (by omega) (by omega)).mono ?_
    rintro e w' ⟨rfl, rfl⟩
    go_wp2
    go_ret
    exact ⟨rfl, HB2.out.trans (K13.out.mono HB2.out.size)⟩
  · have hz : (1048576 : Int) < xs.length := by omega
    go_enter Try.func9, Try.ntmps9
    go_wp2
    go_ret
    exact ⟨rfl, Below.refl _ _⟩
end Go.Proofs.Ytkngpmmjmhidcaa
