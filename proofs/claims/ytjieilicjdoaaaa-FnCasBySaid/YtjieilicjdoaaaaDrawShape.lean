/- A net of one of some shapes drawn: l20Shape. -/
import Derived.Test.YtjieilicjdoaaaaShapeTools
import Derived.Test.YtjieilicjdoaaaaGBase
import Derived.Deep.RegionHeld3
namespace Go.Proofs.Ytjieilicjdoaaaa
open Go.RowKit
open List renaming getElem_toArray → sA, getElem_cons_succ → sB, getElem_cons_zero → sC, setIfInBounds_toArray → sD, set_cons_zero → sE, set_cons_succ → sF
set_option linter.unusedSimpArgs false
set_option linter.unusedVariables false

def shapeOk (x : GNet) : Prop := 1 ≤ x.tasks.length ∧ x.tasks.length ≤ 4 ∧ 3 ≤ x.places ∧ x.places ≤ 7


set_option maxRecDepth 100000 in
set_option maxHeartbeats 8000000 in
theorem l20Shape (R P : Nat) (w : World) (h : RdB w R P) (hP : P ≤ 800000) :
  Calls Try.prog 68 #[.pointer (some ⟨R, 0, none⟩)] w (DrawnNet R (P + 200) shapeOk w) := by
 have HR := Lib.hid h
 have hR := h.lt
 have hlo : R < w.heap.size + 1 := by omega
 have hN : w.heap.size ≠ R := by omega
 clear h
 go_enter Try.func68, Try.ntmps68
 go_wp2_with fail
 refine callsAt fun W hW => ?_
 have S0 : Hid (ShSt R (w.heap.size + 1) w w.heap.size P [] W) := by
  show ShSt _ _ _ _ _ _ _
  rw [hW]
  exact ⟨Bk.new rfl, HR.out.low ((Below.refl _ _).alloc (Nat.le_refl _) _) hR, Turned.of_below ((Below.refl _ _).alloc (Nat.le_refl _) _), by simp⟩
 have hs0 : w.heap.size + 1 ≤ W.heap.size := by rw [hW]; simp
 clear hW
 have hz0 := hs0
 refine (l20Rd_pick R _ 3 _ S0.out.rd (by omega) (by omega)).mono ?_
 rintro e w1 ⟨v1, rfl, hv1, hu1, _, hr1, ht1⟩
 have S1 := Lib.hid (S0.out.pick hlo hN hr1 ht1)
 have hs1 := S1.out.sz
 have hz1 := Nat.le_trans hs0 ht1.size
 clear hr1 ht1 S0
 go_wp2_with fail
 refine (l20Rd_pick R _ 3 _ S1.out.rd (by omega) (by omega)).mono ?_
 rintro e w2 ⟨v2, rfl, hv2, hu2, _, hr2, ht2⟩
 have S2 := Lib.hid (S1.out.pick hlo hN hr2 ht2)
 have hs2 := S2.out.sz
 have hz2 := Nat.le_trans hz1 ht2.size
 clear hr2 ht2 S1
 go_wp2_with fail
 refine callsAt fun V hV => ?_
 have bL : Bk V w2.heap.size 3 (iv [1 + v1, 1 + v1, 1 + v1, 1 + v2]).toArray := by rw [hV]; exact Bk.new rfl
 have SV : Hid (ShSt R (w.heap.size + 1) w w.heap.size (P + 1 + 1) [] V) := by show ShSt _ _ _ _ _ _ _; rw [hV]; exact S2.out.alloc _
 have hzV : w.heap.size + 1 ≤ V.heap.size := by rw [hV]; simp only [World.size_alloc]; omega
 clear hV S2
 refine (l20Rd_pick R _ 4 _ SV.out.rd (by omega) (by omega)).mono ?_
 rintro e w3 ⟨v3, rfl, hv3, hu3, _, hr3, ht3⟩
 have S3 := Lib.hid (SV.out.pick hlo hN hr3 ht3)
 have hs3 := S3.out.sz
 obtain ⟨k3, rfl⟩ := Int.eq_ofNat_of_zero_le hv3
 have hk3 : (k3 : Int) < 4 := by omega
 obtain ⟨z3, hz3c⟩ := lit_at (bL.turned ht3 (by omega)) (k := k3) (by simp; omega)
 have hz3 := Nat.le_trans hzV ht3.size
 clear hr3 ht3 SV bL hu3
 go_wp2_with fail
 refine (l20Rd_pick R _ 6 _ S3.out.rd (by omega) (by omega)).mono ?_
 rintro e w4 ⟨v4, rfl, hv4, hu4, _, hr4, ht4⟩
 have S4 := Lib.hid (S3.out.pick hlo hN hr4 ht4)
 have hs4 := S4.out.sz
 have hz4 := Nat.le_trans hz3 ht4.size
 clear hr4 ht4 S3 hz3c
 rcases (by omega : v4 = 0 ∨ v4 = 1 ∨ v4 = 2 ∨ v4 = 3 ∨ v4 = 4 ∨ v4 = 5) with rfl | rfl | rfl | rfl | rfl | rfl
 ·
  go_wp2_with fail
  refine callsAt fun U5 hU5 => ?_
  have i5 : Rows intC (some (w.heap.size + 1)) U5 U5.heap.size (some ⟨w4.heap.size, 0, none⟩) [0] := by rw [hU5]; exact rows_made _ ((Bk.new rfl).alloc _) (by simp) (by omega)
  have o5 : Rows intC (some (w.heap.size + 1)) U5 U5.heap.size (some ⟨w4.heap.size + 1, 0, none⟩) [2] := by rw [hU5]; exact rows_made _ (Bk.new (by simp)) (by simp) (by omega)
  have SU5 := (S4.out.alloc (.cells (iv [0]).toArray 3)).alloc (.cells (iv [2]).toArray 3)
  have SU5 : ShSt R (w.heap.size + 1) w w.heap.size (P + 1 + 1 + 1 + 1) ([]) U5 := by rw [hU5]; exact SU5
  have hzU5 : w.heap.size + 1 ≤ U5.heap.size := by rw [hU5]; simp only [World.size_alloc]; omega
  clear hU5
  refine (l20Task R (w.heap.size + 1) _ (1 + v1) 1 2 _ _ [0] _ _ [2] U5 SU5.rd (by omega) (by omega) (by omega) (by omega) i5 o5 (by simp)).mono ?_
  rintro e w5 ⟨x5, cs5, rfl, hx5, hr5, ht5⟩
  have S5 := Lib.hid (SU5.task hlo hN hx5 hr5 ht5)
  have hz5 := Nat.le_trans hzU5 ht5.size
  obtain ⟨A5, c5, D5, d5, E5, e5, rfl, _⟩ := hx5
  clear hr5 ht5 i5 o5 SU5 hzU5 S4
  go_wp2_with fail
  refine callsAt fun U6 hU6 => ?_
  have i6 : Rows intC (some (w.heap.size + 1)) U6 U6.heap.size (some ⟨w5.heap.size, 0, none⟩) [2] := by rw [hU6]; exact rows_made _ ((Bk.new rfl).alloc _) (by simp) (by omega)
  have o6 : Rows intC (some (w.heap.size + 1)) U6 U6.heap.size (some ⟨w5.heap.size + 1, 0, none⟩) [1] := by rw [hU6]; exact rows_made _ (Bk.new (by simp)) (by simp) (by omega)
  have SU6 := (S5.out.alloc (.cells (iv [2]).toArray 3)).alloc (.cells (iv [1]).toArray 3)
  have SU6 : ShSt R (w.heap.size + 1) w w.heap.size (P + 1 + 1 + 1 + 1 + 20) ([] ++ [(x5, [.int .i64 x5.join, .int .i64 x5.split, .slice A5 x5.inn.length c5, .slice D5 x5.out.length d5, .slice E5 x5.clear.length e5, .int .i64 x5.role, .int .i64 x5.apart, .int .i64 x5.all, .int .i64 x5.need])]) U6 := by rw [hU6]; exact SU6
  have hzU6 : w.heap.size + 1 ≤ U6.heap.size := by rw [hU6]; simp only [World.size_alloc]; omega
  clear hU6
  refine (l20Task R (w.heap.size + 1) _ z3 2 2 _ _ [2] _ _ [1] U6 SU6.rd (by omega) (by omega) (by omega) (by omega) i6 o6 (by simp)).mono ?_
  rintro e w6 ⟨x6, cs6, rfl, hx6, hr6, ht6⟩
  have S6 := Lib.hid (SU6.task hlo hN hx6 hr6 ht6)
  have hz6 := Nat.le_trans hzU6 ht6.size
  obtain ⟨A6, c6, D6, d6, E6, e6, rfl, _⟩ := hx6
  clear hr6 ht6 i6 o6 SU6 hzU6 S5
  have kN := fun o i => (S6.out.1.alloc o).cell i
  have fN := fun o i => (S6.out.1.alloc o).frozen i
  have hzz := hz6
  go_wp2
  generalize hV : (World.setCell (World.setCell (World.alloc w6 _) _ _) _ _) = V2
  have bV : Bk V2 w.heap.size 75 #[.int .i64 3, .slice (some ⟨w6.heap.size, 0, none⟩) 2 2] := by rw [← hV]; exact ((S6.out.1.alloc _).set 0 _).set 1 _
  have oV : OwnC taskC 99 V2 (w.heap.size + 1) (.slice (some ⟨w6.heap.size, 0, none⟩) 2 2) [x5, x6] := by rw [← hV]; exact ((S6.out.row (by omega) (by simp)).kept (Kept.setCell (p := ⟨w.heap.size, 0, none⟩) (by show w.heap.size < w.heap.size + 1; omega) _)).kept (Kept.setCell (p := ⟨w.heap.size, 1, none⟩) (by show w.heap.size < w.heap.size + 1; omega) _)
  have tV : Turned R w V2 := by rw [← hV]; exact (S6.out.2.2.1.alloc _).trans' (((Below.refl _ _).setCell (p := ⟨w.heap.size, 0, none⟩) (Nat.le_refl _) _).setCell (p := ⟨w.heap.size, 1, none⟩) (Nat.le_refl _) _)
  have rV : RdB V2 R (P + 200) := by rw [← hV]; exact ((S6.out.2.1.grown ((Below.refl _ _).alloc (Nat.le_refl _) _)).low (((Below.refl w.heap.size _).setCell (p := ⟨w.heap.size, 0, none⟩) (Nat.le_refl _) _).setCell (p := ⟨w.heap.size, 1, none⟩) (Nat.le_refl _) _) hR).mono (by omega)
  clear hV kN fN
  have k1 := fun i => bV.cell i
  refine bodyPost_ret (v := .agg #[.int .i64 3, .slice (some ⟨w6.heap.size, 0, none⟩) 2 2]) (by simp [results, Try.results68, go_sem, k1]) rfl ?_
  exact ⟨⟨3, [x5, x6]⟩, _, rfl, oV.mono (by omega), ⟨by simp, by simp, by show (3 : Int) ≤ 3; decide, by show (3 : Int) ≤ 7; decide⟩, rV, tV⟩
 ·
  go_wp2_with fail
  refine callsAt fun U5 hU5 => ?_
  have i5 : Rows intC (some (w.heap.size + 1)) U5 U5.heap.size (some ⟨w4.heap.size, 0, none⟩) [0] := by rw [hU5]; exact rows_made _ ((Bk.new rfl).alloc _) (by simp) (by omega)
  have o5 : Rows intC (some (w.heap.size + 1)) U5 U5.heap.size (some ⟨w4.heap.size + 1, 0, none⟩) [2, 3] := by rw [hU5]; exact rows_made _ (Bk.new (by simp)) (by simp) (by omega)
  have SU5 := (S4.out.alloc (.cells (iv [0]).toArray 3)).alloc (.cells (iv [2, 3]).toArray 3)
  have SU5 : ShSt R (w.heap.size + 1) w w.heap.size (P + 1 + 1 + 1 + 1) ([]) U5 := by rw [hU5]; exact SU5
  have hzU5 : w.heap.size + 1 ≤ U5.heap.size := by rw [hU5]; simp only [World.size_alloc]; omega
  clear hU5
  refine (l20Task R (w.heap.size + 1) _ 1 (1 + v1) 4 _ _ [0] _ _ [2, 3] U5 SU5.rd (by omega) (by omega) (by omega) (by omega) i5 o5 (by simp)).mono ?_
  rintro e w5 ⟨x5, cs5, rfl, hx5, hr5, ht5⟩
  have S5 := Lib.hid (SU5.task hlo hN hx5 hr5 ht5)
  have hz5 := Nat.le_trans hzU5 ht5.size
  obtain ⟨A5, c5, D5, d5, E5, e5, rfl, _⟩ := hx5
  clear hr5 ht5 i5 o5 SU5 hzU5 S4
  go_wp2_with fail
  refine callsAt fun U6 hU6 => ?_
  have i6 : Rows intC (some (w.heap.size + 1)) U6 U6.heap.size (some ⟨w5.heap.size, 0, none⟩) [2] := by rw [hU6]; exact rows_made _ ((Bk.new rfl).alloc _) (by simp) (by omega)
  have o6 : Rows intC (some (w.heap.size + 1)) U6 U6.heap.size (some ⟨w5.heap.size + 1, 0, none⟩) [4] := by rw [hU6]; exact rows_made _ (Bk.new (by simp)) (by simp) (by omega)
  have SU6 := (S5.out.alloc (.cells (iv [2]).toArray 3)).alloc (.cells (iv [4]).toArray 3)
  have SU6 : ShSt R (w.heap.size + 1) w w.heap.size (P + 1 + 1 + 1 + 1 + 20) ([] ++ [(x5, [.int .i64 x5.join, .int .i64 x5.split, .slice A5 x5.inn.length c5, .slice D5 x5.out.length d5, .slice E5 x5.clear.length e5, .int .i64 x5.role, .int .i64 x5.apart, .int .i64 x5.all, .int .i64 x5.need])]) U6 := by rw [hU6]; exact SU6
  have hzU6 : w.heap.size + 1 ≤ U6.heap.size := by rw [hU6]; simp only [World.size_alloc]; omega
  clear hU6
  refine (l20Task R (w.heap.size + 1) _ 1 1 4 _ _ [2] _ _ [4] U6 SU6.rd (by omega) (by omega) (by omega) (by omega) i6 o6 (by simp)).mono ?_
  rintro e w6 ⟨x6, cs6, rfl, hx6, hr6, ht6⟩
  have S6 := Lib.hid (SU6.task hlo hN hx6 hr6 ht6)
  have hz6 := Nat.le_trans hzU6 ht6.size
  obtain ⟨A6, c6, D6, d6, E6, e6, rfl, _⟩ := hx6
  clear hr6 ht6 i6 o6 SU6 hzU6 S5
  go_wp2_with fail
  refine callsAt fun U7 hU7 => ?_
  have i7 : Rows intC (some (w.heap.size + 1)) U7 U7.heap.size (some ⟨w6.heap.size, 0, none⟩) [3] := by rw [hU7]; exact rows_made _ ((Bk.new rfl).alloc _) (by simp) (by omega)
  have o7 : Rows intC (some (w.heap.size + 1)) U7 U7.heap.size (some ⟨w6.heap.size + 1, 0, none⟩) [5] := by rw [hU7]; exact rows_made _ (Bk.new (by simp)) (by simp) (by omega)
  have SU7 := (S6.out.alloc (.cells (iv [3]).toArray 3)).alloc (.cells (iv [5]).toArray 3)
  have SU7 : ShSt R (w.heap.size + 1) w w.heap.size (P + 1 + 1 + 1 + 1 + 20 + 20) ([] ++ [(x5, [.int .i64 x5.join, .int .i64 x5.split, .slice A5 x5.inn.length c5, .slice D5 x5.out.length d5, .slice E5 x5.clear.length e5, .int .i64 x5.role, .int .i64 x5.apart, .int .i64 x5.all, .int .i64 x5.need])] ++ [(x6, [.int .i64 x6.join, .int .i64 x6.split, .slice A6 x6.inn.length c6, .slice D6 x6.out.length d6, .slice E6 x6.clear.length e6, .int .i64 x6.role, .int .i64 x6.apart, .int .i64 x6.all, .int .i64 x6.need])]) U7 := by rw [hU7]; exact SU7
  have hzU7 : w.heap.size + 1 ≤ U7.heap.size := by rw [hU7]; simp only [World.size_alloc]; omega
  clear hU7
  refine (l20Task R (w.heap.size + 1) _ 2 1 4 _ _ [3] _ _ [5] U7 SU7.rd (by omega) (by omega) (by omega) (by omega) i7 o7 (by simp)).mono ?_
  rintro e w7 ⟨x7, cs7, rfl, hx7, hr7, ht7⟩
  have S7 := Lib.hid (SU7.task hlo hN hx7 hr7 ht7)
  have hz7 := Nat.le_trans hzU7 ht7.size
  obtain ⟨A7, c7, D7, d7, E7, e7, rfl, _⟩ := hx7
  clear hr7 ht7 i7 o7 SU7 hzU7 S6
  go_wp2_with fail
  refine callsAt fun U8 hU8 => ?_
  have i8 : Rows intC (some (w.heap.size + 1)) U8 U8.heap.size (some ⟨w7.heap.size, 0, none⟩) [4, 5] := by rw [hU8]; exact rows_made _ ((Bk.new rfl).alloc _) (by simp) (by omega)
  have o8 : Rows intC (some (w.heap.size + 1)) U8 U8.heap.size (some ⟨w7.heap.size + 1, 0, none⟩) [1] := by rw [hU8]; exact rows_made _ (Bk.new (by simp)) (by simp) (by omega)
  have SU8 := (S7.out.alloc (.cells (iv [4, 5]).toArray 3)).alloc (.cells (iv [1]).toArray 3)
  have SU8 : ShSt R (w.heap.size + 1) w w.heap.size (P + 1 + 1 + 1 + 1 + 20 + 20 + 20) ([] ++ [(x5, [.int .i64 x5.join, .int .i64 x5.split, .slice A5 x5.inn.length c5, .slice D5 x5.out.length d5, .slice E5 x5.clear.length e5, .int .i64 x5.role, .int .i64 x5.apart, .int .i64 x5.all, .int .i64 x5.need])] ++ [(x6, [.int .i64 x6.join, .int .i64 x6.split, .slice A6 x6.inn.length c6, .slice D6 x6.out.length d6, .slice E6 x6.clear.length e6, .int .i64 x6.role, .int .i64 x6.apart, .int .i64 x6.all, .int .i64 x6.need])] ++ [(x7, [.int .i64 x7.join, .int .i64 x7.split, .slice A7 x7.inn.length c7, .slice D7 x7.out.length d7, .slice E7 x7.clear.length e7, .int .i64 x7.role, .int .i64 x7.apart, .int .i64 x7.all, .int .i64 x7.need])]) U8 := by rw [hU8]; exact SU8
  have hzU8 : w.heap.size + 1 ≤ U8.heap.size := by rw [hU8]; simp only [World.size_alloc]; omega
  clear hU8
  refine (l20Task R (w.heap.size + 1) _ z3 2 4 _ _ [4, 5] _ _ [1] U8 SU8.rd (by omega) (by omega) (by omega) (by omega) i8 o8 (by simp)).mono ?_
  rintro e w8 ⟨x8, cs8, rfl, hx8, hr8, ht8⟩
  have S8 := Lib.hid (SU8.task hlo hN hx8 hr8 ht8)
  have hz8 := Nat.le_trans hzU8 ht8.size
  obtain ⟨A8, c8, D8, d8, E8, e8, rfl, _⟩ := hx8
  clear hr8 ht8 i8 o8 SU8 hzU8 S7
  have kN := fun o i => (S8.out.1.alloc o).cell i
  have fN := fun o i => (S8.out.1.alloc o).frozen i
  have hzz := hz8
  go_wp2
  generalize hV : (World.setCell (World.setCell (World.alloc w8 _) _ _) _ _) = V2
  have bV : Bk V2 w.heap.size 75 #[.int .i64 6, .slice (some ⟨w8.heap.size, 0, none⟩) 4 4] := by rw [← hV]; exact ((S8.out.1.alloc _).set 0 _).set 1 _
  have oV : OwnC taskC 99 V2 (w.heap.size + 1) (.slice (some ⟨w8.heap.size, 0, none⟩) 4 4) [x5, x6, x7, x8] := by rw [← hV]; exact ((S8.out.row (by omega) (by simp)).kept (Kept.setCell (p := ⟨w.heap.size, 0, none⟩) (by show w.heap.size < w.heap.size + 1; omega) _)).kept (Kept.setCell (p := ⟨w.heap.size, 1, none⟩) (by show w.heap.size < w.heap.size + 1; omega) _)
  have tV : Turned R w V2 := by rw [← hV]; exact (S8.out.2.2.1.alloc _).trans' (((Below.refl _ _).setCell (p := ⟨w.heap.size, 0, none⟩) (Nat.le_refl _) _).setCell (p := ⟨w.heap.size, 1, none⟩) (Nat.le_refl _) _)
  have rV : RdB V2 R (P + 200) := by rw [← hV]; exact ((S8.out.2.1.grown ((Below.refl _ _).alloc (Nat.le_refl _) _)).low (((Below.refl w.heap.size _).setCell (p := ⟨w.heap.size, 0, none⟩) (Nat.le_refl _) _).setCell (p := ⟨w.heap.size, 1, none⟩) (Nat.le_refl _) _) hR).mono (by omega)
  clear hV kN fN
  have k1 := fun i => bV.cell i
  refine bodyPost_ret (v := .agg #[.int .i64 6, .slice (some ⟨w8.heap.size, 0, none⟩) 4 4]) (by simp [results, Try.results68, go_sem, k1]) rfl ?_
  exact ⟨⟨6, [x5, x6, x7, x8]⟩, _, rfl, oV.mono (by omega), ⟨by simp, by simp, by show (3 : Int) ≤ 6; decide, by show (6 : Int) ≤ 7; decide⟩, rV, tV⟩
 ·
  go_wp2_with fail
  refine callsAt fun U5 hU5 => ?_
  have i5 : Rows intC (some (w.heap.size + 1)) U5 U5.heap.size (some ⟨w4.heap.size, 0, none⟩) [0] := by rw [hU5]; exact rows_made _ ((Bk.new rfl).alloc _) (by simp) (by omega)
  have o5 : Rows intC (some (w.heap.size + 1)) U5 U5.heap.size (some ⟨w4.heap.size + 1, 0, none⟩) [2] := by rw [hU5]; exact rows_made _ (Bk.new (by simp)) (by simp) (by omega)
  have SU5 := (S4.out.alloc (.cells (iv [0]).toArray 3)).alloc (.cells (iv [2]).toArray 3)
  have SU5 : ShSt R (w.heap.size + 1) w w.heap.size (P + 1 + 1 + 1 + 1) ([]) U5 := by rw [hU5]; exact SU5
  have hzU5 : w.heap.size + 1 ≤ U5.heap.size := by rw [hU5]; simp only [World.size_alloc]; omega
  clear hU5
  refine (l20Task R (w.heap.size + 1) _ 2 1 3 _ _ [0] _ _ [2] U5 SU5.rd (by omega) (by omega) (by omega) (by omega) i5 o5 (by simp)).mono ?_
  rintro e w5 ⟨x5, cs5, rfl, hx5, hr5, ht5⟩
  have S5 := Lib.hid (SU5.task hlo hN hx5 hr5 ht5)
  have hz5 := Nat.le_trans hzU5 ht5.size
  obtain ⟨A5, c5, D5, d5, E5, e5, rfl, _⟩ := hx5
  clear hr5 ht5 i5 o5 SU5 hzU5 S4
  go_wp2_with fail
  refine callsAt fun U hU => ?_
  have bI : Bk U w5.heap.size 3 (iv [2]).toArray := by rw [hU]; exact Bk.new rfl
  have SU : Hid (ShSt R (w.heap.size + 1) w w.heap.size (P + 1 + 1 + 1 + 1 + 20) ([] ++ [(x5, [.int .i64 x5.join, .int .i64 x5.split, .slice A5 x5.inn.length c5, .slice D5 x5.out.length d5, .slice E5 x5.clear.length e5, .int .i64 x5.role, .int .i64 x5.apart, .int .i64 x5.all, .int .i64 x5.need])]) U) := by show ShSt _ _ _ _ _ _ _; rw [hU]; exact S5.out.alloc _
  have hzU : w.heap.size + 1 ≤ U.heap.size := by rw [hU]; simp only [World.size_alloc]; omega
  clear hU S5
  refine (l20Rd_pick R _ 2 _ SU.out.rd (by omega) (by omega)).mono ?_
  rintro e w6 ⟨v6, rfl, hv6, hu6, _, hr6, ht6⟩
  have S6 := Lib.hid (SU.out.pick hlo hN hr6 ht6)
  have hs6 := S6.out.sz
  have bI6 := bI.turned ht6 (by omega)
  have hz6 := Nat.le_trans hzU ht6.size
  clear hr6 ht6 SU bI
  go_wp2_with fail
  refine callsAt fun U7 hU7 => ?_
  have i7 : Rows intC (some (w.heap.size + 1)) U7 U7.heap.size (some ⟨w5.heap.size, 0, none⟩) [2] := by rw [hU7]; exact rows_made _ (bI6.alloc _) (by decide) (by omega)
  have o7 : Rows intC (some (w.heap.size + 1)) U7 U7.heap.size (some ⟨w6.heap.size, 0, none⟩) [2 + v6, 1] := by rw [hU7]; exact rows_made _ (Bk.new rfl) (by simp) (by omega)
  have SU7 := S6.out.alloc (.cells (iv [2 + v6, 1]).toArray 3)
  have SU7 : ShSt R (w.heap.size + 1) w w.heap.size (P + 1 + 1 + 1 + 1 + 20 + 1) ([] ++ [(x5, [.int .i64 x5.join, .int .i64 x5.split, .slice A5 x5.inn.length c5, .slice D5 x5.out.length d5, .slice E5 x5.clear.length e5, .int .i64 x5.role, .int .i64 x5.apart, .int .i64 x5.all, .int .i64 x5.need])]) U7 := by rw [hU7]; exact SU7
  have hzU7 : w.heap.size + 1 ≤ U7.heap.size := by rw [hU7]; simp only [World.size_alloc]; omega
  clear hU7
  refine (l20Task R (w.heap.size + 1) _ 1 2 3 _ _ [2] _ _ [2 + v6, 1] U7 SU7.rd (by omega) (by omega) (by omega) (by omega) i7 o7 (by simp)).mono ?_
  rintro e w7 ⟨x7, cs7, rfl, hx7, hr7, ht7⟩
  have S7 := Lib.hid (SU7.task hlo hN hx7 hr7 ht7)
  have hz7 := Nat.le_trans hzU7 ht7.size
  obtain ⟨A7, c7, D7, d7, E7, e7, rfl, _⟩ := hx7
  clear hr7 ht7 i7 o7 SU7 hzU7 S6
  go_wp2_with fail
  refine callsAt fun U8 hU8 => ?_
  have i8 : Rows intC (some (w.heap.size + 1)) U8 U8.heap.size (some ⟨w7.heap.size, 0, none⟩) [3] := by rw [hU8]; exact rows_made _ ((Bk.new rfl).alloc _) (by simp) (by omega)
  have o8 : Rows intC (some (w.heap.size + 1)) U8 U8.heap.size (some ⟨w7.heap.size + 1, 0, none⟩) [2] := by rw [hU8]; exact rows_made _ (Bk.new (by simp)) (by simp) (by omega)
  have SU8 := (S7.out.alloc (.cells (iv [3]).toArray 3)).alloc (.cells (iv [2]).toArray 3)
  have SU8 : ShSt R (w.heap.size + 1) w w.heap.size (P + 1 + 1 + 1 + 1 + 20 + 1 + 20) ([] ++ [(x5, [.int .i64 x5.join, .int .i64 x5.split, .slice A5 x5.inn.length c5, .slice D5 x5.out.length d5, .slice E5 x5.clear.length e5, .int .i64 x5.role, .int .i64 x5.apart, .int .i64 x5.all, .int .i64 x5.need])] ++ [(x7, [.int .i64 x7.join, .int .i64 x7.split, .slice A7 x7.inn.length c7, .slice D7 x7.out.length d7, .slice E7 x7.clear.length e7, .int .i64 x7.role, .int .i64 x7.apart, .int .i64 x7.all, .int .i64 x7.need])]) U8 := by rw [hU8]; exact SU8
  have hzU8 : w.heap.size + 1 ≤ U8.heap.size := by rw [hU8]; simp only [World.size_alloc]; omega
  clear hU8
  refine (l20Task R (w.heap.size + 1) _ 2 1 3 _ _ [3] _ _ [2] U8 SU8.rd (by omega) (by omega) (by omega) (by omega) i8 o8 (by simp)).mono ?_
  rintro e w8 ⟨x8, cs8, rfl, hx8, hr8, ht8⟩
  have S8 := Lib.hid (SU8.task hlo hN hx8 hr8 ht8)
  have hz8 := Nat.le_trans hzU8 ht8.size
  obtain ⟨A8, c8, D8, d8, E8, e8, rfl, _⟩ := hx8
  clear hr8 ht8 i8 o8 SU8 hzU8 S7
  have kN := fun o i => (S8.out.1.alloc o).cell i
  have fN := fun o i => (S8.out.1.alloc o).frozen i
  have hzz := hz8
  go_wp2
  generalize hV : (World.setCell (World.setCell (World.alloc w8 _) _ _) _ _) = V2
  have bV : Bk V2 w.heap.size 75 #[.int .i64 4, .slice (some ⟨w8.heap.size, 0, none⟩) 3 3] := by rw [← hV]; exact ((S8.out.1.alloc _).set 0 _).set 1 _
  have oV : OwnC taskC 99 V2 (w.heap.size + 1) (.slice (some ⟨w8.heap.size, 0, none⟩) 3 3) [x5, x7, x8] := by rw [← hV]; exact ((S8.out.row (by omega) (by simp)).kept (Kept.setCell (p := ⟨w.heap.size, 0, none⟩) (by show w.heap.size < w.heap.size + 1; omega) _)).kept (Kept.setCell (p := ⟨w.heap.size, 1, none⟩) (by show w.heap.size < w.heap.size + 1; omega) _)
  have tV : Turned R w V2 := by rw [← hV]; exact (S8.out.2.2.1.alloc _).trans' (((Below.refl _ _).setCell (p := ⟨w.heap.size, 0, none⟩) (Nat.le_refl _) _).setCell (p := ⟨w.heap.size, 1, none⟩) (Nat.le_refl _) _)
  have rV : RdB V2 R (P + 200) := by rw [← hV]; exact ((S8.out.2.1.grown ((Below.refl _ _).alloc (Nat.le_refl _) _)).low (((Below.refl w.heap.size _).setCell (p := ⟨w.heap.size, 0, none⟩) (Nat.le_refl _) _).setCell (p := ⟨w.heap.size, 1, none⟩) (Nat.le_refl _) _) hR).mono (by omega)
  clear hV kN fN
  have k1 := fun i => bV.cell i
  refine bodyPost_ret (v := .agg #[.int .i64 4, .slice (some ⟨w8.heap.size, 0, none⟩) 3 3]) (by simp [results, Try.results68, go_sem, k1]) rfl ?_
  exact ⟨⟨4, [x5, x7, x8]⟩, _, rfl, oV.mono (by omega), ⟨by simp, by simp, by show (3 : Int) ≤ 4; decide, by show (4 : Int) ≤ 7; decide⟩, rV, tV⟩
 ·
  go_wp2_with fail
  refine callsAt fun U5 hU5 => ?_
  have i5 : Rows intC (some (w.heap.size + 1)) U5 U5.heap.size (some ⟨w4.heap.size, 0, none⟩) [0] := by rw [hU5]; exact rows_made _ ((Bk.new rfl).alloc _) (by simp) (by omega)
  have o5 : Rows intC (some (w.heap.size + 1)) U5 U5.heap.size (some ⟨w4.heap.size + 1, 0, none⟩) [2, 3, 4] := by rw [hU5]; exact rows_made _ (Bk.new (by simp)) (by simp) (by omega)
  have SU5 := (S4.out.alloc (.cells (iv [0]).toArray 3)).alloc (.cells (iv [2, 3, 4]).toArray 3)
  have SU5 : ShSt R (w.heap.size + 1) w w.heap.size (P + 1 + 1 + 1 + 1) ([]) U5 := by rw [hU5]; exact SU5
  have hzU5 : w.heap.size + 1 ≤ U5.heap.size := by rw [hU5]; simp only [World.size_alloc]; omega
  clear hU5
  refine (l20Task R (w.heap.size + 1) _ 1 (1 + v1) 4 _ _ [0] _ _ [2, 3, 4] U5 SU5.rd (by omega) (by omega) (by omega) (by omega) i5 o5 (by simp)).mono ?_
  rintro e w5 ⟨x5, cs5, rfl, hx5, hr5, ht5⟩
  have S5 := Lib.hid (SU5.task hlo hN hx5 hr5 ht5)
  have hz5 := Nat.le_trans hzU5 ht5.size
  obtain ⟨A5, c5, D5, d5, E5, e5, rfl, _⟩ := hx5
  clear hr5 ht5 i5 o5 SU5 hzU5 S4
  go_wp2_with fail
  refine callsAt fun U6 hU6 => ?_
  have i6 : Rows intC (some (w.heap.size + 1)) U6 U6.heap.size (some ⟨w5.heap.size, 0, none⟩) [2] := by rw [hU6]; exact rows_made _ ((Bk.new rfl).alloc _) (by simp) (by omega)
  have o6 : Rows intC (some (w.heap.size + 1)) U6 U6.heap.size (some ⟨w5.heap.size + 1, 0, none⟩) [5] := by rw [hU6]; exact rows_made _ (Bk.new (by simp)) (by simp) (by omega)
  have SU6 := (S5.out.alloc (.cells (iv [2]).toArray 3)).alloc (.cells (iv [5]).toArray 3)
  have SU6 : ShSt R (w.heap.size + 1) w w.heap.size (P + 1 + 1 + 1 + 1 + 20) ([] ++ [(x5, [.int .i64 x5.join, .int .i64 x5.split, .slice A5 x5.inn.length c5, .slice D5 x5.out.length d5, .slice E5 x5.clear.length e5, .int .i64 x5.role, .int .i64 x5.apart, .int .i64 x5.all, .int .i64 x5.need])]) U6 := by rw [hU6]; exact SU6
  have hzU6 : w.heap.size + 1 ≤ U6.heap.size := by rw [hU6]; simp only [World.size_alloc]; omega
  clear hU6
  refine (l20Task R (w.heap.size + 1) _ 1 1 4 _ _ [2] _ _ [5] U6 SU6.rd (by omega) (by omega) (by omega) (by omega) i6 o6 (by simp)).mono ?_
  rintro e w6 ⟨x6, cs6, rfl, hx6, hr6, ht6⟩
  have S6 := Lib.hid (SU6.task hlo hN hx6 hr6 ht6)
  have hz6 := Nat.le_trans hzU6 ht6.size
  obtain ⟨A6, c6, D6, d6, E6, e6, rfl, _⟩ := hx6
  clear hr6 ht6 i6 o6 SU6 hzU6 S5
  go_wp2_with fail
  refine callsAt fun U7 hU7 => ?_
  have i7 : Rows intC (some (w.heap.size + 1)) U7 U7.heap.size (some ⟨w6.heap.size, 0, none⟩) [3, 4] := by rw [hU7]; exact rows_made _ ((Bk.new rfl).alloc _) (by simp) (by omega)
  have o7 : Rows intC (some (w.heap.size + 1)) U7 U7.heap.size (some ⟨w6.heap.size + 1, 0, none⟩) [6] := by rw [hU7]; exact rows_made _ (Bk.new (by simp)) (by simp) (by omega)
  have SU7 := (S6.out.alloc (.cells (iv [3, 4]).toArray 3)).alloc (.cells (iv [6]).toArray 3)
  have SU7 : ShSt R (w.heap.size + 1) w w.heap.size (P + 1 + 1 + 1 + 1 + 20 + 20) ([] ++ [(x5, [.int .i64 x5.join, .int .i64 x5.split, .slice A5 x5.inn.length c5, .slice D5 x5.out.length d5, .slice E5 x5.clear.length e5, .int .i64 x5.role, .int .i64 x5.apart, .int .i64 x5.all, .int .i64 x5.need])] ++ [(x6, [.int .i64 x6.join, .int .i64 x6.split, .slice A6 x6.inn.length c6, .slice D6 x6.out.length d6, .slice E6 x6.clear.length e6, .int .i64 x6.role, .int .i64 x6.apart, .int .i64 x6.all, .int .i64 x6.need])]) U7 := by rw [hU7]; exact SU7
  have hzU7 : w.heap.size + 1 ≤ U7.heap.size := by rw [hU7]; simp only [World.size_alloc]; omega
  clear hU7
  refine (l20Task R (w.heap.size + 1) _ z3 1 4 _ _ [3, 4] _ _ [6] U7 SU7.rd (by omega) (by omega) (by omega) (by omega) i7 o7 (by simp)).mono ?_
  rintro e w7 ⟨x7, cs7, rfl, hx7, hr7, ht7⟩
  have S7 := Lib.hid (SU7.task hlo hN hx7 hr7 ht7)
  have hz7 := Nat.le_trans hzU7 ht7.size
  obtain ⟨A7, c7, D7, d7, E7, e7, rfl, _⟩ := hx7
  clear hr7 ht7 i7 o7 SU7 hzU7 S6
  go_wp2_with fail
  refine (l20Rd_pick R _ 3 _ S7.out.rd (by omega) (by omega)).mono ?_
  rintro e w8 ⟨v8, rfl, hv8, hu8, _, hr8, ht8⟩
  have S8 := Lib.hid (S7.out.pick hlo hN hr8 ht8)
  have hs8 := S8.out.sz
  have hz8 := Nat.le_trans hz7 ht8.size
  clear hr8 ht8 S7
  go_wp2_with fail
  refine callsAt fun U9 hU9 => ?_
  have i9 : Rows intC (some (w.heap.size + 1)) U9 U9.heap.size (some ⟨w8.heap.size, 0, none⟩) [5, 6] := by rw [hU9]; exact rows_made _ ((Bk.new rfl).alloc _) (by simp) (by omega)
  have o9 : Rows intC (some (w.heap.size + 1)) U9 U9.heap.size (some ⟨w8.heap.size + 1, 0, none⟩) [1] := by rw [hU9]; exact rows_made _ (Bk.new (by simp)) (by simp) (by omega)
  have SU9 := (S8.out.alloc (.cells (iv [5, 6]).toArray 3)).alloc (.cells (iv [1]).toArray 3)
  have SU9 : ShSt R (w.heap.size + 1) w w.heap.size (P + 1 + 1 + 1 + 1 + 20 + 20 + 20 + 1) ([] ++ [(x5, [.int .i64 x5.join, .int .i64 x5.split, .slice A5 x5.inn.length c5, .slice D5 x5.out.length d5, .slice E5 x5.clear.length e5, .int .i64 x5.role, .int .i64 x5.apart, .int .i64 x5.all, .int .i64 x5.need])] ++ [(x6, [.int .i64 x6.join, .int .i64 x6.split, .slice A6 x6.inn.length c6, .slice D6 x6.out.length d6, .slice E6 x6.clear.length e6, .int .i64 x6.role, .int .i64 x6.apart, .int .i64 x6.all, .int .i64 x6.need])] ++ [(x7, [.int .i64 x7.join, .int .i64 x7.split, .slice A7 x7.inn.length c7, .slice D7 x7.out.length d7, .slice E7 x7.clear.length e7, .int .i64 x7.role, .int .i64 x7.apart, .int .i64 x7.all, .int .i64 x7.need])]) U9 := by rw [hU9]; exact SU9
  have hzU9 : w.heap.size + 1 ≤ U9.heap.size := by rw [hU9]; simp only [World.size_alloc]; omega
  clear hU9
  refine (l20Task R (w.heap.size + 1) _ (1 + v8) 1 4 _ _ [5, 6] _ _ [1] U9 SU9.rd (by omega) (by omega) (by omega) (by omega) i9 o9 (by simp)).mono ?_
  rintro e w9 ⟨x9, cs9, rfl, hx9, hr9, ht9⟩
  have S9 := Lib.hid (SU9.task hlo hN hx9 hr9 ht9)
  have hz9 := Nat.le_trans hzU9 ht9.size
  obtain ⟨A9, c9, D9, d9, E9, e9, rfl, _⟩ := hx9
  clear hr9 ht9 i9 o9 SU9 hzU9 S8
  have kN := fun o i => (S9.out.1.alloc o).cell i
  have fN := fun o i => (S9.out.1.alloc o).frozen i
  have hzz := hz9
  go_wp2
  generalize hV : (World.setCell (World.setCell (World.alloc w9 _) _ _) _ _) = V2
  have bV : Bk V2 w.heap.size 75 #[.int .i64 7, .slice (some ⟨w9.heap.size, 0, none⟩) 4 4] := by rw [← hV]; exact ((S9.out.1.alloc _).set 0 _).set 1 _
  have oV : OwnC taskC 99 V2 (w.heap.size + 1) (.slice (some ⟨w9.heap.size, 0, none⟩) 4 4) [x5, x6, x7, x9] := by rw [← hV]; exact ((S9.out.row (by omega) (by simp)).kept (Kept.setCell (p := ⟨w.heap.size, 0, none⟩) (by show w.heap.size < w.heap.size + 1; omega) _)).kept (Kept.setCell (p := ⟨w.heap.size, 1, none⟩) (by show w.heap.size < w.heap.size + 1; omega) _)
  have tV : Turned R w V2 := by rw [← hV]; exact (S9.out.2.2.1.alloc _).trans' (((Below.refl _ _).setCell (p := ⟨w.heap.size, 0, none⟩) (Nat.le_refl _) _).setCell (p := ⟨w.heap.size, 1, none⟩) (Nat.le_refl _) _)
  have rV : RdB V2 R (P + 200) := by rw [← hV]; exact ((S9.out.2.1.grown ((Below.refl _ _).alloc (Nat.le_refl _) _)).low (((Below.refl w.heap.size _).setCell (p := ⟨w.heap.size, 0, none⟩) (Nat.le_refl _) _).setCell (p := ⟨w.heap.size, 1, none⟩) (Nat.le_refl _) _) hR).mono (by omega)
  clear hV kN fN
  have k1 := fun i => bV.cell i
  refine bodyPost_ret (v := .agg #[.int .i64 7, .slice (some ⟨w9.heap.size, 0, none⟩) 4 4]) (by simp [results, Try.results68, go_sem, k1]) rfl ?_
  exact ⟨⟨7, [x5, x6, x7, x9]⟩, _, rfl, oV.mono (by omega), ⟨by simp, by simp, by show (3 : Int) ≤ 7; decide, by show (7 : Int) ≤ 7; decide⟩, rV, tV⟩
 ·
  go_wp2_with fail
  refine callsAt fun U5 hU5 => ?_
  have i5 : Rows intC (some (w.heap.size + 1)) U5 U5.heap.size (some ⟨w4.heap.size, 0, none⟩) [0] := by rw [hU5]; exact rows_made _ ((Bk.new rfl).alloc _) (by simp) (by omega)
  have o5 : Rows intC (some (w.heap.size + 1)) U5 U5.heap.size (some ⟨w4.heap.size + 1, 0, none⟩) [2, 3] := by rw [hU5]; exact rows_made _ (Bk.new (by simp)) (by simp) (by omega)
  have SU5 := (S4.out.alloc (.cells (iv [0]).toArray 3)).alloc (.cells (iv [2, 3]).toArray 3)
  have SU5 : ShSt R (w.heap.size + 1) w w.heap.size (P + 1 + 1 + 1 + 1) ([]) U5 := by rw [hU5]; exact SU5
  have hzU5 : w.heap.size + 1 ≤ U5.heap.size := by rw [hU5]; simp only [World.size_alloc]; omega
  clear hU5
  refine (l20Task R (w.heap.size + 1) _ 1 1 3 _ _ [0] _ _ [2, 3] U5 SU5.rd (by omega) (by omega) (by omega) (by omega) i5 o5 (by simp)).mono ?_
  rintro e w5 ⟨x5, cs5, rfl, hx5, hr5, ht5⟩
  have S5 := Lib.hid (SU5.task hlo hN hx5 hr5 ht5)
  have hz5 := Nat.le_trans hzU5 ht5.size
  obtain ⟨A5, c5, D5, d5, E5, e5, rfl, _⟩ := hx5
  clear hr5 ht5 i5 o5 SU5 hzU5 S4
  go_wp2_with fail
  refine callsAt fun U6 hU6 => ?_
  have i6 : Rows intC (some (w.heap.size + 1)) U6 U6.heap.size (some ⟨w5.heap.size, 0, none⟩) [2] := by rw [hU6]; exact rows_made _ ((Bk.new rfl).alloc _) (by simp) (by omega)
  have o6 : Rows intC (some (w.heap.size + 1)) U6 U6.heap.size (some ⟨w5.heap.size + 1, 0, none⟩) [4, 1] := by rw [hU6]; exact rows_made _ (Bk.new (by simp)) (by simp) (by omega)
  have SU6 := (S5.out.alloc (.cells (iv [2]).toArray 3)).alloc (.cells (iv [4, 1]).toArray 3)
  have SU6 : ShSt R (w.heap.size + 1) w w.heap.size (P + 1 + 1 + 1 + 1 + 20) ([] ++ [(x5, [.int .i64 x5.join, .int .i64 x5.split, .slice A5 x5.inn.length c5, .slice D5 x5.out.length d5, .slice E5 x5.clear.length e5, .int .i64 x5.role, .int .i64 x5.apart, .int .i64 x5.all, .int .i64 x5.need])]) U6 := by rw [hU6]; exact SU6
  have hzU6 : w.heap.size + 1 ≤ U6.heap.size := by rw [hU6]; simp only [World.size_alloc]; omega
  clear hU6
  refine (l20Task R (w.heap.size + 1) _ 1 2 3 _ _ [2] _ _ [4, 1] U6 SU6.rd (by omega) (by omega) (by omega) (by omega) i6 o6 (by simp)).mono ?_
  rintro e w6 ⟨x6, cs6, rfl, hx6, hr6, ht6⟩
  have S6 := Lib.hid (SU6.task hlo hN hx6 hr6 ht6)
  have hz6 := Nat.le_trans hzU6 ht6.size
  obtain ⟨A6, c6, D6, d6, E6, e6, rfl, _⟩ := hx6
  clear hr6 ht6 i6 o6 SU6 hzU6 S5
  go_wp2_with fail
  refine callsAt fun U7 hU7 => ?_
  have i7 : Rows intC (some (w.heap.size + 1)) U7 U7.heap.size (some ⟨w6.heap.size, 0, none⟩) [3, 4] := by rw [hU7]; exact rows_made _ ((Bk.new rfl).alloc _) (by simp) (by omega)
  have o7 : Rows intC (some (w.heap.size + 1)) U7 U7.heap.size (some ⟨w6.heap.size + 1, 0, none⟩) [1] := by rw [hU7]; exact rows_made _ (Bk.new (by simp)) (by simp) (by omega)
  have SU7 := (S6.out.alloc (.cells (iv [3, 4]).toArray 3)).alloc (.cells (iv [1]).toArray 3)
  have SU7 : ShSt R (w.heap.size + 1) w w.heap.size (P + 1 + 1 + 1 + 1 + 20 + 20) ([] ++ [(x5, [.int .i64 x5.join, .int .i64 x5.split, .slice A5 x5.inn.length c5, .slice D5 x5.out.length d5, .slice E5 x5.clear.length e5, .int .i64 x5.role, .int .i64 x5.apart, .int .i64 x5.all, .int .i64 x5.need])] ++ [(x6, [.int .i64 x6.join, .int .i64 x6.split, .slice A6 x6.inn.length c6, .slice D6 x6.out.length d6, .slice E6 x6.clear.length e6, .int .i64 x6.role, .int .i64 x6.apart, .int .i64 x6.all, .int .i64 x6.need])]) U7 := by rw [hU7]; exact SU7
  have hzU7 : w.heap.size + 1 ≤ U7.heap.size := by rw [hU7]; simp only [World.size_alloc]; omega
  clear hU7
  refine (l20Task R (w.heap.size + 1) _ (1 + v1) 1 3 _ _ [3, 4] _ _ [1] U7 SU7.rd (by omega) (by omega) (by omega) (by omega) i7 o7 (by simp)).mono ?_
  rintro e w7 ⟨x7, cs7, rfl, hx7, hr7, ht7⟩
  have S7 := Lib.hid (SU7.task hlo hN hx7 hr7 ht7)
  have hz7 := Nat.le_trans hzU7 ht7.size
  obtain ⟨A7, c7, D7, d7, E7, e7, rfl, _⟩ := hx7
  clear hr7 ht7 i7 o7 SU7 hzU7 S6
  have kN := fun o i => (S7.out.1.alloc o).cell i
  have fN := fun o i => (S7.out.1.alloc o).frozen i
  have hzz := hz7
  go_wp2
  generalize hV : (World.setCell (World.setCell (World.alloc w7 _) _ _) _ _) = V2
  have bV : Bk V2 w.heap.size 75 #[.int .i64 5, .slice (some ⟨w7.heap.size, 0, none⟩) 3 3] := by rw [← hV]; exact ((S7.out.1.alloc _).set 0 _).set 1 _
  have oV : OwnC taskC 99 V2 (w.heap.size + 1) (.slice (some ⟨w7.heap.size, 0, none⟩) 3 3) [x5, x6, x7] := by rw [← hV]; exact ((S7.out.row (by omega) (by simp)).kept (Kept.setCell (p := ⟨w.heap.size, 0, none⟩) (by show w.heap.size < w.heap.size + 1; omega) _)).kept (Kept.setCell (p := ⟨w.heap.size, 1, none⟩) (by show w.heap.size < w.heap.size + 1; omega) _)
  have tV : Turned R w V2 := by rw [← hV]; exact (S7.out.2.2.1.alloc _).trans' (((Below.refl _ _).setCell (p := ⟨w.heap.size, 0, none⟩) (Nat.le_refl _) _).setCell (p := ⟨w.heap.size, 1, none⟩) (Nat.le_refl _) _)
  have rV : RdB V2 R (P + 200) := by rw [← hV]; exact ((S7.out.2.1.grown ((Below.refl _ _).alloc (Nat.le_refl _) _)).low (((Below.refl w.heap.size _).setCell (p := ⟨w.heap.size, 0, none⟩) (Nat.le_refl _) _).setCell (p := ⟨w.heap.size, 1, none⟩) (Nat.le_refl _) _) hR).mono (by omega)
  clear hV kN fN
  have k1 := fun i => bV.cell i
  refine bodyPost_ret (v := .agg #[.int .i64 5, .slice (some ⟨w7.heap.size, 0, none⟩) 3 3]) (by simp [results, Try.results68, go_sem, k1]) rfl ?_
  exact ⟨⟨5, [x5, x6, x7]⟩, _, rfl, oV.mono (by omega), ⟨by simp, by simp, by show (3 : Int) ≤ 5; decide, by show (5 : Int) ≤ 7; decide⟩, rV, tV⟩
 ·
  go_wp2_with fail
  refine (l20Rd_pick R _ 4 _ S4.out.rd (by omega) (by omega)).mono ?_
  rintro e w5 ⟨v5, rfl, hv5, hu5, _, hr5, ht5⟩
  have S5 := Lib.hid (S4.out.pick hlo hN hr5 ht5)
  have hs5 := S5.out.sz
  have hz5 := Nat.le_trans hz4 ht5.size
  clear hr5 ht5 S4
  go_wp2_with fail
  refine callsAt fun U hU => ?_
  have LU : Hid (LpSt R w w.heap.size w5.heap.size (P + 5) (3 + v5) (.slice none 0 0) [] U) := by
   show LpSt _ _ _ _ _ _ _ _ _
   rw [hU]
   exact ⟨S5.out.1.alloc _, Bk.new rfl, OwnC.nil _ _, S5.out.2.1.grown ((Below.refl _ _).alloc (Nat.le_refl _) _), S5.out.2.2.1.alloc _⟩
  have hzU : w5.heap.size + 1 ≤ U.heap.size := by rw [hU]; simp
  have hE : R < w5.heap.size := by omega
  have hwE : w.heap.size + 1 ≤ w5.heap.size := hz5
  clear hU S5
  generalize hEE : w5.heap.size = E at *
  clear hEE
  refine (l20Rd_pick R _ 4 _ LU.out.rd (by omega) (by omega)).mono ?_
  rintro e w6 ⟨v6, rfl, hv6, hu6, _, hr6, ht6⟩
  have L6 := Lib.hid (LU.out.pick hN hE hr6 ht6)
  have hz6 := Nat.le_trans hzU ht6.size
  clear hr6 ht6
  clear LU
  go_wp2
  go_loopg [7, 8, 9] 4 (fun gg s7 _ _ wr => ∃ (k : Nat) (v : Value) (tasks : List GTask), (k : Int) ≤ 1 + v6 ∧ 4 - k ≤ gg ∧ s7 = .int .i64 k ∧ Aside (tasks.length = k) ∧ Aside (LpSt R w w.heap.size E (P + 6 + 30 * k) (3 + v5) v tasks wr))
  case atStart => exact ⟨0, _, [], by omega, by omega, rfl, rfl, L6.out⟩
  case round =>
   obtain ⟨k, v, tasks, hk, hgg, rfl, HTL, LR⟩ := hrel
   have hzR := LR.out.2.2.2.2.size
   have hER := LR.out.eb.lt
   have hk4 : k ≤ 4 := by omega
   by_cases hlt : (k : Int) < 1 + v6
   ·
    have hk3' : k ≤ 3 := by omega
    clear L6
    have hz6 : wr.heap.size ≤ wr.heap.size := Nat.le_refl _
    have kE := fun i => LR.out.eb.cell i
    go_wp2_with fail
    clear kE
    have L6 := Lib.hid LR.out
    have LRO := Lib.hid LR.out
    clear LR
    refine (l20Rd_pick R _ _ _ L6.out.rd (by omega) (by omega)).mono ?_
    rintro e w7 ⟨v7, rfl, hv7, hu7, _, hr7, ht7⟩
    have L7 := Lib.hid (L6.out.pick hN hE hr7 ht7)
    have hz7 := Nat.le_trans hz6 ht7.size
    clear hr7 ht7
    clear L6
    go_wp2_with fail
    refine callsAt fun V8 hV8 => ?_
    have bL : Bk V8 w7.heap.size 3 (iv [0, 2, 2, 2 + v7]).toArray := by rw [hV8]; exact Bk.new rfl
    have LV : Hid (LpSt R w w.heap.size E (P + 6 + 30 * k + 1) (3 + v5) v tasks V8) := by show LpSt _ _ _ _ _ _ _ _ _; rw [hV8]; exact L7.out.more ((Below.refl _ _).alloc (Nat.le_refl _) _)
    have hzV8 : wr.heap.size ≤ V8.heap.size := by rw [hV8]; simp only [World.size_alloc]; omega
    clear hV8 L7
    refine (l20Rd_pick R _ 4 _ LV.out.rd (by omega) (by omega)).mono ?_
    rintro e w8 ⟨v8, rfl, hv8, hu8, _, hr8, ht8⟩
    have L8 := Lib.hid (LV.out.pick hN hE hr8 ht8)
    have hz8 := Nat.le_trans hzV8 ht8.size
    obtain ⟨k8, rfl⟩ := Int.eq_ofNat_of_zero_le hv8
    have hk8 : (k8 : Int) < 4 := by omega
    obtain ⟨z8, hz8c⟩ := lit_at (bL.turned ht8 (by omega)) (k := k8) (by simp; omega)
    clear hr8 ht8
    clear LV bL hu8
    have kE := fun o i => (L8.out.eb.alloc o).cell i
    go_wp2_with fail
    clear kE hz8c
    refine callsAt fun V9 hV9 => ?_
    have hb9 : Below w8.heap.size w8 V9 := by rw [hV9]; exact (Below.refl _ _).alloc (Nat.le_refl _) _
    have bIn : Bk V9 w8.heap.size 3 (iv [z8]).toArray := by rw [hV9]; exact Bk.new rfl
    have LW : Hid (LpSt R w w.heap.size E (P + 6 + 30 * k + 1 + 1) (3 + v5) v tasks V9) := L8.out.more hb9
    have IN : Hid (Rows intC (some wr.heap.size) V9 V9.heap.size (some ⟨w8.heap.size, 0, none⟩) [z8]) := rows_made _ bIn (by simp) (by omega)
    have hzW := Nat.le_trans hz8 hb9.size
    clear hV9 L8 bIn hb9
    refine (l20Rd_pick R _ _ _ LW.out.rd (by omega) (by omega)).mono ?_
    rintro e w9 ⟨v9, rfl, hv9, hu9, _, hr9, ht9⟩
    have L9 := Lib.hid (LW.out.pick hN hE hr9 ht9)
    have hz9 := Nat.le_trans hzW ht9.size
    have IN := Lib.hid ((IN.out.keep (ht9.agree (by omega) (Nat.le_refl _))).more ht9.size)
    clear hr9 ht9
    clear LW
    go_upto_region 21 with fail
    go_cut [9, 162] from 153 to 161 (fun s9 s162 wx => (∃ q : Bool, s162 = .bool q) ∧ s9 = .slice (some ⟨w9.heap.size, 0, none⟩) 1 1 ∧ Aside (Bk wx w9.heap.size 3 (iv [1 + v9]).toArray) ∧ Aside (Turned R w9 wx) ∧ Aside (RdB wx R (P + 6 + 30 * k + 1 + 1 + 1 + 1)))
    case first =>
     go_wp2_with fail
     refine callsAt fun V10 hV10 => ?_
     have hb10 : Below w9.heap.size w9 V10 := by rw [hV10]; exact (Below.refl _ _).alloc (Nat.le_refl _) _
     have bTo : Bk V10 w9.heap.size 3 (iv [1 + v9]).toArray := by rw [hV10]; exact Bk.new rfl
     clear hV10
     refine (l20Rd_pick R _ 2 _ (L9.out.rd.grown hb10) (by omega) (by omega)).mono ?_
     rintro e w10 ⟨v10, rfl, hv10, hu10, _, hr10, ht10⟩
     have BT := Lib.hid (bTo.turned ht10 (by omega))
     have T10 := Lib.hid ((Turned.of_below hb10).trans ht10)
     have R10 := Lib.hid hr10
     clear hr10 ht10 hb10 bTo
     have kT : w10.cell? ⟨w9.heap.size, 0, none⟩ = some (.int .i64 (1 + v9)) := BT.out.cell 0
     by_cases hp10 : v10 = 0
     ·
      subst hp10
      by_cases h2 : 1 + v9 = 2
      ·
       have hb2 : ((1 + v9) != 2) = false := by simp [h2]
       clear h2
       go_wp2
       go_meet
       case rel => exact ⟨⟨_, rfl⟩, rfl, BT.out, T10.out, R10.out⟩
      ·
       have hb2 : ((1 + v9) != 2) = true := by simp [h2]
       clear h2
       go_wp2
       go_meet
       case rel => exact ⟨⟨_, rfl⟩, rfl, BT.out, T10.out, R10.out⟩
     ·
      have hb2 : (v10 == 0) = false := by simp [hp10]
      go_wp2
      go_meet
      case rel => exact ⟨⟨_, rfl⟩, rfl, BT.out, T10.out, R10.out⟩
    case rest =>
    obtain ⟨⟨q, rfl⟩, rfl, BT, T10, R10⟩ := hcut
    obtain ⟨wd, hwd⟩ : ∃ wd : World, wd = wc := ⟨_, rfl⟩
    subst hwd
    go_upto_if 162 with fail
    go_cut [9] from 163 to 165 (fun s9 wx => ∃ A c tos, s9 = .slice A (List.length (α := Int) tos) c ∧ tos.length ≤ 2 ∧ Aside (Rows intC (some wr.heap.size) wx wx.heap.size A tos) ∧ Aside (Turned R w9 wx) ∧ Aside (RdB wx R (P + 6 + 30 * k + 1 + 1 + 1 + 1)))
    case first =>
     have hs10' : w9.heap.size < wd.heap.size := BT.out.lt
     have TO : Hid (OwnV wd w9.heap.size (.slice (some ⟨w9.heap.size, 0, none⟩) 1 1) [1 + v9]) := OwnV.bk (xs := [1 + v9]) BT.out (Nat.le_refl _) (by simp)
     have HRT : Hid (Rows intC (some wr.heap.size) wd wd.heap.size (some ⟨w9.heap.size, 0, none⟩) [1 + v9]) := rows_made _ BT.out (by simp) (by omega)
     cases q with
     | true =>
      go_wp2_with (at_builtin; refine append_int rfl (.tmp 163) (.tmp 164) rfl w9.heap.size _ _ rfl (TO.out.alloc _) wd.heap.size 2 rfl (by simp) (by simp) (by simp only [World.size_alloc]; omega) ?_; intro v' w4 hown hb4; have O4 := Lib.hid hown; have B4 := Lib.hid hb4; clear hown hb4)
      go_meet
      case rel =>
       obtain ⟨A4, c4, hv4, hr4⟩ := O4.out.rows (by simp)
       have hT : Turned R w9 w4 := (T10.out.alloc _).trans' B4.out
       exact ⟨A4, c4, _, hv4, by simp, hr4.weak (Weaker.some (by omega)), hT, (R10.out.low ((Below.refl _ _).alloc (Nat.le_refl _) _) R10.out.lt).low B4.out (by omega)⟩
     | false =>
      go_wp2
      go_meet
      case rel => exact ⟨_, _, [1 + v9], rfl, by simp, HRT.out, T10.out, R10.out⟩
    case rest =>
     obtain ⟨A9, c9, tos, rfl, htl, HT, HTU, HRD⟩ := hcut
     have L11 := Lib.hid (L9.out.pick hN hE HRD.out HTU.out)
     have I11 : Hid (Rows intC (some wr.heap.size) wc wc.heap.size (some ⟨w8.heap.size, 0, none⟩) [z8]) := ((IN.out.keep (HTU.out.agree (by omega) (Nat.le_refl _))).more HTU.out.size)
     have hz11 := Nat.le_trans hz9 HTU.out.size
     have hdr : Below wc.heap.size wc wc.drew := (Below.refl _ _).drew
     have L11 := Lib.hid (L11.out.more hdr)
     have I11 := Lib.hid (I11.out.later hdr)
     have T11 := Lib.hid (HT.out.later hdr)
     have hvlt := L11.out.2.2.1.lt
     have HLT : Hid (∀ g, v.ownBlock = some g → g < wr.heap.size) := fun g hg => (LRO.out.2.2.1.lt g hg).2
     clear hvlt hdr HT HTU HRD IN L9
     go_upto_region 23 with fail
     refine wp_region_held_drew (S := fun _ => True) (by kernel_rfl) trivial (fun _ => ?_)
     have hzd : wr.heap.size ≤ wc.drew.heap.size := hz11
     generalize wc.drew = w11 at L11 I11 T11 hzd ⊢
     clear hz11
     have hz11 := hzd
     refine wpAnyH_take (i := 0) (v := ?_) rfl (by kernel_rfl) (by kernel_rfl) (by kernel_rfl) (fun _ _ _ h => h) (Or.inl ⟨by rfl, ?_⟩) trivial ?_
     rotate_left
     ·
      intro V hSw; (try dsimp only at hSw); go_simp; (try with_reducible rfl)
     simp only [sA, sB, sC, Act.put, sD, sE, sF]
     refine wpAnyH_take (i := 2) (v := ?_) rfl (by kernel_rfl) (by kernel_rfl) (by kernel_rfl) (fun _ _ _ h => h) (Or.inl ⟨by rfl, ?_⟩) trivial ?_
     rotate_left
     ·
      intro V hSw; (try dsimp only at hSw); go_simp; (try with_reducible rfl)
     simp only [sA, sB, sC, Act.put, sD, sE, sF]
     refine wpAnyH_take (i := 3) (v := ?_) rfl (by kernel_rfl) (by kernel_rfl) (by kernel_rfl) (fun _ _ _ h => h) (Or.inl ⟨by rfl, ?_⟩) trivial ?_
     rotate_left
     ·
      intro V hSw; (try dsimp only at hSw); go_simp; (try with_reducible rfl)
     simp only [sA, sB, sC, Act.put, sD, sE, sF]
     refine wpAnyH_take (i := 6) (v := ?_) rfl (by kernel_rfl) (by kernel_rfl) (by kernel_rfl) (fun _ _ _ h => h) (Or.inl ⟨by rfl, ?_⟩) trivial ?_
     rotate_left
     ·
      intro V hSw; (try dsimp only at hSw); go_simp; (try with_reducible rfl)
     simp only [sA, sB, sC, Act.put, sD, sE, sF]
     refine wpAnyH_take (i := 9) (v := ?_) rfl (by kernel_rfl) (by kernel_rfl) (by kernel_rfl) (fun _ _ _ h => h) (Or.inl ⟨by rfl, ?_⟩) trivial ?_
     rotate_left
     ·
      intro V hSw; (try dsimp only at hSw); go_simp; (try with_reducible rfl)
     simp only [sA, sB, sC, Act.put, sD, sE, sF]
     refine wpAnyH_take (i := 10) (v := ?_) rfl (by kernel_rfl) (by kernel_rfl) (by kernel_rfl) (fun _ _ _ h => h) (Or.inl ⟨by rfl, ?_⟩) trivial ?_
     rotate_left
     ·
      intro V hSw; (try dsimp only at hSw); go_simp; (try with_reducible rfl)
     simp only [sA, sB, sC, Act.put, sD, sE, sF]
     refine wpAnyH_take (i := 11) (v := ?_) rfl (by kernel_rfl) (by kernel_rfl) (by kernel_rfl) (fun _ _ _ h => h) (Or.inl ⟨by rfl, ?_⟩) trivial ?_
     rotate_left
     ·
      intro V hSw; (try dsimp only at hSw); go_simp; (try with_reducible rfl)
     simp only [sA, sB, sC, Act.put, sD, sE, sF]
     refine wpAnyH_ready (rs := [1, 4]) (by kernel_rfl) (by simp) ?_
     refine AllReadyH.cons rfl (fun K hK => ?_) (AllReadyH.cons rfl (fun K hK => ?_) (AllReadyH.nil))
     ·
      have kE := fun i => L11.out.eb.cell i
      go_simp
      clear kE
      refine hK.out _ _ trivial (fun _ => ?_)
      clear hK K
      refine wpAnyH_ready (rs := [4]) (by kernel_rfl) (by simp) ?_
      refine AllReadyH.cons rfl (fun K hK => ?_) (AllReadyH.nil)
      ·
       go_simp
       go_wp2_with (go_at_call 47; refine (l20Rd_pick R _ 3 _ L11.out.rd (by omega) (by omega)).mono ?_; rintro e w12 ⟨v12, rfl, hv12, hu12, _, hr12, ht12⟩; have L12 := Lib.hid (L11.out.pick hN hE hr12 ht12); have I12 := Lib.hid ((I11.out.keep (ht12.agree (by omega) (Nat.le_refl _))).more ht12.size); have T12 := Lib.hid ((T11.out.keep (ht12.agree (by omega) (Nat.le_refl _))).more ht12.size); have hz12 := Nat.le_trans hz11 ht12.size; clear hr12 ht12)
       refine hK.out _ _ trivial (fun _ => ?_)
       clear hK K
       refine wpAnyH_take (i := 5) (v := ?_) rfl (by kernel_rfl) (by kernel_rfl) (by kernel_rfl) (fun _ _ _ h => h) (Or.inl ⟨by rfl, ?_⟩) trivial ?_
       rotate_left
       ·
        intro V hSw; (try dsimp only at hSw); go_simp; (try with_reducible rfl)
       simp only [sA, sB, sC, Act.put, sD, sE, sF]
       refine wpAnyH_ready (rs := [7]) (by kernel_rfl) (by simp) ?_
       refine AllReadyH.cons rfl (fun K hK => ?_) (AllReadyH.nil)
       ·
        go_simp
        go_wp2_with (go_at_call 47; refine (l20Rd_pick R _ 3 _ L12.out.rd (by omega) (by omega)).mono ?_; rintro e w13 ⟨v13, rfl, hv13, hu13, _, hr13, ht13⟩; have L13 := Lib.hid (L12.out.pick hN hE hr13 ht13); have I13 := Lib.hid ((I12.out.keep (ht13.agree (by omega) (Nat.le_refl _))).more ht13.size); have T13 := Lib.hid ((T12.out.keep (ht13.agree (by omega) (Nat.le_refl _))).more ht13.size); have hz13 := Nat.le_trans hz12 ht13.size; clear hr13 ht13)
        refine hK.out _ _ trivial (fun _ => ?_)
        clear hK K
        refine wpAnyH_take (i := 8) (v := ?_) rfl (by kernel_rfl) (by kernel_rfl) (by kernel_rfl) (fun _ _ _ h => h) (Or.inl ⟨by rfl, ?_⟩) trivial ?_
        rotate_left
        ·
         intro V hSw; (try dsimp only at hSw); go_simp; (try with_reducible rfl)
        simp only [sA, sB, sC, Act.put, sD, sE, sF]
        refine wpAnyH_ready (rs := [12]) (by kernel_rfl) (by simp) ?_
        refine AllReadyH.cons rfl (fun K hK => ?_) (AllReadyH.nil)
        ·
         go_simp
         go_wp2_with (go_at_call 75; refine (l20Task R wr.heap.size _ _ _ _ _ _ [z8] _ _ tos w13 L13.out.rd (by omega) (by omega) (by omega) hz13 I13.out T13.out (by omega)).mono ?_; rintro e w14 ⟨xt, cst, rfl, hxt, hr14, ht14⟩; have L14 := Lib.hid (L13.out.pick hN hE hr14 ht14); have hz14 := Nat.le_trans hz13 ht14.size; have XT := Lib.hid hxt; obtain ⟨At, ct, Dt, dt, Et, et, rfl, _⟩ := hxt; clear hr14 ht14)
         refine hK.out _ _ trivial (fun _ => ?_)
         clear hK K
         refine wpAnyH_ready (rs := [13]) (by kernel_rfl) (by simp) ?_
         refine AllReadyH.cons rfl (fun K hK => ?_) (AllReadyH.nil)
         ·
          go_simp
          refine hK.out _ _ trivial (fun _ => ?_)
          clear hK K
          have L15 := Lib.hid (L14.out.more ((Below.refl _ _).alloc (Nat.le_refl _) (.cells #[.int .i64 xt.join, .int .i64 xt.split, .slice At xt.inn.length ct, .slice Dt xt.out.length dt, .slice Et xt.clear.length et, .int .i64 xt.role, .int .i64 xt.apart, .int .i64 xt.all, .int .i64 xt.need] 99)))
          refine wpAnyH_ready (rs := [14]) (by kernel_rfl) (by simp) ?_
          refine AllReadyH.cons rfl (fun K hK => ?_) (AllReadyH.nil)
          ·
           refine step_C rfl (.tmp 167) (.tmp 179) 73 rfl taskC 99 _ 120 Try.underlying73 info_task rfl (by decide) (by decide) (E + 1) _ tasks rfl L15.out.2.2.1 xt _ wr.heap.size w14.heap.size (taskC.keep XT.out (Agree.of_below ((Below.refl _ _).alloc (Nat.le_refl _) _))) (by omega) (by simp) (fun g hg => .inl (HLT.out g hg)) w14.heap.size rfl (fun j u hu => by rw [Bk.cell (Bk.new rfl)]; simpa using hu) (by simp [Value.oneCell']) (by have := HTL.out; omega) (by simp; omega) ?_
           intro v' w16 hown hb16
           have O16 := Lib.hid hown
           have B16 := Lib.hid hb16
           clear hown hb16
           refine hK.out _ _ trivial (fun _ => ?_)
           clear hK K
           have hNE : w.heap.size < E := by omega
           have L16 := Lib.hid (L15.out.put hNE hE (by omega) O16.out B16.out)
           have hE16 : Bk w16 E 75 #[.int .i64 (3 + v5), v] := (B16.out.block E (by omega)).trans L15.out.eb
           have kE := fun i => hE16.cell i
           have fE := fun i => hE16.frozen i
           obtain ⟨A16, c16, hv16, _⟩ := O16.out.rows (by have := HTL.out; simp; omega)
           subst hv16
           refine wpAnyH_take (i := 15) (v := ?_) rfl (by kernel_rfl) (by kernel_rfl) (by kernel_rfl) (fun _ _ _ h => h) (Or.inl ⟨by rfl, ?_⟩) trivial ?_
           rotate_left
           ·
            intro V hSw; (try dsimp only at hSw); go_simp; (try with_reducible rfl)
           simp only [sA, sB, sC, Act.put, sD, sE, sF]
           refine wpAnyH_ready (rs := [16]) (by kernel_rfl) (by simp) ?_
           refine AllReadyH.cons rfl (fun K hK => ?_) (AllReadyH.nil)
           ·
            go_simp
            clear kE fE hE16
            refine hK.out _ _ trivial (fun _ => ?_)
            clear hK K
            refine wpAnyH_done (by kernel_rfl) ?_ _
            go_wp2
            go_roundg (4 - (k + 1))
            case measure => omega
            case rel => exact ⟨k + 1, _, tasks ++ [xt], by omega, by omega, by go_num, by show (tasks ++ [xt]).length = k + 1; have := HTL.out; simp; omega, by
             have h := LpSt.mono (Q := P + 6 + 30 * (k + 1)) L16.out (by omega)
             rw [show (tasks ++ [xt]).length = tasks.length + 1 from by simp] at h
             exact h⟩
     ·
      go_simp
      go_wp2_with (go_at_call 47; refine (l20Rd_pick R _ 3 _ L11.out.rd (by omega) (by omega)).mono ?_; rintro e w12 ⟨v12, rfl, hv12, hu12, _, hr12, ht12⟩; have L12 := Lib.hid (L11.out.pick hN hE hr12 ht12); have I12 := Lib.hid ((I11.out.keep (ht12.agree (by omega) (Nat.le_refl _))).more ht12.size); have T12 := Lib.hid ((T11.out.keep (ht12.agree (by omega) (Nat.le_refl _))).more ht12.size); have hz12 := Nat.le_trans hz11 ht12.size; clear hr12 ht12)
      refine hK.out _ _ trivial (fun _ => ?_)
      clear hK K
      refine wpAnyH_take (i := 5) (v := ?_) rfl (by kernel_rfl) (by kernel_rfl) (by kernel_rfl) (fun _ _ _ h => h) (Or.inl ⟨by rfl, ?_⟩) trivial ?_
      rotate_left
      ·
       intro V hSw; (try dsimp only at hSw); go_simp; (try with_reducible rfl)
      simp only [sA, sB, sC, Act.put, sD, sE, sF]
      refine wpAnyH_ready (rs := [1, 7]) (by kernel_rfl) (by simp) ?_
      refine AllReadyH.cons rfl (fun K hK => ?_) (AllReadyH.cons rfl (fun K hK => ?_) (AllReadyH.nil))
      ·
       have kE := fun i => L12.out.eb.cell i
       go_simp
       clear kE
       refine hK.out _ _ trivial (fun _ => ?_)
       clear hK K
       refine wpAnyH_ready (rs := [7]) (by kernel_rfl) (by simp) ?_
       refine AllReadyH.cons rfl (fun K hK => ?_) (AllReadyH.nil)
       ·
        go_simp
        go_wp2_with (go_at_call 47; refine (l20Rd_pick R _ 3 _ L12.out.rd (by omega) (by omega)).mono ?_; rintro e w13 ⟨v13, rfl, hv13, hu13, _, hr13, ht13⟩; have L13 := Lib.hid (L12.out.pick hN hE hr13 ht13); have I13 := Lib.hid ((I12.out.keep (ht13.agree (by omega) (Nat.le_refl _))).more ht13.size); have T13 := Lib.hid ((T12.out.keep (ht13.agree (by omega) (Nat.le_refl _))).more ht13.size); have hz13 := Nat.le_trans hz12 ht13.size; clear hr13 ht13)
        refine hK.out _ _ trivial (fun _ => ?_)
        clear hK K
        refine wpAnyH_take (i := 8) (v := ?_) rfl (by kernel_rfl) (by kernel_rfl) (by kernel_rfl) (fun _ _ _ h => h) (Or.inl ⟨by rfl, ?_⟩) trivial ?_
        rotate_left
        ·
         intro V hSw; (try dsimp only at hSw); go_simp; (try with_reducible rfl)
        simp only [sA, sB, sC, Act.put, sD, sE, sF]
        refine wpAnyH_ready (rs := [12]) (by kernel_rfl) (by simp) ?_
        refine AllReadyH.cons rfl (fun K hK => ?_) (AllReadyH.nil)
        ·
         go_simp
         go_wp2_with (go_at_call 75; refine (l20Task R wr.heap.size _ _ _ _ _ _ [z8] _ _ tos w13 L13.out.rd (by omega) (by omega) (by omega) hz13 I13.out T13.out (by omega)).mono ?_; rintro e w14 ⟨xt, cst, rfl, hxt, hr14, ht14⟩; have L14 := Lib.hid (L13.out.pick hN hE hr14 ht14); have hz14 := Nat.le_trans hz13 ht14.size; have XT := Lib.hid hxt; obtain ⟨At, ct, Dt, dt, Et, et, rfl, _⟩ := hxt; clear hr14 ht14)
         refine hK.out _ _ trivial (fun _ => ?_)
         clear hK K
         refine wpAnyH_ready (rs := [13]) (by kernel_rfl) (by simp) ?_
         refine AllReadyH.cons rfl (fun K hK => ?_) (AllReadyH.nil)
         ·
          go_simp
          refine hK.out _ _ trivial (fun _ => ?_)
          clear hK K
          have L15 := Lib.hid (L14.out.more ((Below.refl _ _).alloc (Nat.le_refl _) (.cells #[.int .i64 xt.join, .int .i64 xt.split, .slice At xt.inn.length ct, .slice Dt xt.out.length dt, .slice Et xt.clear.length et, .int .i64 xt.role, .int .i64 xt.apart, .int .i64 xt.all, .int .i64 xt.need] 99)))
          refine wpAnyH_ready (rs := [14]) (by kernel_rfl) (by simp) ?_
          refine AllReadyH.cons rfl (fun K hK => ?_) (AllReadyH.nil)
          ·
           refine step_C rfl (.tmp 167) (.tmp 179) 73 rfl taskC 99 _ 120 Try.underlying73 info_task rfl (by decide) (by decide) (E + 1) _ tasks rfl L15.out.2.2.1 xt _ wr.heap.size w14.heap.size (taskC.keep XT.out (Agree.of_below ((Below.refl _ _).alloc (Nat.le_refl _) _))) (by omega) (by simp) (fun g hg => .inl (HLT.out g hg)) w14.heap.size rfl (fun j u hu => by rw [Bk.cell (Bk.new rfl)]; simpa using hu) (by simp [Value.oneCell']) (by have := HTL.out; omega) (by simp; omega) ?_
           intro v' w16 hown hb16
           have O16 := Lib.hid hown
           have B16 := Lib.hid hb16
           clear hown hb16
           refine hK.out _ _ trivial (fun _ => ?_)
           clear hK K
           have hNE : w.heap.size < E := by omega
           have L16 := Lib.hid (L15.out.put hNE hE (by omega) O16.out B16.out)
           have hE16 : Bk w16 E 75 #[.int .i64 (3 + v5), v] := (B16.out.block E (by omega)).trans L15.out.eb
           have kE := fun i => hE16.cell i
           have fE := fun i => hE16.frozen i
           obtain ⟨A16, c16, hv16, _⟩ := O16.out.rows (by have := HTL.out; simp; omega)
           subst hv16
           refine wpAnyH_take (i := 15) (v := ?_) rfl (by kernel_rfl) (by kernel_rfl) (by kernel_rfl) (fun _ _ _ h => h) (Or.inl ⟨by rfl, ?_⟩) trivial ?_
           rotate_left
           ·
            intro V hSw; (try dsimp only at hSw); go_simp; (try with_reducible rfl)
           simp only [sA, sB, sC, Act.put, sD, sE, sF]
           refine wpAnyH_ready (rs := [16]) (by kernel_rfl) (by simp) ?_
           refine AllReadyH.cons rfl (fun K hK => ?_) (AllReadyH.nil)
           ·
            go_simp
            clear kE fE hE16
            refine hK.out _ _ trivial (fun _ => ?_)
            clear hK K
            refine wpAnyH_done (by kernel_rfl) ?_ _
            go_wp2
            go_roundg (4 - (k + 1))
            case measure => omega
            case rel => exact ⟨k + 1, _, tasks ++ [xt], by omega, by omega, by go_num, by show (tasks ++ [xt]).length = k + 1; have := HTL.out; simp; omega, by
             have h := LpSt.mono (Q := P + 6 + 30 * (k + 1)) L16.out (by omega)
             rw [show (tasks ++ [xt]).length = tasks.length + 1 from by simp] at h
             exact h⟩
      ·
       go_simp
       go_wp2_with (go_at_call 47; refine (l20Rd_pick R _ 3 _ L12.out.rd (by omega) (by omega)).mono ?_; rintro e w13 ⟨v13, rfl, hv13, hu13, _, hr13, ht13⟩; have L13 := Lib.hid (L12.out.pick hN hE hr13 ht13); have I13 := Lib.hid ((I12.out.keep (ht13.agree (by omega) (Nat.le_refl _))).more ht13.size); have T13 := Lib.hid ((T12.out.keep (ht13.agree (by omega) (Nat.le_refl _))).more ht13.size); have hz13 := Nat.le_trans hz12 ht13.size; clear hr13 ht13)
       refine hK.out _ _ trivial (fun _ => ?_)
       clear hK K
       refine wpAnyH_take (i := 8) (v := ?_) rfl (by kernel_rfl) (by kernel_rfl) (by kernel_rfl) (fun _ _ _ h => h) (Or.inl ⟨by rfl, ?_⟩) trivial ?_
       rotate_left
       ·
        intro V hSw; (try dsimp only at hSw); go_simp; (try with_reducible rfl)
       simp only [sA, sB, sC, Act.put, sD, sE, sF]
       refine wpAnyH_ready (rs := [1, 12]) (by kernel_rfl) (by simp) ?_
       refine AllReadyH.cons rfl (fun K hK => ?_) (AllReadyH.cons rfl (fun K hK => ?_) (AllReadyH.nil))
       ·
        have kE := fun i => L13.out.eb.cell i
        go_simp
        clear kE
        refine hK.out _ _ trivial (fun _ => ?_)
        clear hK K
        refine wpAnyH_ready (rs := [12]) (by kernel_rfl) (by simp) ?_
        refine AllReadyH.cons rfl (fun K hK => ?_) (AllReadyH.nil)
        ·
         go_simp
         go_wp2_with (go_at_call 75; refine (l20Task R wr.heap.size _ _ _ _ _ _ [z8] _ _ tos w13 L13.out.rd (by omega) (by omega) (by omega) hz13 I13.out T13.out (by omega)).mono ?_; rintro e w14 ⟨xt, cst, rfl, hxt, hr14, ht14⟩; have L14 := Lib.hid (L13.out.pick hN hE hr14 ht14); have hz14 := Nat.le_trans hz13 ht14.size; have XT := Lib.hid hxt; obtain ⟨At, ct, Dt, dt, Et, et, rfl, _⟩ := hxt; clear hr14 ht14)
         refine hK.out _ _ trivial (fun _ => ?_)
         clear hK K
         refine wpAnyH_ready (rs := [13]) (by kernel_rfl) (by simp) ?_
         refine AllReadyH.cons rfl (fun K hK => ?_) (AllReadyH.nil)
         ·
          go_simp
          refine hK.out _ _ trivial (fun _ => ?_)
          clear hK K
          have L15 := Lib.hid (L14.out.more ((Below.refl _ _).alloc (Nat.le_refl _) (.cells #[.int .i64 xt.join, .int .i64 xt.split, .slice At xt.inn.length ct, .slice Dt xt.out.length dt, .slice Et xt.clear.length et, .int .i64 xt.role, .int .i64 xt.apart, .int .i64 xt.all, .int .i64 xt.need] 99)))
          refine wpAnyH_ready (rs := [14]) (by kernel_rfl) (by simp) ?_
          refine AllReadyH.cons rfl (fun K hK => ?_) (AllReadyH.nil)
          ·
           refine step_C rfl (.tmp 167) (.tmp 179) 73 rfl taskC 99 _ 120 Try.underlying73 info_task rfl (by decide) (by decide) (E + 1) _ tasks rfl L15.out.2.2.1 xt _ wr.heap.size w14.heap.size (taskC.keep XT.out (Agree.of_below ((Below.refl _ _).alloc (Nat.le_refl _) _))) (by omega) (by simp) (fun g hg => .inl (HLT.out g hg)) w14.heap.size rfl (fun j u hu => by rw [Bk.cell (Bk.new rfl)]; simpa using hu) (by simp [Value.oneCell']) (by have := HTL.out; omega) (by simp; omega) ?_
           intro v' w16 hown hb16
           have O16 := Lib.hid hown
           have B16 := Lib.hid hb16
           clear hown hb16
           refine hK.out _ _ trivial (fun _ => ?_)
           clear hK K
           have hNE : w.heap.size < E := by omega
           have L16 := Lib.hid (L15.out.put hNE hE (by omega) O16.out B16.out)
           have hE16 : Bk w16 E 75 #[.int .i64 (3 + v5), v] := (B16.out.block E (by omega)).trans L15.out.eb
           have kE := fun i => hE16.cell i
           have fE := fun i => hE16.frozen i
           obtain ⟨A16, c16, hv16, _⟩ := O16.out.rows (by have := HTL.out; simp; omega)
           subst hv16
           refine wpAnyH_take (i := 15) (v := ?_) rfl (by kernel_rfl) (by kernel_rfl) (by kernel_rfl) (fun _ _ _ h => h) (Or.inl ⟨by rfl, ?_⟩) trivial ?_
           rotate_left
           ·
            intro V hSw; (try dsimp only at hSw); go_simp; (try with_reducible rfl)
           simp only [sA, sB, sC, Act.put, sD, sE, sF]
           refine wpAnyH_ready (rs := [16]) (by kernel_rfl) (by simp) ?_
           refine AllReadyH.cons rfl (fun K hK => ?_) (AllReadyH.nil)
           ·
            go_simp
            clear kE fE hE16
            refine hK.out _ _ trivial (fun _ => ?_)
            clear hK K
            refine wpAnyH_done (by kernel_rfl) ?_ _
            go_wp2
            go_roundg (4 - (k + 1))
            case measure => omega
            case rel => exact ⟨k + 1, _, tasks ++ [xt], by omega, by omega, by go_num, by show (tasks ++ [xt]).length = k + 1; have := HTL.out; simp; omega, by
             have h := LpSt.mono (Q := P + 6 + 30 * (k + 1)) L16.out (by omega)
             rw [show (tasks ++ [xt]).length = tasks.length + 1 from by simp] at h
             exact h⟩
       ·
        go_simp
        go_wp2_with (go_at_call 75; refine (l20Task R wr.heap.size _ _ _ _ _ _ [z8] _ _ tos w13 L13.out.rd (by omega) (by omega) (by omega) hz13 I13.out T13.out (by omega)).mono ?_; rintro e w14 ⟨xt, cst, rfl, hxt, hr14, ht14⟩; have L14 := Lib.hid (L13.out.pick hN hE hr14 ht14); have hz14 := Nat.le_trans hz13 ht14.size; have XT := Lib.hid hxt; obtain ⟨At, ct, Dt, dt, Et, et, rfl, _⟩ := hxt; clear hr14 ht14)
        refine hK.out _ _ trivial (fun _ => ?_)
        clear hK K
        refine wpAnyH_ready (rs := [1, 13]) (by kernel_rfl) (by simp) ?_
        refine AllReadyH.cons rfl (fun K hK => ?_) (AllReadyH.cons rfl (fun K hK => ?_) (AllReadyH.nil))
        ·
         have kE := fun i => L14.out.eb.cell i
         go_simp
         clear kE
         refine hK.out _ _ trivial (fun _ => ?_)
         clear hK K
         refine wpAnyH_ready (rs := [13]) (by kernel_rfl) (by simp) ?_
         refine AllReadyH.cons rfl (fun K hK => ?_) (AllReadyH.nil)
         ·
          go_simp
          refine hK.out _ _ trivial (fun _ => ?_)
          clear hK K
          have L15 := Lib.hid (L14.out.more ((Below.refl _ _).alloc (Nat.le_refl _) (.cells #[.int .i64 xt.join, .int .i64 xt.split, .slice At xt.inn.length ct, .slice Dt xt.out.length dt, .slice Et xt.clear.length et, .int .i64 xt.role, .int .i64 xt.apart, .int .i64 xt.all, .int .i64 xt.need] 99)))
          refine wpAnyH_ready (rs := [14]) (by kernel_rfl) (by simp) ?_
          refine AllReadyH.cons rfl (fun K hK => ?_) (AllReadyH.nil)
          ·
           refine step_C rfl (.tmp 167) (.tmp 179) 73 rfl taskC 99 _ 120 Try.underlying73 info_task rfl (by decide) (by decide) (E + 1) _ tasks rfl L15.out.2.2.1 xt _ wr.heap.size w14.heap.size (taskC.keep XT.out (Agree.of_below ((Below.refl _ _).alloc (Nat.le_refl _) _))) (by omega) (by simp) (fun g hg => .inl (HLT.out g hg)) w14.heap.size rfl (fun j u hu => by rw [Bk.cell (Bk.new rfl)]; simpa using hu) (by simp [Value.oneCell']) (by have := HTL.out; omega) (by simp; omega) ?_
           intro v' w16 hown hb16
           have O16 := Lib.hid hown
           have B16 := Lib.hid hb16
           clear hown hb16
           refine hK.out _ _ trivial (fun _ => ?_)
           clear hK K
           have hNE : w.heap.size < E := by omega
           have L16 := Lib.hid (L15.out.put hNE hE (by omega) O16.out B16.out)
           have hE16 : Bk w16 E 75 #[.int .i64 (3 + v5), v] := (B16.out.block E (by omega)).trans L15.out.eb
           have kE := fun i => hE16.cell i
           have fE := fun i => hE16.frozen i
           obtain ⟨A16, c16, hv16, _⟩ := O16.out.rows (by have := HTL.out; simp; omega)
           subst hv16
           refine wpAnyH_take (i := 15) (v := ?_) rfl (by kernel_rfl) (by kernel_rfl) (by kernel_rfl) (fun _ _ _ h => h) (Or.inl ⟨by rfl, ?_⟩) trivial ?_
           rotate_left
           ·
            intro V hSw; (try dsimp only at hSw); go_simp; (try with_reducible rfl)
           simp only [sA, sB, sC, Act.put, sD, sE, sF]
           refine wpAnyH_ready (rs := [16]) (by kernel_rfl) (by simp) ?_
           refine AllReadyH.cons rfl (fun K hK => ?_) (AllReadyH.nil)
           ·
            go_simp
            clear kE fE hE16
            refine hK.out _ _ trivial (fun _ => ?_)
            clear hK K
            refine wpAnyH_done (by kernel_rfl) ?_ _
            go_wp2
            go_roundg (4 - (k + 1))
            case measure => omega
            case rel => exact ⟨k + 1, _, tasks ++ [xt], by omega, by omega, by go_num, by show (tasks ++ [xt]).length = k + 1; have := HTL.out; simp; omega, by
             have h := LpSt.mono (Q := P + 6 + 30 * (k + 1)) L16.out (by omega)
             rw [show (tasks ++ [xt]).length = tasks.length + 1 from by simp] at h
             exact h⟩
        ·
         go_simp
         refine hK.out _ _ trivial (fun _ => ?_)
         clear hK K
         have L15 := Lib.hid (L14.out.more ((Below.refl _ _).alloc (Nat.le_refl _) (.cells #[.int .i64 xt.join, .int .i64 xt.split, .slice At xt.inn.length ct, .slice Dt xt.out.length dt, .slice Et xt.clear.length et, .int .i64 xt.role, .int .i64 xt.apart, .int .i64 xt.all, .int .i64 xt.need] 99)))
         refine wpAnyH_ready (rs := [1]) (by kernel_rfl) (by simp) ?_
         refine AllReadyH.cons rfl (fun K hK => ?_) (AllReadyH.nil)
         ·
          have kE := fun i => L15.out.eb.cell i
          go_simp
          clear kE
          refine hK.out _ _ trivial (fun _ => ?_)
          clear hK K
          refine wpAnyH_ready (rs := [14]) (by kernel_rfl) (by simp) ?_
          refine AllReadyH.cons rfl (fun K hK => ?_) (AllReadyH.nil)
          ·
           refine step_C rfl (.tmp 167) (.tmp 179) 73 rfl taskC 99 _ 120 Try.underlying73 info_task rfl (by decide) (by decide) (E + 1) _ tasks rfl L15.out.2.2.1 xt _ wr.heap.size w14.heap.size (taskC.keep XT.out (Agree.of_below ((Below.refl _ _).alloc (Nat.le_refl _) _))) (by omega) (by simp) (fun g hg => .inl (HLT.out g hg)) w14.heap.size rfl (fun j u hu => by rw [Bk.cell (Bk.new rfl)]; simpa using hu) (by simp [Value.oneCell']) (by have := HTL.out; omega) (by simp; omega) ?_
           intro v' w16 hown hb16
           have O16 := Lib.hid hown
           have B16 := Lib.hid hb16
           clear hown hb16
           refine hK.out _ _ trivial (fun _ => ?_)
           clear hK K
           have hNE : w.heap.size < E := by omega
           have L16 := Lib.hid (L15.out.put hNE hE (by omega) O16.out B16.out)
           have hE16 : Bk w16 E 75 #[.int .i64 (3 + v5), v] := (B16.out.block E (by omega)).trans L15.out.eb
           have kE := fun i => hE16.cell i
           have fE := fun i => hE16.frozen i
           obtain ⟨A16, c16, hv16, _⟩ := O16.out.rows (by have := HTL.out; simp; omega)
           subst hv16
           refine wpAnyH_take (i := 15) (v := ?_) rfl (by kernel_rfl) (by kernel_rfl) (by kernel_rfl) (fun _ _ _ h => h) (Or.inl ⟨by rfl, ?_⟩) trivial ?_
           rotate_left
           ·
            intro V hSw; (try dsimp only at hSw); go_simp; (try with_reducible rfl)
           simp only [sA, sB, sC, Act.put, sD, sE, sF]
           refine wpAnyH_ready (rs := [16]) (by kernel_rfl) (by simp) ?_
           refine AllReadyH.cons rfl (fun K hK => ?_) (AllReadyH.nil)
           ·
            go_simp
            clear kE fE hE16
            refine hK.out _ _ trivial (fun _ => ?_)
            clear hK K
            refine wpAnyH_done (by kernel_rfl) ?_ _
            go_wp2
            go_roundg (4 - (k + 1))
            case measure => omega
            case rel => exact ⟨k + 1, _, tasks ++ [xt], by omega, by omega, by go_num, by show (tasks ++ [xt]).length = k + 1; have := HTL.out; simp; omega, by
             have h := LpSt.mono (Q := P + 6 + 30 * (k + 1)) L16.out (by omega)
             rw [show (tasks ++ [xt]).length = tasks.length + 1 from by simp] at h
             exact h⟩
   ·
    have hNE : w.heap.size < E := by omega
    obtain ⟨A, c, hv, _⟩ := LR.out.2.2.1.rows (by have := HTL.out; omega)
    subst hv
    have kE := fun i => LR.out.eb.cell i
    have kN := fun i => LR.out.1.cell i
    have fN := fun i => LR.out.1.frozen i
    go_wp2
    generalize hV : (World.setCell (World.setCell wr _ _) _ _) = V2
    have bV : Bk V2 w.heap.size 75 #[.int .i64 (3 + v5), .slice A tasks.length c] := by rw [← hV]; exact (LR.out.1.set 0 _).set 1 _
    have oV : OwnC taskC 99 V2 (E + 1) (.slice A tasks.length c) tasks := by rw [← hV]; exact (LR.out.2.2.1.kept (Kept.setCell (p := ⟨w.heap.size, 0, none⟩) (by show w.heap.size < E + 1; omega) _)).kept (Kept.setCell (p := ⟨w.heap.size, 1, none⟩) (by show w.heap.size < E + 1; omega) _)
    have tV : Turned R w V2 := by rw [← hV]; exact LR.out.2.2.2.2.trans' (((Below.refl _ _).setCell (p := ⟨w.heap.size, 0, none⟩) (Nat.le_refl _) _).setCell (p := ⟨w.heap.size, 1, none⟩) (Nat.le_refl _) _)
    have rV : RdB V2 R (P + 200) := by rw [← hV]; exact (LR.out.rd.low (((Below.refl w.heap.size _).setCell (p := ⟨w.heap.size, 0, none⟩) (Nat.le_refl _) _).setCell (p := ⟨w.heap.size, 1, none⟩) (Nat.le_refl _) _) hR).mono (by omega)
    clear hV kE kN fN
    have k1 := fun i => bV.cell i
    refine bodyPost_ret (v := .agg #[.int .i64 (3 + v5), .slice A tasks.length c]) (by simp [results, Try.results68, go_sem, k1]) rfl ?_
    exact ⟨⟨3 + v5, tasks⟩, _, rfl, oV.mono (by omega), ⟨by show 1 ≤ tasks.length; have := HTL.out; omega, by show tasks.length ≤ 4; have := HTL.out; omega, by show (3 : Int) ≤ 3 + v5; omega, by show 3 + v5 ≤ 7; omega⟩, rV, tV⟩
end Go.Proofs.Ytjieilicjdoaaaa
