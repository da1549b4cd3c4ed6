/- The states of l20Busy's last record, those that come first. -/
import Derived.Test.YtjieilicjdoaaaaBusySt1
import Derived.Deep.RegionHeld3
namespace Go.Proofs.Ytjieilicjdoaaaa
open Go.RowKit
open List renaming getElem_toArray → sA, getElem_cons_succ → sB, getElem_cons_zero → sC, setIfInBounds_toArray → sD, set_cons_zero → sE, set_cons_succ → sF
set_option linter.unusedSimpArgs false
set_option linter.unusedVariables false

set_option maxRecDepth 100000 in
set_option maxHeartbeats 4000000 in
theorem busy_123_0 (ops : Array Oper) (hops : regionIn 11 Try.f65.body = some ops) (Q : Exit → Act → World → Prop) {RB P1 : Nat} {w wd v : World} {xs : List GItem} {s7 u1 u2 u3 u4 u5 u6 u8 u9 u10 u11 u12 u13 u14 u15 u16 u17 u18 u19 u20 u21 u22 u23 u24 u25 u26 u27 u28 u29 u30 u31 u32 u33 u34 u35 u36 u37 u38 u39 u40 u41 u42 u43 u44 u45 u46 u47 u48 u49 u50 u51 u55 u56 u57 u60 u61 u62 u65 u66 u67 u68 u69 u70 u71 : Value} {g1 g2 g3 : Nat}
  (hpan : PanQ Q)
  (hQ : EndB Q RB P1 w xs u1 u2 u3 u4 u5 u6 u8 u9 u10 u11 u12 u13 u14 u15 u16 u17 u18 u19 u20 u21 u22 u23 u24 u25 u26 u27 u28 u29 u30 u31 u32 u33 u34 u35 u36 u37 u38 u39 u40 u41 u42 u43 u44 u45 u46 u47 u48 u49 u50 u51)
  (hRB : RB < w.heap.size) (hP : P1 ≤ 800010) (hxl : xs.length ≤ 2) (hwd : w.heap.size ≤ wd.heap.size) (hs : wd.heap.size ≤ v.heap.size)
  (O : OwnC itemC 111 v w.heap.size s7 xs) (T : Turned RB w v) (R : RdB v RB (P1 + 0)) (HLT : ∀ g, s7.ownBlock = some g → g < wd.heap.size)
  (F1 : Bk v g1 3 (iv [-1, 6, 0]).toArray) (yg1 : wd.heap.size ≤ g1)
  (F2 : Bk v g2 3 (iv [0, 5, 1]).toArray) (yg2 : wd.heap.size ≤ g2)
  (F3 : Bk v g3 3 (iv [-1, 3, 0]).toArray) (yg3 : wd.heap.size ≤ g3)
  (listed : Array Bool) (hl : listed = #[true, true, true, false, false, false, true, true, false, false, false, true, true, false, false, false, false, false, false, false]) :
  wpAnyH Try.prog .any ops Q (fun V : World => True) 13 listed { tmps := List.toArray (.pointer (some ⟨RB, 0, none⟩) :: u1 :: u2 :: u3 :: u4 :: u5 :: u6 :: s7 :: u8 :: u9 :: u10 :: u11 :: u12 :: u13 :: u14 :: u15 :: u16 :: u17 :: u18 :: u19 :: u20 :: u21 :: u22 :: u23 :: u24 :: u25 :: u26 :: u27 :: u28 :: u29 :: u30 :: u31 :: u32 :: u33 :: u34 :: u35 :: u36 :: u37 :: u38 :: u39 :: u40 :: u41 :: u42 :: u43 :: u44 :: u45 :: u46 :: u47 :: u48 :: u49 :: u50 :: u51 :: s7 :: .slice (some ⟨g1, 0, none⟩) 3 3 :: .pointer (some ⟨RB, 0, none⟩) :: u55 :: u56 :: u57 :: .slice (some ⟨g2, 0, none⟩) 3 3 :: .pointer (some ⟨RB, 0, none⟩) :: u60 :: u61 :: u62 :: .slice (some ⟨g3, 0, none⟩) 3 3 :: .pointer (some ⟨RB, 0, none⟩) :: u65 :: u66 :: u67 :: u68 :: u69 :: u70 :: u71 :: []), defers := [] } v := by
 obtain rfl := Option.some.inj (hops.symm.trans (rfl : regionIn 11 Try.f65.body = some _))
 have HOPS := Lib.hid hops
 have HQ := Lib.hid hQ
 have HPAN := Lib.hid hpan
 have HRlt := Lib.hid hRB
 have HLT := Lib.hid HLT
 have O := Lib.hid O
 have T := Lib.hid T
 have R := Lib.hid R
 have F1 := Lib.hid F1
 have F2 := Lib.hid F2
 have F3 := Lib.hid F3
 clear hops hQ hpan
 subst hl
 have hHeld : (fun V : World => True) v := trivial
 refine wpAnyH_ready (rs := [3]) (by kernel_rfl) (by simp) ?_
 refine AllReadyH.cons rfl (fun K hK => ?_) AllReadyH.nil
 ·
  go_simp
  go_wp2_with (go_at_call 47; refine (l20Rd_pick RB _ 3 _ R.out (by omega) (by omega)).mono ?_; rintro e v1 ⟨p1, rfl, hp0, hp1, _, hr, ht⟩; obtain ⟨k1, rfl⟩ := Int.eq_ofNat_of_zero_le hp0; have hk1 : k1 < 3 := by have := hp1 (by omega); omega)
  have sv1 := ht.size
  have F1 := Lib.hid (F1.out.turned ht (by have := HRlt.out; omega))
  have F2 := Lib.hid (F2.out.turned ht (by have := HRlt.out; omega))
  have F3 := Lib.hid (F3.out.turned ht (by have := HRlt.out; omega))
  have O := Lib.hid (O.out.kept (Kept.of_turned ht HRlt.out))
  have T := Lib.hid (T.out.trans ht)
  have R := Lib.hid hr
  clear hr ht hp0 hp1
  refine hK.out _ _ trivial (fun hHeld => ?_)
  clear hK K
  obtain ⟨z1, hz1⟩ : ∃ z : Int, (iv [-1, 6, 0]).toArray[k1]? = some (.int .i64 z) := lit3 _ _ _ _ hk1
  refine wpAnyH_more (S' := fun V : World => True ∧ V.cell? ⟨g1, k1, none⟩ = some (.int .i64 z1)) (fun V h => trivial) ?_
  clear hHeld
  have hHeld : (fun V : World => True ∧ V.cell? ⟨g1, k1, none⟩ = some (.int .i64 z1)) v1 := ⟨trivial, (F1.out.cell k1).trans hz1⟩
  have kz : (k1 : Int) < 3 := by omega
  refine wpAnyH_take (i := 4) (v := ?_) rfl (by kernel_rfl) (by kernel_rfl) (by kernel_rfl) (fun _ _ _ h => HPAN.out _ _ _ _ _ h) (Or.inl ⟨by rfl, ?_⟩) (by assumption) ?_
  rotate_left
  ·
   intro V hSw; (try dsimp only at hSw); go_simp; (try with_reducible rfl)
  simp only [sA, sB, sC, Act.put, sD, sE, sF]
  refine wpAnyH_take (i := 5) (v := ?_) rfl (by kernel_rfl) (by kernel_rfl) (by kernel_rfl) (fun _ _ _ h => HPAN.out _ _ _ _ _ h) (Or.inl ⟨by rfl, ?_⟩) (by assumption) ?_
  rotate_left
  ·
   intro V hSw; (try dsimp only at hSw); go_simp; (try with_reducible rfl)
  simp only [sA, sB, sC, Act.put, sD, sE, sF]
  clear kz
  exact busy_123_1 _ HOPS.out _ HPAN.out HQ.out HRlt.out hP hxl hwd (by omega) O.out T.out (R.out.mono (by omega)) HLT.out F1.out yg1 F2.out yg2 F3.out yg3 hk1 hz1 _ (by kernel_rfl)

set_option maxRecDepth 100000 in
set_option maxHeartbeats 4000000 in
theorem busy_12_1 (ops : Array Oper) (hops : regionIn 11 Try.f65.body = some ops) (Q : Exit → Act → World → Prop) {RB P1 : Nat} {w wd v : World} {xs : List GItem} {s7 u1 u2 u3 u4 u5 u6 u8 u9 u10 u11 u12 u13 u14 u15 u16 u17 u18 u19 u20 u21 u22 u23 u24 u25 u26 u27 u28 u29 u30 u31 u32 u33 u34 u35 u36 u37 u38 u39 u40 u41 u42 u43 u44 u45 u46 u47 u48 u49 u50 u51 u60 u61 u62 u63 u65 u66 u67 u68 u69 u70 u71 : Value} {g1 g2 : Nat} {k1 : Nat} {z1 : Int}
  (hpan : PanQ Q)
  (hQ : EndB Q RB P1 w xs u1 u2 u3 u4 u5 u6 u8 u9 u10 u11 u12 u13 u14 u15 u16 u17 u18 u19 u20 u21 u22 u23 u24 u25 u26 u27 u28 u29 u30 u31 u32 u33 u34 u35 u36 u37 u38 u39 u40 u41 u42 u43 u44 u45 u46 u47 u48 u49 u50 u51)
  (hRB : RB < w.heap.size) (hP : P1 ≤ 800010) (hxl : xs.length ≤ 2) (hwd : w.heap.size ≤ wd.heap.size) (hs : wd.heap.size ≤ v.heap.size)
  (O : OwnC itemC 111 v w.heap.size s7 xs) (T : Turned RB w v) (R : RdB v RB (P1 + 1)) (HLT : ∀ g, s7.ownBlock = some g → g < wd.heap.size)
  (F1 : Bk v g1 3 (iv [-1, 6, 0]).toArray) (yg1 : wd.heap.size ≤ g1)
  (F2 : Bk v g2 3 (iv [0, 5, 1]).toArray) (yg2 : wd.heap.size ≤ g2) (hk1 : k1 < 3) (hz1 : (iv [-1, 6, 0]).toArray[k1]? = some (.int .i64 z1))
  (listed : Array Bool) (hl : listed = #[true, true, true, true, true, true, true, true, false, false, false, false, true, false, false, false, false, false, false, false]) :
  wpAnyH Try.prog .any ops Q (fun V : World => True ∧ V.cell? ⟨g1, k1, none⟩ = some (.int .i64 z1)) 11 listed { tmps := List.toArray (.pointer (some ⟨RB, 0, none⟩) :: u1 :: u2 :: u3 :: u4 :: u5 :: u6 :: s7 :: u8 :: u9 :: u10 :: u11 :: u12 :: u13 :: u14 :: u15 :: u16 :: u17 :: u18 :: u19 :: u20 :: u21 :: u22 :: u23 :: u24 :: u25 :: u26 :: u27 :: u28 :: u29 :: u30 :: u31 :: u32 :: u33 :: u34 :: u35 :: u36 :: u37 :: u38 :: u39 :: u40 :: u41 :: u42 :: u43 :: u44 :: u45 :: u46 :: u47 :: u48 :: u49 :: u50 :: u51 :: s7 :: .slice (some ⟨g1, 0, none⟩) 3 3 :: .pointer (some ⟨RB, 0, none⟩) :: .int .i64 (k1 : Int) :: .pointer (some ⟨g1, k1, none⟩) :: .int .i64 z1 :: .slice (some ⟨g2, 0, none⟩) 3 3 :: .pointer (some ⟨RB, 0, none⟩) :: u60 :: u61 :: u62 :: u63 :: .pointer (some ⟨RB, 0, none⟩) :: u65 :: u66 :: u67 :: u68 :: u69 :: u70 :: u71 :: []), defers := [] } v := by
 obtain rfl := Option.some.inj (hops.symm.trans (rfl : regionIn 11 Try.f65.body = some _))
 have HOPS := Lib.hid hops
 have HQ := Lib.hid hQ
 have HPAN := Lib.hid hpan
 have HRlt := Lib.hid hRB
 have HLT := Lib.hid HLT
 have O := Lib.hid O
 have T := Lib.hid T
 have R := Lib.hid R
 have F1 := Lib.hid F1
 have F2 := Lib.hid F2
 clear hops hQ hpan
 subst hl
 have hHeld : (fun V : World => True ∧ V.cell? ⟨g1, k1, none⟩ = some (.int .i64 z1)) v := ⟨trivial, (F1.out.cell k1).trans hz1⟩
 refine wpAnyH_ready (rs := [8, 11]) (by kernel_rfl) (by simp) ?_
 refine AllReadyH.cons rfl (fun K hK => ?_) (AllReadyH.cons rfl (fun K hK => ?_) AllReadyH.nil)
 ·
  go_simp
  go_wp2_with (go_at_call 47; refine (l20Rd_pick RB _ 3 _ R.out (by omega) (by omega)).mono ?_; rintro e v1 ⟨p2, rfl, hp0, hp1, _, hr, ht⟩; obtain ⟨k2, rfl⟩ := Int.eq_ofNat_of_zero_le hp0; have hk2 : k2 < 3 := by have := hp1 (by omega); omega)
  have sv1 := ht.size
  have F1 := Lib.hid (F1.out.turned ht (by have := HRlt.out; omega))
  have F2 := Lib.hid (F2.out.turned ht (by have := HRlt.out; omega))
  have O := Lib.hid (O.out.kept (Kept.of_turned ht HRlt.out))
  have T := Lib.hid (T.out.trans ht)
  have R := Lib.hid hr
  clear hr ht hp0 hp1
  refine hK.out _ _ ⟨trivial, (F1.out.cell k1).trans hz1⟩ (fun hHeld => ?_)
  clear hK K
  obtain ⟨z2, hz2⟩ : ∃ z : Int, (iv [0, 5, 1]).toArray[k2]? = some (.int .i64 z) := lit3 _ _ _ _ hk2
  refine wpAnyH_more (S' := fun V : World => True ∧ V.cell? ⟨g1, k1, none⟩ = some (.int .i64 z1) ∧ V.cell? ⟨g2, k2, none⟩ = some (.int .i64 z2)) (fun V h => ⟨trivial, h.2.1⟩) ?_
  clear hHeld
  have hHeld : (fun V : World => True ∧ V.cell? ⟨g1, k1, none⟩ = some (.int .i64 z1) ∧ V.cell? ⟨g2, k2, none⟩ = some (.int .i64 z2)) v1 := ⟨trivial, (F1.out.cell k1).trans hz1, (F2.out.cell k2).trans hz2⟩
  have kz : (k2 : Int) < 3 := by omega
  refine wpAnyH_take (i := 9) (v := ?_) rfl (by kernel_rfl) (by kernel_rfl) (by kernel_rfl) (fun _ _ _ h => HPAN.out _ _ _ _ _ h) (Or.inl ⟨by rfl, ?_⟩) (by assumption) ?_
  rotate_left
  ·
   intro V hSw; (try dsimp only at hSw); go_simp; (try with_reducible rfl)
  simp only [sA, sB, sC, Act.put, sD, sE, sF]
  refine wpAnyH_take (i := 10) (v := ?_) rfl (by kernel_rfl) (by kernel_rfl) (by kernel_rfl) (fun _ _ _ h => HPAN.out _ _ _ _ _ h) (Or.inl ⟨by rfl, ?_⟩) (by assumption) ?_
  rotate_left
  ·
   intro V hSw; (try dsimp only at hSw); go_simp; (try with_reducible rfl)
  simp only [sA, sB, sC, Act.put, sD, sE, sF]
  clear kz
  exact busy_12_2 _ HOPS.out _ HPAN.out HQ.out HRlt.out hP hxl hwd (by omega) O.out T.out (R.out.mono (by omega)) HLT.out F1.out yg1 F2.out yg2 hk1 hk2 hz1 hz2 _ (by kernel_rfl)
 ·
  go_simp
  obtain ⟨v1, hV⟩ : ∃ V, V = World.alloc v (.cells #[.int .i64 (-1), .int .i64 3, .int .i64 0] 3) := ⟨_, rfl⟩
  have hb : Below v.heap.size v v1 := by rw [hV]; exact (Below.refl _ _).alloc (Nat.le_refl _) _
  have sv1 := hb.size
  obtain ⟨g3, hg3⟩ : ∃ g, g = v.heap.size := ⟨_, rfl⟩
  have F3 : Hid (Bk v1 g3 3 (iv [-1, 3, 0]).toArray) := by show Bk _ _ _ _; rw [hV, hg3]; exact Bk.new rfl
  have F1 := Lib.hid (F1.out.later hb)
  have F2 := Lib.hid (F2.out.later hb)
  have O := Lib.hid (O.out.later hb)
  have T := Lib.hid (T.out.then hb)
  have R := Lib.hid (R.out.low hb R.out.lt)
  rw [← hV, ← hg3]
  have yg3 : wd.heap.size ≤ g3 := by omega
  clear hV hb hg3
  refine hK.out _ _ ⟨trivial, (F1.out.cell k1).trans hz1⟩ (fun hHeld => ?_)
  clear hK K
  exact busy_123_1 _ HOPS.out _ HPAN.out HQ.out HRlt.out hP hxl hwd (by omega) O.out T.out (R.out.mono (by omega)) HLT.out F1.out yg1 F2.out yg2 F3.out yg3 hk1 hz1 _ (by kernel_rfl)

set_option maxRecDepth 100000 in
set_option maxHeartbeats 4000000 in
theorem busy_13_1 (ops : Array Oper) (hops : regionIn 11 Try.f65.body = some ops) (Q : Exit → Act → World → Prop) {RB P1 : Nat} {w wd v : World} {xs : List GItem} {s7 u1 u2 u3 u4 u5 u6 u8 u9 u10 u11 u12 u13 u14 u15 u16 u17 u18 u19 u20 u21 u22 u23 u24 u25 u26 u27 u28 u29 u30 u31 u32 u33 u34 u35 u36 u37 u38 u39 u40 u41 u42 u43 u44 u45 u46 u47 u48 u49 u50 u51 u58 u60 u61 u62 u65 u66 u67 u68 u69 u70 u71 : Value} {g1 g3 : Nat} {k1 : Nat} {z1 : Int}
  (hpan : PanQ Q)
  (hQ : EndB Q RB P1 w xs u1 u2 u3 u4 u5 u6 u8 u9 u10 u11 u12 u13 u14 u15 u16 u17 u18 u19 u20 u21 u22 u23 u24 u25 u26 u27 u28 u29 u30 u31 u32 u33 u34 u35 u36 u37 u38 u39 u40 u41 u42 u43 u44 u45 u46 u47 u48 u49 u50 u51)
  (hRB : RB < w.heap.size) (hP : P1 ≤ 800010) (hxl : xs.length ≤ 2) (hwd : w.heap.size ≤ wd.heap.size) (hs : wd.heap.size ≤ v.heap.size)
  (O : OwnC itemC 111 v w.heap.size s7 xs) (T : Turned RB w v) (R : RdB v RB (P1 + 1)) (HLT : ∀ g, s7.ownBlock = some g → g < wd.heap.size)
  (F1 : Bk v g1 3 (iv [-1, 6, 0]).toArray) (yg1 : wd.heap.size ≤ g1)
  (F3 : Bk v g3 3 (iv [-1, 3, 0]).toArray) (yg3 : wd.heap.size ≤ g3) (hk1 : k1 < 3) (hz1 : (iv [-1, 6, 0]).toArray[k1]? = some (.int .i64 z1))
  (listed : Array Bool) (hl : listed = #[true, true, true, true, true, true, false, true, false, false, false, true, true, false, false, false, false, false, false, false]) :
  wpAnyH Try.prog .any ops Q (fun V : World => True ∧ V.cell? ⟨g1, k1, none⟩ = some (.int .i64 z1)) 11 listed { tmps := List.toArray (.pointer (some ⟨RB, 0, none⟩) :: u1 :: u2 :: u3 :: u4 :: u5 :: u6 :: s7 :: u8 :: u9 :: u10 :: u11 :: u12 :: u13 :: u14 :: u15 :: u16 :: u17 :: u18 :: u19 :: u20 :: u21 :: u22 :: u23 :: u24 :: u25 :: u26 :: u27 :: u28 :: u29 :: u30 :: u31 :: u32 :: u33 :: u34 :: u35 :: u36 :: u37 :: u38 :: u39 :: u40 :: u41 :: u42 :: u43 :: u44 :: u45 :: u46 :: u47 :: u48 :: u49 :: u50 :: u51 :: s7 :: .slice (some ⟨g1, 0, none⟩) 3 3 :: .pointer (some ⟨RB, 0, none⟩) :: .int .i64 (k1 : Int) :: .pointer (some ⟨g1, k1, none⟩) :: .int .i64 z1 :: u58 :: .pointer (some ⟨RB, 0, none⟩) :: u60 :: u61 :: u62 :: .slice (some ⟨g3, 0, none⟩) 3 3 :: .pointer (some ⟨RB, 0, none⟩) :: u65 :: u66 :: u67 :: u68 :: u69 :: u70 :: u71 :: []), defers := [] } v := by
 obtain rfl := Option.some.inj (hops.symm.trans (rfl : regionIn 11 Try.f65.body = some _))
 have HOPS := Lib.hid hops
 have HQ := Lib.hid hQ
 have HPAN := Lib.hid hpan
 have HRlt := Lib.hid hRB
 have HLT := Lib.hid HLT
 have O := Lib.hid O
 have T := Lib.hid T
 have R := Lib.hid R
 have F1 := Lib.hid F1
 have F3 := Lib.hid F3
 clear hops hQ hpan
 subst hl
 have hHeld : (fun V : World => True ∧ V.cell? ⟨g1, k1, none⟩ = some (.int .i64 z1)) v := ⟨trivial, (F1.out.cell k1).trans hz1⟩
 refine wpAnyH_ready (rs := [6, 8]) (by kernel_rfl) (by simp) ?_
 refine AllReadyH.cons rfl (fun K hK => ?_) (AllReadyH.cons rfl (fun K hK => ?_) AllReadyH.nil)
 ·
  go_simp
  obtain ⟨v1, hV⟩ : ∃ V, V = World.alloc v (.cells #[.int .i64 0, .int .i64 5, .int .i64 1] 3) := ⟨_, rfl⟩
  have hb : Below v.heap.size v v1 := by rw [hV]; exact (Below.refl _ _).alloc (Nat.le_refl _) _
  have sv1 := hb.size
  obtain ⟨g2, hg2⟩ : ∃ g, g = v.heap.size := ⟨_, rfl⟩
  have F2 : Hid (Bk v1 g2 3 (iv [0, 5, 1]).toArray) := by show Bk _ _ _ _; rw [hV, hg2]; exact Bk.new rfl
  have F1 := Lib.hid (F1.out.later hb)
  have F3 := Lib.hid (F3.out.later hb)
  have O := Lib.hid (O.out.later hb)
  have T := Lib.hid (T.out.then hb)
  have R := Lib.hid (R.out.low hb R.out.lt)
  rw [← hV, ← hg2]
  have yg2 : wd.heap.size ≤ g2 := by omega
  clear hV hb hg2
  refine hK.out _ _ ⟨trivial, (F1.out.cell k1).trans hz1⟩ (fun hHeld => ?_)
  clear hK K
  exact busy_123_1 _ HOPS.out _ HPAN.out HQ.out HRlt.out hP hxl hwd (by omega) O.out T.out (R.out.mono (by omega)) HLT.out F1.out yg1 F2.out yg2 F3.out yg3 hk1 hz1 _ (by kernel_rfl)
 ·
  go_simp
  go_wp2_with (go_at_call 47; refine (l20Rd_pick RB _ 3 _ R.out (by omega) (by omega)).mono ?_; rintro e v1 ⟨p2, rfl, hp0, hp1, _, hr, ht⟩; obtain ⟨k2, rfl⟩ := Int.eq_ofNat_of_zero_le hp0; have hk2 : k2 < 3 := by have := hp1 (by omega); omega)
  have sv1 := ht.size
  have F1 := Lib.hid (F1.out.turned ht (by have := HRlt.out; omega))
  have F3 := Lib.hid (F3.out.turned ht (by have := HRlt.out; omega))
  have O := Lib.hid (O.out.kept (Kept.of_turned ht HRlt.out))
  have T := Lib.hid (T.out.trans ht)
  have R := Lib.hid hr
  clear hr ht hp0 hp1
  refine hK.out _ _ ⟨trivial, (F1.out.cell k1).trans hz1⟩ (fun hHeld => ?_)
  clear hK K
  exact busy_13_2 _ HOPS.out _ HPAN.out HQ.out HRlt.out hP hxl hwd (by omega) O.out T.out (R.out.mono (by omega)) HLT.out F1.out yg1 F3.out yg3 hk1 hk2 hz1 _ (by kernel_rfl)

set_option maxRecDepth 100000 in
set_option maxHeartbeats 4000000 in
theorem busy_23_1 (ops : Array Oper) (hops : regionIn 11 Try.f65.body = some ops) (Q : Exit → Act → World → Prop) {RB P1 : Nat} {w wd v : World} {xs : List GItem} {s7 u1 u2 u3 u4 u5 u6 u8 u9 u10 u11 u12 u13 u14 u15 u16 u17 u18 u19 u20 u21 u22 u23 u24 u25 u26 u27 u28 u29 u30 u31 u32 u33 u34 u35 u36 u37 u38 u39 u40 u41 u42 u43 u44 u45 u46 u47 u48 u49 u50 u51 u53 u56 u57 u60 u61 u62 u65 u66 u67 u68 u69 u70 u71 : Value} {g2 g3 : Nat} {k1 : Nat}
  (hpan : PanQ Q)
  (hQ : EndB Q RB P1 w xs u1 u2 u3 u4 u5 u6 u8 u9 u10 u11 u12 u13 u14 u15 u16 u17 u18 u19 u20 u21 u22 u23 u24 u25 u26 u27 u28 u29 u30 u31 u32 u33 u34 u35 u36 u37 u38 u39 u40 u41 u42 u43 u44 u45 u46 u47 u48 u49 u50 u51)
  (hRB : RB < w.heap.size) (hP : P1 ≤ 800010) (hxl : xs.length ≤ 2) (hwd : w.heap.size ≤ wd.heap.size) (hs : wd.heap.size ≤ v.heap.size)
  (O : OwnC itemC 111 v w.heap.size s7 xs) (T : Turned RB w v) (R : RdB v RB (P1 + 1)) (HLT : ∀ g, s7.ownBlock = some g → g < wd.heap.size)
  (F2 : Bk v g2 3 (iv [0, 5, 1]).toArray) (yg2 : wd.heap.size ≤ g2)
  (F3 : Bk v g3 3 (iv [-1, 3, 0]).toArray) (yg3 : wd.heap.size ≤ g3) (hk1 : k1 < 3)
  (listed : Array Bool) (hl : listed = #[true, false, true, true, false, false, true, true, false, false, false, true, true, false, false, false, false, false, false, false]) :
  wpAnyH Try.prog .any ops Q (fun V : World => True) 13 listed { tmps := List.toArray (.pointer (some ⟨RB, 0, none⟩) :: u1 :: u2 :: u3 :: u4 :: u5 :: u6 :: s7 :: u8 :: u9 :: u10 :: u11 :: u12 :: u13 :: u14 :: u15 :: u16 :: u17 :: u18 :: u19 :: u20 :: u21 :: u22 :: u23 :: u24 :: u25 :: u26 :: u27 :: u28 :: u29 :: u30 :: u31 :: u32 :: u33 :: u34 :: u35 :: u36 :: u37 :: u38 :: u39 :: u40 :: u41 :: u42 :: u43 :: u44 :: u45 :: u46 :: u47 :: u48 :: u49 :: u50 :: u51 :: s7 :: u53 :: .pointer (some ⟨RB, 0, none⟩) :: .int .i64 (k1 : Int) :: u56 :: u57 :: .slice (some ⟨g2, 0, none⟩) 3 3 :: .pointer (some ⟨RB, 0, none⟩) :: u60 :: u61 :: u62 :: .slice (some ⟨g3, 0, none⟩) 3 3 :: .pointer (some ⟨RB, 0, none⟩) :: u65 :: u66 :: u67 :: u68 :: u69 :: u70 :: u71 :: []), defers := [] } v := by
 obtain rfl := Option.some.inj (hops.symm.trans (rfl : regionIn 11 Try.f65.body = some _))
 have HOPS := Lib.hid hops
 have HQ := Lib.hid hQ
 have HPAN := Lib.hid hpan
 have HRlt := Lib.hid hRB
 have HLT := Lib.hid HLT
 have O := Lib.hid O
 have T := Lib.hid T
 have R := Lib.hid R
 have F2 := Lib.hid F2
 have F3 := Lib.hid F3
 clear hops hQ hpan
 subst hl
 have hHeld : (fun V : World => True) v := trivial
 refine wpAnyH_ready (rs := [1, 8]) (by kernel_rfl) (by simp) ?_
 refine AllReadyH.cons rfl (fun K hK => ?_) (AllReadyH.cons rfl (fun K hK => ?_) AllReadyH.nil)
 ·
  go_simp
  obtain ⟨v1, hV⟩ : ∃ V, V = World.alloc v (.cells #[.int .i64 (-1), .int .i64 6, .int .i64 0] 3) := ⟨_, rfl⟩
  have hb : Below v.heap.size v v1 := by rw [hV]; exact (Below.refl _ _).alloc (Nat.le_refl _) _
  have sv1 := hb.size
  obtain ⟨g1, hg1⟩ : ∃ g, g = v.heap.size := ⟨_, rfl⟩
  have F1 : Hid (Bk v1 g1 3 (iv [-1, 6, 0]).toArray) := by show Bk _ _ _ _; rw [hV, hg1]; exact Bk.new rfl
  have F2 := Lib.hid (F2.out.later hb)
  have F3 := Lib.hid (F3.out.later hb)
  have O := Lib.hid (O.out.later hb)
  have T := Lib.hid (T.out.then hb)
  have R := Lib.hid (R.out.low hb R.out.lt)
  rw [← hV, ← hg1]
  have yg1 : wd.heap.size ≤ g1 := by omega
  clear hV hb hg1
  refine hK.out _ _ trivial (fun hHeld => ?_)
  clear hK K
  obtain ⟨z1, hz1⟩ : ∃ z : Int, (iv [-1, 6, 0]).toArray[k1]? = some (.int .i64 z) := lit3 _ _ _ _ hk1
  refine wpAnyH_more (S' := fun V : World => True ∧ V.cell? ⟨g1, k1, none⟩ = some (.int .i64 z1)) (fun V h => trivial) ?_
  clear hHeld
  have hHeld : (fun V : World => True ∧ V.cell? ⟨g1, k1, none⟩ = some (.int .i64 z1)) v1 := ⟨trivial, (F1.out.cell k1).trans hz1⟩
  have kz : (k1 : Int) < 3 := by omega
  refine wpAnyH_take (i := 4) (v := ?_) rfl (by kernel_rfl) (by kernel_rfl) (by kernel_rfl) (fun _ _ _ h => HPAN.out _ _ _ _ _ h) (Or.inl ⟨by rfl, ?_⟩) (by assumption) ?_
  rotate_left
  ·
   intro V hSw; (try dsimp only at hSw); go_simp; (try with_reducible rfl)
  simp only [sA, sB, sC, Act.put, sD, sE, sF]
  refine wpAnyH_take (i := 5) (v := ?_) rfl (by kernel_rfl) (by kernel_rfl) (by kernel_rfl) (fun _ _ _ h => HPAN.out _ _ _ _ _ h) (Or.inl ⟨by rfl, ?_⟩) (by assumption) ?_
  rotate_left
  ·
   intro V hSw; (try dsimp only at hSw); go_simp; (try with_reducible rfl)
  simp only [sA, sB, sC, Act.put, sD, sE, sF]
  clear kz
  exact busy_123_1 _ HOPS.out _ HPAN.out HQ.out HRlt.out hP hxl hwd (by omega) O.out T.out (R.out.mono (by omega)) HLT.out F1.out yg1 F2.out yg2 F3.out yg3 hk1 hz1 _ (by kernel_rfl)
 ·
  go_simp
  go_wp2_with (go_at_call 47; refine (l20Rd_pick RB _ 3 _ R.out (by omega) (by omega)).mono ?_; rintro e v1 ⟨p2, rfl, hp0, hp1, _, hr, ht⟩; obtain ⟨k2, rfl⟩ := Int.eq_ofNat_of_zero_le hp0; have hk2 : k2 < 3 := by have := hp1 (by omega); omega)
  have sv1 := ht.size
  have F2 := Lib.hid (F2.out.turned ht (by have := HRlt.out; omega))
  have F3 := Lib.hid (F3.out.turned ht (by have := HRlt.out; omega))
  have O := Lib.hid (O.out.kept (Kept.of_turned ht HRlt.out))
  have T := Lib.hid (T.out.trans ht)
  have R := Lib.hid hr
  clear hr ht hp0 hp1
  refine hK.out _ _ trivial (fun hHeld => ?_)
  clear hK K
  obtain ⟨z2, hz2⟩ : ∃ z : Int, (iv [0, 5, 1]).toArray[k2]? = some (.int .i64 z) := lit3 _ _ _ _ hk2
  refine wpAnyH_more (S' := fun V : World => True ∧ V.cell? ⟨g2, k2, none⟩ = some (.int .i64 z2)) (fun V h => trivial) ?_
  clear hHeld
  have hHeld : (fun V : World => True ∧ V.cell? ⟨g2, k2, none⟩ = some (.int .i64 z2)) v1 := ⟨trivial, (F2.out.cell k2).trans hz2⟩
  have kz : (k2 : Int) < 3 := by omega
  refine wpAnyH_take (i := 9) (v := ?_) rfl (by kernel_rfl) (by kernel_rfl) (by kernel_rfl) (fun _ _ _ h => HPAN.out _ _ _ _ _ h) (Or.inl ⟨by rfl, ?_⟩) (by assumption) ?_
  rotate_left
  ·
   intro V hSw; (try dsimp only at hSw); go_simp; (try with_reducible rfl)
  simp only [sA, sB, sC, Act.put, sD, sE, sF]
  refine wpAnyH_take (i := 10) (v := ?_) rfl (by kernel_rfl) (by kernel_rfl) (by kernel_rfl) (fun _ _ _ h => HPAN.out _ _ _ _ _ h) (Or.inl ⟨by rfl, ?_⟩) (by assumption) ?_
  rotate_left
  ·
   intro V hSw; (try dsimp only at hSw); go_simp; (try with_reducible rfl)
  simp only [sA, sB, sC, Act.put, sD, sE, sF]
  clear kz
  exact busy_23_2 _ HOPS.out _ HPAN.out HQ.out HRlt.out hP hxl hwd (by omega) O.out T.out (R.out.mono (by omega)) HLT.out F2.out yg2 F3.out yg3 hk1 hk2 hz2 _ (by kernel_rfl)

set_option maxRecDepth 100000 in
set_option maxHeartbeats 4000000 in
theorem busy_1_2 (ops : Array Oper) (hops : regionIn 11 Try.f65.body = some ops) (Q : Exit → Act → World → Prop) {RB P1 : Nat} {w wd v : World} {xs : List GItem} {s7 u1 u2 u3 u4 u5 u6 u8 u9 u10 u11 u12 u13 u14 u15 u16 u17 u18 u19 u20 u21 u22 u23 u24 u25 u26 u27 u28 u29 u30 u31 u32 u33 u34 u35 u36 u37 u38 u39 u40 u41 u42 u43 u44 u45 u46 u47 u48 u49 u50 u51 u58 u61 u62 u63 u65 u66 u67 u68 u69 u70 u71 : Value} {g1 : Nat} {k1 k2 : Nat} {z1 : Int}
  (hpan : PanQ Q)
  (hQ : EndB Q RB P1 w xs u1 u2 u3 u4 u5 u6 u8 u9 u10 u11 u12 u13 u14 u15 u16 u17 u18 u19 u20 u21 u22 u23 u24 u25 u26 u27 u28 u29 u30 u31 u32 u33 u34 u35 u36 u37 u38 u39 u40 u41 u42 u43 u44 u45 u46 u47 u48 u49 u50 u51)
  (hRB : RB < w.heap.size) (hP : P1 ≤ 800010) (hxl : xs.length ≤ 2) (hwd : w.heap.size ≤ wd.heap.size) (hs : wd.heap.size ≤ v.heap.size)
  (O : OwnC itemC 111 v w.heap.size s7 xs) (T : Turned RB w v) (R : RdB v RB (P1 + 2)) (HLT : ∀ g, s7.ownBlock = some g → g < wd.heap.size)
  (F1 : Bk v g1 3 (iv [-1, 6, 0]).toArray) (yg1 : wd.heap.size ≤ g1) (hk1 : k1 < 3) (hk2 : k2 < 3) (hz1 : (iv [-1, 6, 0]).toArray[k1]? = some (.int .i64 z1))
  (listed : Array Bool) (hl : listed = #[true, true, true, true, true, true, false, true, true, false, false, false, true, false, false, false, false, false, false, false]) :
  wpAnyH Try.prog .any ops Q (fun V : World => True ∧ V.cell? ⟨g1, k1, none⟩ = some (.int .i64 z1)) 11 listed { tmps := List.toArray (.pointer (some ⟨RB, 0, none⟩) :: u1 :: u2 :: u3 :: u4 :: u5 :: u6 :: s7 :: u8 :: u9 :: u10 :: u11 :: u12 :: u13 :: u14 :: u15 :: u16 :: u17 :: u18 :: u19 :: u20 :: u21 :: u22 :: u23 :: u24 :: u25 :: u26 :: u27 :: u28 :: u29 :: u30 :: u31 :: u32 :: u33 :: u34 :: u35 :: u36 :: u37 :: u38 :: u39 :: u40 :: u41 :: u42 :: u43 :: u44 :: u45 :: u46 :: u47 :: u48 :: u49 :: u50 :: u51 :: s7 :: .slice (some ⟨g1, 0, none⟩) 3 3 :: .pointer (some ⟨RB, 0, none⟩) :: .int .i64 (k1 : Int) :: .pointer (some ⟨g1, k1, none⟩) :: .int .i64 z1 :: u58 :: .pointer (some ⟨RB, 0, none⟩) :: .int .i64 (k2 : Int) :: u61 :: u62 :: u63 :: .pointer (some ⟨RB, 0, none⟩) :: u65 :: u66 :: u67 :: u68 :: u69 :: u70 :: u71 :: []), defers := [] } v := by
 obtain rfl := Option.some.inj (hops.symm.trans (rfl : regionIn 11 Try.f65.body = some _))
 have HOPS := Lib.hid hops
 have HQ := Lib.hid hQ
 have HPAN := Lib.hid hpan
 have HRlt := Lib.hid hRB
 have HLT := Lib.hid HLT
 have O := Lib.hid O
 have T := Lib.hid T
 have R := Lib.hid R
 have F1 := Lib.hid F1
 clear hops hQ hpan
 subst hl
 have hHeld : (fun V : World => True ∧ V.cell? ⟨g1, k1, none⟩ = some (.int .i64 z1)) v := ⟨trivial, (F1.out.cell k1).trans hz1⟩
 refine wpAnyH_ready (rs := [6, 11, 13]) (by kernel_rfl) (by simp) ?_
 refine AllReadyH.cons rfl (fun K hK => ?_) (AllReadyH.cons rfl (fun K hK => ?_) (AllReadyH.cons rfl (fun K hK => ?_) AllReadyH.nil))
 ·
  go_simp
  obtain ⟨v1, hV⟩ : ∃ V, V = World.alloc v (.cells #[.int .i64 0, .int .i64 5, .int .i64 1] 3) := ⟨_, rfl⟩
  have hb : Below v.heap.size v v1 := by rw [hV]; exact (Below.refl _ _).alloc (Nat.le_refl _) _
  have sv1 := hb.size
  obtain ⟨g2, hg2⟩ : ∃ g, g = v.heap.size := ⟨_, rfl⟩
  have F2 : Hid (Bk v1 g2 3 (iv [0, 5, 1]).toArray) := by show Bk _ _ _ _; rw [hV, hg2]; exact Bk.new rfl
  have F1 := Lib.hid (F1.out.later hb)
  have O := Lib.hid (O.out.later hb)
  have T := Lib.hid (T.out.then hb)
  have R := Lib.hid (R.out.low hb R.out.lt)
  rw [← hV, ← hg2]
  have yg2 : wd.heap.size ≤ g2 := by omega
  clear hV hb hg2
  refine hK.out _ _ ⟨trivial, (F1.out.cell k1).trans hz1⟩ (fun hHeld => ?_)
  clear hK K
  obtain ⟨z2, hz2⟩ : ∃ z : Int, (iv [0, 5, 1]).toArray[k2]? = some (.int .i64 z) := lit3 _ _ _ _ hk2
  refine wpAnyH_more (S' := fun V : World => True ∧ V.cell? ⟨g1, k1, none⟩ = some (.int .i64 z1) ∧ V.cell? ⟨g2, k2, none⟩ = some (.int .i64 z2)) (fun V h => ⟨trivial, h.2.1⟩) ?_
  clear hHeld
  have hHeld : (fun V : World => True ∧ V.cell? ⟨g1, k1, none⟩ = some (.int .i64 z1) ∧ V.cell? ⟨g2, k2, none⟩ = some (.int .i64 z2)) v1 := ⟨trivial, (F1.out.cell k1).trans hz1, (F2.out.cell k2).trans hz2⟩
  have kz : (k2 : Int) < 3 := by omega
  refine wpAnyH_take (i := 9) (v := ?_) rfl (by kernel_rfl) (by kernel_rfl) (by kernel_rfl) (fun _ _ _ h => HPAN.out _ _ _ _ _ h) (Or.inl ⟨by rfl, ?_⟩) (by assumption) ?_
  rotate_left
  ·
   intro V hSw; (try dsimp only at hSw); go_simp; (try with_reducible rfl)
  simp only [sA, sB, sC, Act.put, sD, sE, sF]
  refine wpAnyH_take (i := 10) (v := ?_) rfl (by kernel_rfl) (by kernel_rfl) (by kernel_rfl) (fun _ _ _ h => HPAN.out _ _ _ _ _ h) (Or.inl ⟨by rfl, ?_⟩) (by assumption) ?_
  rotate_left
  ·
   intro V hSw; (try dsimp only at hSw); go_simp; (try with_reducible rfl)
  simp only [sA, sB, sC, Act.put, sD, sE, sF]
  clear kz
  exact busy_12_2 _ HOPS.out _ HPAN.out HQ.out HRlt.out hP hxl hwd (by omega) O.out T.out (R.out.mono (by omega)) HLT.out F1.out yg1 F2.out yg2 hk1 hk2 hz1 hz2 _ (by kernel_rfl)
 ·
  go_simp
  obtain ⟨v1, hV⟩ : ∃ V, V = World.alloc v (.cells #[.int .i64 (-1), .int .i64 3, .int .i64 0] 3) := ⟨_, rfl⟩
  have hb : Below v.heap.size v v1 := by rw [hV]; exact (Below.refl _ _).alloc (Nat.le_refl _) _
  have sv1 := hb.size
  obtain ⟨g3, hg3⟩ : ∃ g, g = v.heap.size := ⟨_, rfl⟩
  have F3 : Hid (Bk v1 g3 3 (iv [-1, 3, 0]).toArray) := by show Bk _ _ _ _; rw [hV, hg3]; exact Bk.new rfl
  have F1 := Lib.hid (F1.out.later hb)
  have O := Lib.hid (O.out.later hb)
  have T := Lib.hid (T.out.then hb)
  have R := Lib.hid (R.out.low hb R.out.lt)
  rw [← hV, ← hg3]
  have yg3 : wd.heap.size ≤ g3 := by omega
  clear hV hb hg3
  refine hK.out _ _ ⟨trivial, (F1.out.cell k1).trans hz1⟩ (fun hHeld => ?_)
  clear hK K
  exact busy_13_2 _ HOPS.out _ HPAN.out HQ.out HRlt.out hP hxl hwd (by omega) O.out T.out (R.out.mono (by omega)) HLT.out F1.out yg1 F3.out yg3 hk1 hk2 hz1 _ (by kernel_rfl)
 ·
  go_simp
  go_wp2_with (go_at_call 47; refine (l20Rd_pick RB _ 3 _ R.out (by omega) (by omega)).mono ?_; rintro e v1 ⟨p3, rfl, hp0, hp1, _, hr, ht⟩; obtain ⟨k3, rfl⟩ := Int.eq_ofNat_of_zero_le hp0; have hk3 : k3 < 3 := by have := hp1 (by omega); omega)
  have sv1 := ht.size
  have F1 := Lib.hid (F1.out.turned ht (by have := HRlt.out; omega))
  have O := Lib.hid (O.out.kept (Kept.of_turned ht HRlt.out))
  have T := Lib.hid (T.out.trans ht)
  have R := Lib.hid hr
  clear hr ht hp0 hp1
  refine hK.out _ _ ⟨trivial, (F1.out.cell k1).trans hz1⟩ (fun hHeld => ?_)
  clear hK K
  exact busy_1_3 _ HOPS.out _ HPAN.out HQ.out HRlt.out hP hxl hwd (by omega) O.out T.out (R.out.mono (by omega)) HLT.out F1.out yg1 hk1 hk2 hk3 hz1 _ (by kernel_rfl)

set_option maxRecDepth 100000 in
set_option maxHeartbeats 4000000 in
theorem busy_2_2 (ops : Array Oper) (hops : regionIn 11 Try.f65.body = some ops) (Q : Exit → Act → World → Prop) {RB P1 : Nat} {w wd v : World} {xs : List GItem} {s7 u1 u2 u3 u4 u5 u6 u8 u9 u10 u11 u12 u13 u14 u15 u16 u17 u18 u19 u20 u21 u22 u23 u24 u25 u26 u27 u28 u29 u30 u31 u32 u33 u34 u35 u36 u37 u38 u39 u40 u41 u42 u43 u44 u45 u46 u47 u48 u49 u50 u51 u53 u56 u57 u63 u65 u66 u67 u68 u69 u70 u71 : Value} {g2 : Nat} {k1 k2 : Nat} {z2 : Int}
  (hpan : PanQ Q)
  (hQ : EndB Q RB P1 w xs u1 u2 u3 u4 u5 u6 u8 u9 u10 u11 u12 u13 u14 u15 u16 u17 u18 u19 u20 u21 u22 u23 u24 u25 u26 u27 u28 u29 u30 u31 u32 u33 u34 u35 u36 u37 u38 u39 u40 u41 u42 u43 u44 u45 u46 u47 u48 u49 u50 u51)
  (hRB : RB < w.heap.size) (hP : P1 ≤ 800010) (hxl : xs.length ≤ 2) (hwd : w.heap.size ≤ wd.heap.size) (hs : wd.heap.size ≤ v.heap.size)
  (O : OwnC itemC 111 v w.heap.size s7 xs) (T : Turned RB w v) (R : RdB v RB (P1 + 2)) (HLT : ∀ g, s7.ownBlock = some g → g < wd.heap.size)
  (F2 : Bk v g2 3 (iv [0, 5, 1]).toArray) (yg2 : wd.heap.size ≤ g2) (hk1 : k1 < 3) (hk2 : k2 < 3) (hz2 : (iv [0, 5, 1]).toArray[k2]? = some (.int .i64 z2))
  (listed : Array Bool) (hl : listed = #[true, false, true, true, false, false, true, true, true, true, true, false, true, false, false, false, false, false, false, false]) :
  wpAnyH Try.prog .any ops Q (fun V : World => True ∧ V.cell? ⟨g2, k2, none⟩ = some (.int .i64 z2)) 11 listed { tmps := List.toArray (.pointer (some ⟨RB, 0, none⟩) :: u1 :: u2 :: u3 :: u4 :: u5 :: u6 :: s7 :: u8 :: u9 :: u10 :: u11 :: u12 :: u13 :: u14 :: u15 :: u16 :: u17 :: u18 :: u19 :: u20 :: u21 :: u22 :: u23 :: u24 :: u25 :: u26 :: u27 :: u28 :: u29 :: u30 :: u31 :: u32 :: u33 :: u34 :: u35 :: u36 :: u37 :: u38 :: u39 :: u40 :: u41 :: u42 :: u43 :: u44 :: u45 :: u46 :: u47 :: u48 :: u49 :: u50 :: u51 :: s7 :: u53 :: .pointer (some ⟨RB, 0, none⟩) :: .int .i64 (k1 : Int) :: u56 :: u57 :: .slice (some ⟨g2, 0, none⟩) 3 3 :: .pointer (some ⟨RB, 0, none⟩) :: .int .i64 (k2 : Int) :: .pointer (some ⟨g2, k2, none⟩) :: .int .i64 z2 :: u63 :: .pointer (some ⟨RB, 0, none⟩) :: u65 :: u66 :: u67 :: u68 :: u69 :: u70 :: u71 :: []), defers := [] } v := by
 obtain rfl := Option.some.inj (hops.symm.trans (rfl : regionIn 11 Try.f65.body = some _))
 have HOPS := Lib.hid hops
 have HQ := Lib.hid hQ
 have HPAN := Lib.hid hpan
 have HRlt := Lib.hid hRB
 have HLT := Lib.hid HLT
 have O := Lib.hid O
 have T := Lib.hid T
 have R := Lib.hid R
 have F2 := Lib.hid F2
 clear hops hQ hpan
 subst hl
 have hHeld : (fun V : World => True ∧ V.cell? ⟨g2, k2, none⟩ = some (.int .i64 z2)) v := ⟨trivial, (F2.out.cell k2).trans hz2⟩
 refine wpAnyH_ready (rs := [1, 11, 13]) (by kernel_rfl) (by simp) ?_
 refine AllReadyH.cons rfl (fun K hK => ?_) (AllReadyH.cons rfl (fun K hK => ?_) (AllReadyH.cons rfl (fun K hK => ?_) AllReadyH.nil))
 ·
  go_simp
  obtain ⟨v1, hV⟩ : ∃ V, V = World.alloc v (.cells #[.int .i64 (-1), .int .i64 6, .int .i64 0] 3) := ⟨_, rfl⟩
  have hb : Below v.heap.size v v1 := by rw [hV]; exact (Below.refl _ _).alloc (Nat.le_refl _) _
  have sv1 := hb.size
  obtain ⟨g1, hg1⟩ : ∃ g, g = v.heap.size := ⟨_, rfl⟩
  have F1 : Hid (Bk v1 g1 3 (iv [-1, 6, 0]).toArray) := by show Bk _ _ _ _; rw [hV, hg1]; exact Bk.new rfl
  have F2 := Lib.hid (F2.out.later hb)
  have O := Lib.hid (O.out.later hb)
  have T := Lib.hid (T.out.then hb)
  have R := Lib.hid (R.out.low hb R.out.lt)
  rw [← hV, ← hg1]
  have yg1 : wd.heap.size ≤ g1 := by omega
  clear hV hb hg1
  refine hK.out _ _ ⟨trivial, (F2.out.cell k2).trans hz2⟩ (fun hHeld => ?_)
  clear hK K
  obtain ⟨z1, hz1⟩ : ∃ z : Int, (iv [-1, 6, 0]).toArray[k1]? = some (.int .i64 z) := lit3 _ _ _ _ hk1
  refine wpAnyH_more (S' := fun V : World => True ∧ V.cell? ⟨g1, k1, none⟩ = some (.int .i64 z1) ∧ V.cell? ⟨g2, k2, none⟩ = some (.int .i64 z2)) (fun V h => ⟨trivial, h.2.2⟩) ?_
  clear hHeld
  have hHeld : (fun V : World => True ∧ V.cell? ⟨g1, k1, none⟩ = some (.int .i64 z1) ∧ V.cell? ⟨g2, k2, none⟩ = some (.int .i64 z2)) v1 := ⟨trivial, (F1.out.cell k1).trans hz1, (F2.out.cell k2).trans hz2⟩
  have kz : (k1 : Int) < 3 := by omega
  refine wpAnyH_take (i := 4) (v := ?_) rfl (by kernel_rfl) (by kernel_rfl) (by kernel_rfl) (fun _ _ _ h => HPAN.out _ _ _ _ _ h) (Or.inl ⟨by rfl, ?_⟩) (by assumption) ?_
  rotate_left
  ·
   intro V hSw; (try dsimp only at hSw); go_simp; (try with_reducible rfl)
  simp only [sA, sB, sC, Act.put, sD, sE, sF]
  refine wpAnyH_take (i := 5) (v := ?_) rfl (by kernel_rfl) (by kernel_rfl) (by kernel_rfl) (fun _ _ _ h => HPAN.out _ _ _ _ _ h) (Or.inl ⟨by rfl, ?_⟩) (by assumption) ?_
  rotate_left
  ·
   intro V hSw; (try dsimp only at hSw); go_simp; (try with_reducible rfl)
  simp only [sA, sB, sC, Act.put, sD, sE, sF]
  clear kz
  exact busy_12_2 _ HOPS.out _ HPAN.out HQ.out HRlt.out hP hxl hwd (by omega) O.out T.out (R.out.mono (by omega)) HLT.out F1.out yg1 F2.out yg2 hk1 hk2 hz1 hz2 _ (by kernel_rfl)
 ·
  go_simp
  obtain ⟨v1, hV⟩ : ∃ V, V = World.alloc v (.cells #[.int .i64 (-1), .int .i64 3, .int .i64 0] 3) := ⟨_, rfl⟩
  have hb : Below v.heap.size v v1 := by rw [hV]; exact (Below.refl _ _).alloc (Nat.le_refl _) _
  have sv1 := hb.size
  obtain ⟨g3, hg3⟩ : ∃ g, g = v.heap.size := ⟨_, rfl⟩
  have F3 : Hid (Bk v1 g3 3 (iv [-1, 3, 0]).toArray) := by show Bk _ _ _ _; rw [hV, hg3]; exact Bk.new rfl
  have F2 := Lib.hid (F2.out.later hb)
  have O := Lib.hid (O.out.later hb)
  have T := Lib.hid (T.out.then hb)
  have R := Lib.hid (R.out.low hb R.out.lt)
  rw [← hV, ← hg3]
  have yg3 : wd.heap.size ≤ g3 := by omega
  clear hV hb hg3
  refine hK.out _ _ ⟨trivial, (F2.out.cell k2).trans hz2⟩ (fun hHeld => ?_)
  clear hK K
  exact busy_23_2 _ HOPS.out _ HPAN.out HQ.out HRlt.out hP hxl hwd (by omega) O.out T.out (R.out.mono (by omega)) HLT.out F2.out yg2 F3.out yg3 hk1 hk2 hz2 _ (by kernel_rfl)
 ·
  go_simp
  go_wp2_with (go_at_call 47; refine (l20Rd_pick RB _ 3 _ R.out (by omega) (by omega)).mono ?_; rintro e v1 ⟨p3, rfl, hp0, hp1, _, hr, ht⟩; obtain ⟨k3, rfl⟩ := Int.eq_ofNat_of_zero_le hp0; have hk3 : k3 < 3 := by have := hp1 (by omega); omega)
  have sv1 := ht.size
  have F2 := Lib.hid (F2.out.turned ht (by have := HRlt.out; omega))
  have O := Lib.hid (O.out.kept (Kept.of_turned ht HRlt.out))
  have T := Lib.hid (T.out.trans ht)
  have R := Lib.hid hr
  clear hr ht hp0 hp1
  refine hK.out _ _ ⟨trivial, (F2.out.cell k2).trans hz2⟩ (fun hHeld => ?_)
  clear hK K
  exact busy_2_3 _ HOPS.out _ HPAN.out HQ.out HRlt.out hP hxl hwd (by omega) O.out T.out (R.out.mono (by omega)) HLT.out F2.out yg2 hk1 hk2 hk3 hz2 _ (by kernel_rfl)

set_option maxRecDepth 100000 in
set_option maxHeartbeats 4000000 in
theorem busy_3_2 (ops : Array Oper) (hops : regionIn 11 Try.f65.body = some ops) (Q : Exit → Act → World → Prop) {RB P1 : Nat} {w wd v : World} {xs : List GItem} {s7 u1 u2 u3 u4 u5 u6 u8 u9 u10 u11 u12 u13 u14 u15 u16 u17 u18 u19 u20 u21 u22 u23 u24 u25 u26 u27 u28 u29 u30 u31 u32 u33 u34 u35 u36 u37 u38 u39 u40 u41 u42 u43 u44 u45 u46 u47 u48 u49 u50 u51 u53 u56 u57 u58 u61 u62 u65 u66 u67 u68 u69 u70 u71 : Value} {g3 : Nat} {k1 k2 : Nat}
  (hpan : PanQ Q)
  (hQ : EndB Q RB P1 w xs u1 u2 u3 u4 u5 u6 u8 u9 u10 u11 u12 u13 u14 u15 u16 u17 u18 u19 u20 u21 u22 u23 u24 u25 u26 u27 u28 u29 u30 u31 u32 u33 u34 u35 u36 u37 u38 u39 u40 u41 u42 u43 u44 u45 u46 u47 u48 u49 u50 u51)
  (hRB : RB < w.heap.size) (hP : P1 ≤ 800010) (hxl : xs.length ≤ 2) (hwd : w.heap.size ≤ wd.heap.size) (hs : wd.heap.size ≤ v.heap.size)
  (O : OwnC itemC 111 v w.heap.size s7 xs) (T : Turned RB w v) (R : RdB v RB (P1 + 2)) (HLT : ∀ g, s7.ownBlock = some g → g < wd.heap.size)
  (F3 : Bk v g3 3 (iv [-1, 3, 0]).toArray) (yg3 : wd.heap.size ≤ g3) (hk1 : k1 < 3) (hk2 : k2 < 3)
  (listed : Array Bool) (hl : listed = #[true, false, true, true, false, false, false, true, true, false, false, true, true, false, false, false, false, false, false, false]) :
  wpAnyH Try.prog .any ops Q (fun V : World => True) 13 listed { tmps := List.toArray (.pointer (some ⟨RB, 0, none⟩) :: u1 :: u2 :: u3 :: u4 :: u5 :: u6 :: s7 :: u8 :: u9 :: u10 :: u11 :: u12 :: u13 :: u14 :: u15 :: u16 :: u17 :: u18 :: u19 :: u20 :: u21 :: u22 :: u23 :: u24 :: u25 :: u26 :: u27 :: u28 :: u29 :: u30 :: u31 :: u32 :: u33 :: u34 :: u35 :: u36 :: u37 :: u38 :: u39 :: u40 :: u41 :: u42 :: u43 :: u44 :: u45 :: u46 :: u47 :: u48 :: u49 :: u50 :: u51 :: s7 :: u53 :: .pointer (some ⟨RB, 0, none⟩) :: .int .i64 (k1 : Int) :: u56 :: u57 :: u58 :: .pointer (some ⟨RB, 0, none⟩) :: .int .i64 (k2 : Int) :: u61 :: u62 :: .slice (some ⟨g3, 0, none⟩) 3 3 :: .pointer (some ⟨RB, 0, none⟩) :: u65 :: u66 :: u67 :: u68 :: u69 :: u70 :: u71 :: []), defers := [] } v := by
 obtain rfl := Option.some.inj (hops.symm.trans (rfl : regionIn 11 Try.f65.body = some _))
 have HOPS := Lib.hid hops
 have HQ := Lib.hid hQ
 have HPAN := Lib.hid hpan
 have HRlt := Lib.hid hRB
 have HLT := Lib.hid HLT
 have O := Lib.hid O
 have T := Lib.hid T
 have R := Lib.hid R
 have F3 := Lib.hid F3
 clear hops hQ hpan
 subst hl
 have hHeld : (fun V : World => True) v := trivial
 refine wpAnyH_ready (rs := [1, 6, 13]) (by kernel_rfl) (by simp) ?_
 refine AllReadyH.cons rfl (fun K hK => ?_) (AllReadyH.cons rfl (fun K hK => ?_) (AllReadyH.cons rfl (fun K hK => ?_) AllReadyH.nil))
 ·
  go_simp
  obtain ⟨v1, hV⟩ : ∃ V, V = World.alloc v (.cells #[.int .i64 (-1), .int .i64 6, .int .i64 0] 3) := ⟨_, rfl⟩
  have hb : Below v.heap.size v v1 := by rw [hV]; exact (Below.refl _ _).alloc (Nat.le_refl _) _
  have sv1 := hb.size
  obtain ⟨g1, hg1⟩ : ∃ g, g = v.heap.size := ⟨_, rfl⟩
  have F1 : Hid (Bk v1 g1 3 (iv [-1, 6, 0]).toArray) := by show Bk _ _ _ _; rw [hV, hg1]; exact Bk.new rfl
  have F3 := Lib.hid (F3.out.later hb)
  have O := Lib.hid (O.out.later hb)
  have T := Lib.hid (T.out.then hb)
  have R := Lib.hid (R.out.low hb R.out.lt)
  rw [← hV, ← hg1]
  have yg1 : wd.heap.size ≤ g1 := by omega
  clear hV hb hg1
  refine hK.out _ _ trivial (fun hHeld => ?_)
  clear hK K
  obtain ⟨z1, hz1⟩ : ∃ z : Int, (iv [-1, 6, 0]).toArray[k1]? = some (.int .i64 z) := lit3 _ _ _ _ hk1
  refine wpAnyH_more (S' := fun V : World => True ∧ V.cell? ⟨g1, k1, none⟩ = some (.int .i64 z1)) (fun V h => trivial) ?_
  clear hHeld
  have hHeld : (fun V : World => True ∧ V.cell? ⟨g1, k1, none⟩ = some (.int .i64 z1)) v1 := ⟨trivial, (F1.out.cell k1).trans hz1⟩
  have kz : (k1 : Int) < 3 := by omega
  refine wpAnyH_take (i := 4) (v := ?_) rfl (by kernel_rfl) (by kernel_rfl) (by kernel_rfl) (fun _ _ _ h => HPAN.out _ _ _ _ _ h) (Or.inl ⟨by rfl, ?_⟩) (by assumption) ?_
  rotate_left
  ·
   intro V hSw; (try dsimp only at hSw); go_simp; (try with_reducible rfl)
  simp only [sA, sB, sC, Act.put, sD, sE, sF]
  refine wpAnyH_take (i := 5) (v := ?_) rfl (by kernel_rfl) (by kernel_rfl) (by kernel_rfl) (fun _ _ _ h => HPAN.out _ _ _ _ _ h) (Or.inl ⟨by rfl, ?_⟩) (by assumption) ?_
  rotate_left
  ·
   intro V hSw; (try dsimp only at hSw); go_simp; (try with_reducible rfl)
  simp only [sA, sB, sC, Act.put, sD, sE, sF]
  clear kz
  exact busy_13_2 _ HOPS.out _ HPAN.out HQ.out HRlt.out hP hxl hwd (by omega) O.out T.out (R.out.mono (by omega)) HLT.out F1.out yg1 F3.out yg3 hk1 hk2 hz1 _ (by kernel_rfl)
 ·
  go_simp
  obtain ⟨v1, hV⟩ : ∃ V, V = World.alloc v (.cells #[.int .i64 0, .int .i64 5, .int .i64 1] 3) := ⟨_, rfl⟩
  have hb : Below v.heap.size v v1 := by rw [hV]; exact (Below.refl _ _).alloc (Nat.le_refl _) _
  have sv1 := hb.size
  obtain ⟨g2, hg2⟩ : ∃ g, g = v.heap.size := ⟨_, rfl⟩
  have F2 : Hid (Bk v1 g2 3 (iv [0, 5, 1]).toArray) := by show Bk _ _ _ _; rw [hV, hg2]; exact Bk.new rfl
  have F3 := Lib.hid (F3.out.later hb)
  have O := Lib.hid (O.out.later hb)
  have T := Lib.hid (T.out.then hb)
  have R := Lib.hid (R.out.low hb R.out.lt)
  rw [← hV, ← hg2]
  have yg2 : wd.heap.size ≤ g2 := by omega
  clear hV hb hg2
  refine hK.out _ _ trivial (fun hHeld => ?_)
  clear hK K
  obtain ⟨z2, hz2⟩ : ∃ z : Int, (iv [0, 5, 1]).toArray[k2]? = some (.int .i64 z) := lit3 _ _ _ _ hk2
  refine wpAnyH_more (S' := fun V : World => True ∧ V.cell? ⟨g2, k2, none⟩ = some (.int .i64 z2)) (fun V h => trivial) ?_
  clear hHeld
  have hHeld : (fun V : World => True ∧ V.cell? ⟨g2, k2, none⟩ = some (.int .i64 z2)) v1 := ⟨trivial, (F2.out.cell k2).trans hz2⟩
  have kz : (k2 : Int) < 3 := by omega
  refine wpAnyH_take (i := 9) (v := ?_) rfl (by kernel_rfl) (by kernel_rfl) (by kernel_rfl) (fun _ _ _ h => HPAN.out _ _ _ _ _ h) (Or.inl ⟨by rfl, ?_⟩) (by assumption) ?_
  rotate_left
  ·
   intro V hSw; (try dsimp only at hSw); go_simp; (try with_reducible rfl)
  simp only [sA, sB, sC, Act.put, sD, sE, sF]
  refine wpAnyH_take (i := 10) (v := ?_) rfl (by kernel_rfl) (by kernel_rfl) (by kernel_rfl) (fun _ _ _ h => HPAN.out _ _ _ _ _ h) (Or.inl ⟨by rfl, ?_⟩) (by assumption) ?_
  rotate_left
  ·
   intro V hSw; (try dsimp only at hSw); go_simp; (try with_reducible rfl)
  simp only [sA, sB, sC, Act.put, sD, sE, sF]
  clear kz
  exact busy_23_2 _ HOPS.out _ HPAN.out HQ.out HRlt.out hP hxl hwd (by omega) O.out T.out (R.out.mono (by omega)) HLT.out F2.out yg2 F3.out yg3 hk1 hk2 hz2 _ (by kernel_rfl)
 ·
  go_simp
  go_wp2_with (go_at_call 47; refine (l20Rd_pick RB _ 3 _ R.out (by omega) (by omega)).mono ?_; rintro e v1 ⟨p3, rfl, hp0, hp1, _, hr, ht⟩; obtain ⟨k3, rfl⟩ := Int.eq_ofNat_of_zero_le hp0; have hk3 : k3 < 3 := by have := hp1 (by omega); omega)
  have sv1 := ht.size
  have F3 := Lib.hid (F3.out.turned ht (by have := HRlt.out; omega))
  have O := Lib.hid (O.out.kept (Kept.of_turned ht HRlt.out))
  have T := Lib.hid (T.out.trans ht)
  have R := Lib.hid hr
  clear hr ht hp0 hp1
  refine hK.out _ _ trivial (fun hHeld => ?_)
  clear hK K
  obtain ⟨z3, hz3⟩ : ∃ z : Int, (iv [-1, 3, 0]).toArray[k3]? = some (.int .i64 z) := lit3 _ _ _ _ hk3
  refine wpAnyH_more (S' := fun V : World => True ∧ V.cell? ⟨g3, k3, none⟩ = some (.int .i64 z3)) (fun V h => trivial) ?_
  clear hHeld
  have hHeld : (fun V : World => True ∧ V.cell? ⟨g3, k3, none⟩ = some (.int .i64 z3)) v1 := ⟨trivial, (F3.out.cell k3).trans hz3⟩
  have kz : (k3 : Int) < 3 := by omega
  refine wpAnyH_take (i := 14) (v := ?_) rfl (by kernel_rfl) (by kernel_rfl) (by kernel_rfl) (fun _ _ _ h => HPAN.out _ _ _ _ _ h) (Or.inl ⟨by rfl, ?_⟩) (by assumption) ?_
  rotate_left
  ·
   intro V hSw; (try dsimp only at hSw); go_simp; (try with_reducible rfl)
  simp only [sA, sB, sC, Act.put, sD, sE, sF]
  refine wpAnyH_take (i := 15) (v := ?_) rfl (by kernel_rfl) (by kernel_rfl) (by kernel_rfl) (fun _ _ _ h => HPAN.out _ _ _ _ _ h) (Or.inl ⟨by rfl, ?_⟩) (by assumption) ?_
  rotate_left
  ·
   intro V hSw; (try dsimp only at hSw); go_simp; (try with_reducible rfl)
  simp only [sA, sB, sC, Act.put, sD, sE, sF]
  clear kz
  exact busy_3_3 _ HOPS.out _ HPAN.out HQ.out HRlt.out hP hxl hwd (by omega) O.out T.out (R.out.mono (by omega)) HLT.out F3.out yg3 hk1 hk2 hk3 hz3 _ (by kernel_rfl)

set_option maxRecDepth 100000 in
set_option maxHeartbeats 4000000 in
theorem busy_0_3 (ops : Array Oper) (hops : regionIn 11 Try.f65.body = some ops) (Q : Exit → Act → World → Prop) {RB P1 : Nat} {w wd v : World} {xs : List GItem} {s7 u1 u2 u3 u4 u5 u6 u8 u9 u10 u11 u12 u13 u14 u15 u16 u17 u18 u19 u20 u21 u22 u23 u24 u25 u26 u27 u28 u29 u30 u31 u32 u33 u34 u35 u36 u37 u38 u39 u40 u41 u42 u43 u44 u45 u46 u47 u48 u49 u50 u51 u53 u56 u57 u58 u61 u62 u63 u66 u67 u68 u69 u70 u71 : Value} {k1 k2 k3 : Nat}
  (hpan : PanQ Q)
  (hQ : EndB Q RB P1 w xs u1 u2 u3 u4 u5 u6 u8 u9 u10 u11 u12 u13 u14 u15 u16 u17 u18 u19 u20 u21 u22 u23 u24 u25 u26 u27 u28 u29 u30 u31 u32 u33 u34 u35 u36 u37 u38 u39 u40 u41 u42 u43 u44 u45 u46 u47 u48 u49 u50 u51)
  (hRB : RB < w.heap.size) (hP : P1 ≤ 800010) (hxl : xs.length ≤ 2) (hwd : w.heap.size ≤ wd.heap.size) (hs : wd.heap.size ≤ v.heap.size)
  (O : OwnC itemC 111 v w.heap.size s7 xs) (T : Turned RB w v) (R : RdB v RB (P1 + 3)) (HLT : ∀ g, s7.ownBlock = some g → g < wd.heap.size) (hk1 : k1 < 3) (hk2 : k2 < 3) (hk3 : k3 < 3)
  (listed : Array Bool) (hl : listed = #[true, false, true, true, false, false, false, true, true, false, false, false, true, true, false, false, false, false, false, false]) :
  wpAnyH Try.prog .any ops Q (fun V : World => True) 13 listed { tmps := List.toArray (.pointer (some ⟨RB, 0, none⟩) :: u1 :: u2 :: u3 :: u4 :: u5 :: u6 :: s7 :: u8 :: u9 :: u10 :: u11 :: u12 :: u13 :: u14 :: u15 :: u16 :: u17 :: u18 :: u19 :: u20 :: u21 :: u22 :: u23 :: u24 :: u25 :: u26 :: u27 :: u28 :: u29 :: u30 :: u31 :: u32 :: u33 :: u34 :: u35 :: u36 :: u37 :: u38 :: u39 :: u40 :: u41 :: u42 :: u43 :: u44 :: u45 :: u46 :: u47 :: u48 :: u49 :: u50 :: u51 :: s7 :: u53 :: .pointer (some ⟨RB, 0, none⟩) :: .int .i64 (k1 : Int) :: u56 :: u57 :: u58 :: .pointer (some ⟨RB, 0, none⟩) :: .int .i64 (k2 : Int) :: u61 :: u62 :: u63 :: .pointer (some ⟨RB, 0, none⟩) :: .int .i64 (k3 : Int) :: u66 :: u67 :: u68 :: u69 :: u70 :: u71 :: []), defers := [] } v := by
 obtain rfl := Option.some.inj (hops.symm.trans (rfl : regionIn 11 Try.f65.body = some _))
 have HOPS := Lib.hid hops
 have HQ := Lib.hid hQ
 have HPAN := Lib.hid hpan
 have HRlt := Lib.hid hRB
 have HLT := Lib.hid HLT
 have O := Lib.hid O
 have T := Lib.hid T
 have R := Lib.hid R
 clear hops hQ hpan
 subst hl
 have hHeld : (fun V : World => True) v := trivial
 refine wpAnyH_ready (rs := [1, 6, 11]) (by kernel_rfl) (by simp) ?_
 refine AllReadyH.cons rfl (fun K hK => ?_) (AllReadyH.cons rfl (fun K hK => ?_) (AllReadyH.cons rfl (fun K hK => ?_) AllReadyH.nil))
 ·
  go_simp
  obtain ⟨v1, hV⟩ : ∃ V, V = World.alloc v (.cells #[.int .i64 (-1), .int .i64 6, .int .i64 0] 3) := ⟨_, rfl⟩
  have hb : Below v.heap.size v v1 := by rw [hV]; exact (Below.refl _ _).alloc (Nat.le_refl _) _
  have sv1 := hb.size
  obtain ⟨g1, hg1⟩ : ∃ g, g = v.heap.size := ⟨_, rfl⟩
  have F1 : Hid (Bk v1 g1 3 (iv [-1, 6, 0]).toArray) := by show Bk _ _ _ _; rw [hV, hg1]; exact Bk.new rfl
  have O := Lib.hid (O.out.later hb)
  have T := Lib.hid (T.out.then hb)
  have R := Lib.hid (R.out.low hb R.out.lt)
  rw [← hV, ← hg1]
  have yg1 : wd.heap.size ≤ g1 := by omega
  clear hV hb hg1
  refine hK.out _ _ trivial (fun hHeld => ?_)
  clear hK K
  obtain ⟨z1, hz1⟩ : ∃ z : Int, (iv [-1, 6, 0]).toArray[k1]? = some (.int .i64 z) := lit3 _ _ _ _ hk1
  refine wpAnyH_more (S' := fun V : World => True ∧ V.cell? ⟨g1, k1, none⟩ = some (.int .i64 z1)) (fun V h => trivial) ?_
  clear hHeld
  have hHeld : (fun V : World => True ∧ V.cell? ⟨g1, k1, none⟩ = some (.int .i64 z1)) v1 := ⟨trivial, (F1.out.cell k1).trans hz1⟩
  have kz : (k1 : Int) < 3 := by omega
  refine wpAnyH_take (i := 4) (v := ?_) rfl (by kernel_rfl) (by kernel_rfl) (by kernel_rfl) (fun _ _ _ h => HPAN.out _ _ _ _ _ h) (Or.inl ⟨by rfl, ?_⟩) (by assumption) ?_
  rotate_left
  ·
   intro V hSw; (try dsimp only at hSw); go_simp; (try with_reducible rfl)
  simp only [sA, sB, sC, Act.put, sD, sE, sF]
  refine wpAnyH_take (i := 5) (v := ?_) rfl (by kernel_rfl) (by kernel_rfl) (by kernel_rfl) (fun _ _ _ h => HPAN.out _ _ _ _ _ h) (Or.inl ⟨by rfl, ?_⟩) (by assumption) ?_
  rotate_left
  ·
   intro V hSw; (try dsimp only at hSw); go_simp; (try with_reducible rfl)
  simp only [sA, sB, sC, Act.put, sD, sE, sF]
  clear kz
  exact busy_1_3 _ HOPS.out _ HPAN.out HQ.out HRlt.out hP hxl hwd (by omega) O.out T.out (R.out.mono (by omega)) HLT.out F1.out yg1 hk1 hk2 hk3 hz1 _ (by kernel_rfl)
 ·
  go_simp
  obtain ⟨v1, hV⟩ : ∃ V, V = World.alloc v (.cells #[.int .i64 0, .int .i64 5, .int .i64 1] 3) := ⟨_, rfl⟩
  have hb : Below v.heap.size v v1 := by rw [hV]; exact (Below.refl _ _).alloc (Nat.le_refl _) _
  have sv1 := hb.size
  obtain ⟨g2, hg2⟩ : ∃ g, g = v.heap.size := ⟨_, rfl⟩
  have F2 : Hid (Bk v1 g2 3 (iv [0, 5, 1]).toArray) := by show Bk _ _ _ _; rw [hV, hg2]; exact Bk.new rfl
  have O := Lib.hid (O.out.later hb)
  have T := Lib.hid (T.out.then hb)
  have R := Lib.hid (R.out.low hb R.out.lt)
  rw [← hV, ← hg2]
  have yg2 : wd.heap.size ≤ g2 := by omega
  clear hV hb hg2
  refine hK.out _ _ trivial (fun hHeld => ?_)
  clear hK K
  obtain ⟨z2, hz2⟩ : ∃ z : Int, (iv [0, 5, 1]).toArray[k2]? = some (.int .i64 z) := lit3 _ _ _ _ hk2
  refine wpAnyH_more (S' := fun V : World => True ∧ V.cell? ⟨g2, k2, none⟩ = some (.int .i64 z2)) (fun V h => trivial) ?_
  clear hHeld
  have hHeld : (fun V : World => True ∧ V.cell? ⟨g2, k2, none⟩ = some (.int .i64 z2)) v1 := ⟨trivial, (F2.out.cell k2).trans hz2⟩
  have kz : (k2 : Int) < 3 := by omega
  refine wpAnyH_take (i := 9) (v := ?_) rfl (by kernel_rfl) (by kernel_rfl) (by kernel_rfl) (fun _ _ _ h => HPAN.out _ _ _ _ _ h) (Or.inl ⟨by rfl, ?_⟩) (by assumption) ?_
  rotate_left
  ·
   intro V hSw; (try dsimp only at hSw); go_simp; (try with_reducible rfl)
  simp only [sA, sB, sC, Act.put, sD, sE, sF]
  refine wpAnyH_take (i := 10) (v := ?_) rfl (by kernel_rfl) (by kernel_rfl) (by kernel_rfl) (fun _ _ _ h => HPAN.out _ _ _ _ _ h) (Or.inl ⟨by rfl, ?_⟩) (by assumption) ?_
  rotate_left
  ·
   intro V hSw; (try dsimp only at hSw); go_simp; (try with_reducible rfl)
  simp only [sA, sB, sC, Act.put, sD, sE, sF]
  clear kz
  exact busy_2_3 _ HOPS.out _ HPAN.out HQ.out HRlt.out hP hxl hwd (by omega) O.out T.out (R.out.mono (by omega)) HLT.out F2.out yg2 hk1 hk2 hk3 hz2 _ (by kernel_rfl)
 ·
  go_simp
  obtain ⟨v1, hV⟩ : ∃ V, V = World.alloc v (.cells #[.int .i64 (-1), .int .i64 3, .int .i64 0] 3) := ⟨_, rfl⟩
  have hb : Below v.heap.size v v1 := by rw [hV]; exact (Below.refl _ _).alloc (Nat.le_refl _) _
  have sv1 := hb.size
  obtain ⟨g3, hg3⟩ : ∃ g, g = v.heap.size := ⟨_, rfl⟩
  have F3 : Hid (Bk v1 g3 3 (iv [-1, 3, 0]).toArray) := by show Bk _ _ _ _; rw [hV, hg3]; exact Bk.new rfl
  have O := Lib.hid (O.out.later hb)
  have T := Lib.hid (T.out.then hb)
  have R := Lib.hid (R.out.low hb R.out.lt)
  rw [← hV, ← hg3]
  have yg3 : wd.heap.size ≤ g3 := by omega
  clear hV hb hg3
  refine hK.out _ _ trivial (fun hHeld => ?_)
  clear hK K
  obtain ⟨z3, hz3⟩ : ∃ z : Int, (iv [-1, 3, 0]).toArray[k3]? = some (.int .i64 z) := lit3 _ _ _ _ hk3
  refine wpAnyH_more (S' := fun V : World => True ∧ V.cell? ⟨g3, k3, none⟩ = some (.int .i64 z3)) (fun V h => trivial) ?_
  clear hHeld
  have hHeld : (fun V : World => True ∧ V.cell? ⟨g3, k3, none⟩ = some (.int .i64 z3)) v1 := ⟨trivial, (F3.out.cell k3).trans hz3⟩
  have kz : (k3 : Int) < 3 := by omega
  refine wpAnyH_take (i := 14) (v := ?_) rfl (by kernel_rfl) (by kernel_rfl) (by kernel_rfl) (fun _ _ _ h => HPAN.out _ _ _ _ _ h) (Or.inl ⟨by rfl, ?_⟩) (by assumption) ?_
  rotate_left
  ·
   intro V hSw; (try dsimp only at hSw); go_simp; (try with_reducible rfl)
  simp only [sA, sB, sC, Act.put, sD, sE, sF]
  refine wpAnyH_take (i := 15) (v := ?_) rfl (by kernel_rfl) (by kernel_rfl) (by kernel_rfl) (fun _ _ _ h => HPAN.out _ _ _ _ _ h) (Or.inl ⟨by rfl, ?_⟩) (by assumption) ?_
  rotate_left
  ·
   intro V hSw; (try dsimp only at hSw); go_simp; (try with_reducible rfl)
  simp only [sA, sB, sC, Act.put, sD, sE, sF]
  clear kz
  exact busy_3_3 _ HOPS.out _ HPAN.out HQ.out HRlt.out hP hxl hwd (by omega) O.out T.out (R.out.mono (by omega)) HLT.out F3.out yg3 hk1 hk2 hk3 hz3 _ (by kernel_rfl)

set_option maxRecDepth 100000 in
set_option maxHeartbeats 4000000 in
theorem busy_12_0 (ops : Array Oper) (hops : regionIn 11 Try.f65.body = some ops) (Q : Exit → Act → World → Prop) {RB P1 : Nat} {w wd v : World} {xs : List GItem} {s7 u1 u2 u3 u4 u5 u6 u8 u9 u10 u11 u12 u13 u14 u15 u16 u17 u18 u19 u20 u21 u22 u23 u24 u25 u26 u27 u28 u29 u30 u31 u32 u33 u34 u35 u36 u37 u38 u39 u40 u41 u42 u43 u44 u45 u46 u47 u48 u49 u50 u51 u55 u56 u57 u60 u61 u62 u63 u65 u66 u67 u68 u69 u70 u71 : Value} {g1 g2 : Nat}
  (hpan : PanQ Q)
  (hQ : EndB Q RB P1 w xs u1 u2 u3 u4 u5 u6 u8 u9 u10 u11 u12 u13 u14 u15 u16 u17 u18 u19 u20 u21 u22 u23 u24 u25 u26 u27 u28 u29 u30 u31 u32 u33 u34 u35 u36 u37 u38 u39 u40 u41 u42 u43 u44 u45 u46 u47 u48 u49 u50 u51)
  (hRB : RB < w.heap.size) (hP : P1 ≤ 800010) (hxl : xs.length ≤ 2) (hwd : w.heap.size ≤ wd.heap.size) (hs : wd.heap.size ≤ v.heap.size)
  (O : OwnC itemC 111 v w.heap.size s7 xs) (T : Turned RB w v) (R : RdB v RB (P1 + 0)) (HLT : ∀ g, s7.ownBlock = some g → g < wd.heap.size)
  (F1 : Bk v g1 3 (iv [-1, 6, 0]).toArray) (yg1 : wd.heap.size ≤ g1)
  (F2 : Bk v g2 3 (iv [0, 5, 1]).toArray) (yg2 : wd.heap.size ≤ g2)
  (listed : Array Bool) (hl : listed = #[true, true, true, false, false, false, true, true, false, false, false, false, true, false, false, false, false, false, false, false]) :
  wpAnyH Try.prog .any ops Q (fun V : World => True) 14 listed { tmps := List.toArray (.pointer (some ⟨RB, 0, none⟩) :: u1 :: u2 :: u3 :: u4 :: u5 :: u6 :: s7 :: u8 :: u9 :: u10 :: u11 :: u12 :: u13 :: u14 :: u15 :: u16 :: u17 :: u18 :: u19 :: u20 :: u21 :: u22 :: u23 :: u24 :: u25 :: u26 :: u27 :: u28 :: u29 :: u30 :: u31 :: u32 :: u33 :: u34 :: u35 :: u36 :: u37 :: u38 :: u39 :: u40 :: u41 :: u42 :: u43 :: u44 :: u45 :: u46 :: u47 :: u48 :: u49 :: u50 :: u51 :: s7 :: .slice (some ⟨g1, 0, none⟩) 3 3 :: .pointer (some ⟨RB, 0, none⟩) :: u55 :: u56 :: u57 :: .slice (some ⟨g2, 0, none⟩) 3 3 :: .pointer (some ⟨RB, 0, none⟩) :: u60 :: u61 :: u62 :: u63 :: .pointer (some ⟨RB, 0, none⟩) :: u65 :: u66 :: u67 :: u68 :: u69 :: u70 :: u71 :: []), defers := [] } v := by
 obtain rfl := Option.some.inj (hops.symm.trans (rfl : regionIn 11 Try.f65.body = some _))
 have HOPS := Lib.hid hops
 have HQ := Lib.hid hQ
 have HPAN := Lib.hid hpan
 have HRlt := Lib.hid hRB
 have HLT := Lib.hid HLT
 have O := Lib.hid O
 have T := Lib.hid T
 have R := Lib.hid R
 have F1 := Lib.hid F1
 have F2 := Lib.hid F2
 clear hops hQ hpan
 subst hl
 have hHeld : (fun V : World => True) v := trivial
 refine wpAnyH_ready (rs := [3, 11]) (by kernel_rfl) (by simp) ?_
 refine AllReadyH.cons rfl (fun K hK => ?_) (AllReadyH.cons rfl (fun K hK => ?_) AllReadyH.nil)
 ·
  go_simp
  go_wp2_with (go_at_call 47; refine (l20Rd_pick RB _ 3 _ R.out (by omega) (by omega)).mono ?_; rintro e v1 ⟨p1, rfl, hp0, hp1, _, hr, ht⟩; obtain ⟨k1, rfl⟩ := Int.eq_ofNat_of_zero_le hp0; have hk1 : k1 < 3 := by have := hp1 (by omega); omega)
  have sv1 := ht.size
  have F1 := Lib.hid (F1.out.turned ht (by have := HRlt.out; omega))
  have F2 := Lib.hid (F2.out.turned ht (by have := HRlt.out; omega))
  have O := Lib.hid (O.out.kept (Kept.of_turned ht HRlt.out))
  have T := Lib.hid (T.out.trans ht)
  have R := Lib.hid hr
  clear hr ht hp0 hp1
  refine hK.out _ _ trivial (fun hHeld => ?_)
  clear hK K
  obtain ⟨z1, hz1⟩ : ∃ z : Int, (iv [-1, 6, 0]).toArray[k1]? = some (.int .i64 z) := lit3 _ _ _ _ hk1
  refine wpAnyH_more (S' := fun V : World => True ∧ V.cell? ⟨g1, k1, none⟩ = some (.int .i64 z1)) (fun V h => trivial) ?_
  clear hHeld
  have hHeld : (fun V : World => True ∧ V.cell? ⟨g1, k1, none⟩ = some (.int .i64 z1)) v1 := ⟨trivial, (F1.out.cell k1).trans hz1⟩
  have kz : (k1 : Int) < 3 := by omega
  refine wpAnyH_take (i := 4) (v := ?_) rfl (by kernel_rfl) (by kernel_rfl) (by kernel_rfl) (fun _ _ _ h => HPAN.out _ _ _ _ _ h) (Or.inl ⟨by rfl, ?_⟩) (by assumption) ?_
  rotate_left
  ·
   intro V hSw; (try dsimp only at hSw); go_simp; (try with_reducible rfl)
  simp only [sA, sB, sC, Act.put, sD, sE, sF]
  refine wpAnyH_take (i := 5) (v := ?_) rfl (by kernel_rfl) (by kernel_rfl) (by kernel_rfl) (fun _ _ _ h => HPAN.out _ _ _ _ _ h) (Or.inl ⟨by rfl, ?_⟩) (by assumption) ?_
  rotate_left
  ·
   intro V hSw; (try dsimp only at hSw); go_simp; (try with_reducible rfl)
  simp only [sA, sB, sC, Act.put, sD, sE, sF]
  clear kz
  exact busy_12_1 _ HOPS.out _ HPAN.out HQ.out HRlt.out hP hxl hwd (by omega) O.out T.out (R.out.mono (by omega)) HLT.out F1.out yg1 F2.out yg2 hk1 hz1 _ (by kernel_rfl)
 ·
  go_simp
  obtain ⟨v1, hV⟩ : ∃ V, V = World.alloc v (.cells #[.int .i64 (-1), .int .i64 3, .int .i64 0] 3) := ⟨_, rfl⟩
  have hb : Below v.heap.size v v1 := by rw [hV]; exact (Below.refl _ _).alloc (Nat.le_refl _) _
  have sv1 := hb.size
  obtain ⟨g3, hg3⟩ : ∃ g, g = v.heap.size := ⟨_, rfl⟩
  have F3 : Hid (Bk v1 g3 3 (iv [-1, 3, 0]).toArray) := by show Bk _ _ _ _; rw [hV, hg3]; exact Bk.new rfl
  have F1 := Lib.hid (F1.out.later hb)
  have F2 := Lib.hid (F2.out.later hb)
  have O := Lib.hid (O.out.later hb)
  have T := Lib.hid (T.out.then hb)
  have R := Lib.hid (R.out.low hb R.out.lt)
  rw [← hV, ← hg3]
  have yg3 : wd.heap.size ≤ g3 := by omega
  clear hV hb hg3
  refine hK.out _ _ trivial (fun hHeld => ?_)
  clear hK K
  exact busy_123_0 _ HOPS.out _ HPAN.out HQ.out HRlt.out hP hxl hwd (by omega) O.out T.out (R.out.mono (by omega)) HLT.out F1.out yg1 F2.out yg2 F3.out yg3 _ (by kernel_rfl)

set_option maxRecDepth 100000 in
set_option maxHeartbeats 4000000 in
theorem busy_13_0 (ops : Array Oper) (hops : regionIn 11 Try.f65.body = some ops) (Q : Exit → Act → World → Prop) {RB P1 : Nat} {w wd v : World} {xs : List GItem} {s7 u1 u2 u3 u4 u5 u6 u8 u9 u10 u11 u12 u13 u14 u15 u16 u17 u18 u19 u20 u21 u22 u23 u24 u25 u26 u27 u28 u29 u30 u31 u32 u33 u34 u35 u36 u37 u38 u39 u40 u41 u42 u43 u44 u45 u46 u47 u48 u49 u50 u51 u55 u56 u57 u58 u60 u61 u62 u65 u66 u67 u68 u69 u70 u71 : Value} {g1 g3 : Nat}
  (hpan : PanQ Q)
  (hQ : EndB Q RB P1 w xs u1 u2 u3 u4 u5 u6 u8 u9 u10 u11 u12 u13 u14 u15 u16 u17 u18 u19 u20 u21 u22 u23 u24 u25 u26 u27 u28 u29 u30 u31 u32 u33 u34 u35 u36 u37 u38 u39 u40 u41 u42 u43 u44 u45 u46 u47 u48 u49 u50 u51)
  (hRB : RB < w.heap.size) (hP : P1 ≤ 800010) (hxl : xs.length ≤ 2) (hwd : w.heap.size ≤ wd.heap.size) (hs : wd.heap.size ≤ v.heap.size)
  (O : OwnC itemC 111 v w.heap.size s7 xs) (T : Turned RB w v) (R : RdB v RB (P1 + 0)) (HLT : ∀ g, s7.ownBlock = some g → g < wd.heap.size)
  (F1 : Bk v g1 3 (iv [-1, 6, 0]).toArray) (yg1 : wd.heap.size ≤ g1)
  (F3 : Bk v g3 3 (iv [-1, 3, 0]).toArray) (yg3 : wd.heap.size ≤ g3)
  (listed : Array Bool) (hl : listed = #[true, true, true, false, false, false, false, true, false, false, false, true, true, false, false, false, false, false, false, false]) :
  wpAnyH Try.prog .any ops Q (fun V : World => True) 14 listed { tmps := List.toArray (.pointer (some ⟨RB, 0, none⟩) :: u1 :: u2 :: u3 :: u4 :: u5 :: u6 :: s7 :: u8 :: u9 :: u10 :: u11 :: u12 :: u13 :: u14 :: u15 :: u16 :: u17 :: u18 :: u19 :: u20 :: u21 :: u22 :: u23 :: u24 :: u25 :: u26 :: u27 :: u28 :: u29 :: u30 :: u31 :: u32 :: u33 :: u34 :: u35 :: u36 :: u37 :: u38 :: u39 :: u40 :: u41 :: u42 :: u43 :: u44 :: u45 :: u46 :: u47 :: u48 :: u49 :: u50 :: u51 :: s7 :: .slice (some ⟨g1, 0, none⟩) 3 3 :: .pointer (some ⟨RB, 0, none⟩) :: u55 :: u56 :: u57 :: u58 :: .pointer (some ⟨RB, 0, none⟩) :: u60 :: u61 :: u62 :: .slice (some ⟨g3, 0, none⟩) 3 3 :: .pointer (some ⟨RB, 0, none⟩) :: u65 :: u66 :: u67 :: u68 :: u69 :: u70 :: u71 :: []), defers := [] } v := by
 obtain rfl := Option.some.inj (hops.symm.trans (rfl : regionIn 11 Try.f65.body = some _))
 have HOPS := Lib.hid hops
 have HQ := Lib.hid hQ
 have HPAN := Lib.hid hpan
 have HRlt := Lib.hid hRB
 have HLT := Lib.hid HLT
 have O := Lib.hid O
 have T := Lib.hid T
 have R := Lib.hid R
 have F1 := Lib.hid F1
 have F3 := Lib.hid F3
 clear hops hQ hpan
 subst hl
 have hHeld : (fun V : World => True) v := trivial
 refine wpAnyH_ready (rs := [3, 6]) (by kernel_rfl) (by simp) ?_
 refine AllReadyH.cons rfl (fun K hK => ?_) (AllReadyH.cons rfl (fun K hK => ?_) AllReadyH.nil)
 ·
  go_simp
  go_wp2_with (go_at_call 47; refine (l20Rd_pick RB _ 3 _ R.out (by omega) (by omega)).mono ?_; rintro e v1 ⟨p1, rfl, hp0, hp1, _, hr, ht⟩; obtain ⟨k1, rfl⟩ := Int.eq_ofNat_of_zero_le hp0; have hk1 : k1 < 3 := by have := hp1 (by omega); omega)
  have sv1 := ht.size
  have F1 := Lib.hid (F1.out.turned ht (by have := HRlt.out; omega))
  have F3 := Lib.hid (F3.out.turned ht (by have := HRlt.out; omega))
  have O := Lib.hid (O.out.kept (Kept.of_turned ht HRlt.out))
  have T := Lib.hid (T.out.trans ht)
  have R := Lib.hid hr
  clear hr ht hp0 hp1
  refine hK.out _ _ trivial (fun hHeld => ?_)
  clear hK K
  obtain ⟨z1, hz1⟩ : ∃ z : Int, (iv [-1, 6, 0]).toArray[k1]? = some (.int .i64 z) := lit3 _ _ _ _ hk1
  refine wpAnyH_more (S' := fun V : World => True ∧ V.cell? ⟨g1, k1, none⟩ = some (.int .i64 z1)) (fun V h => trivial) ?_
  clear hHeld
  have hHeld : (fun V : World => True ∧ V.cell? ⟨g1, k1, none⟩ = some (.int .i64 z1)) v1 := ⟨trivial, (F1.out.cell k1).trans hz1⟩
  have kz : (k1 : Int) < 3 := by omega
  refine wpAnyH_take (i := 4) (v := ?_) rfl (by kernel_rfl) (by kernel_rfl) (by kernel_rfl) (fun _ _ _ h => HPAN.out _ _ _ _ _ h) (Or.inl ⟨by rfl, ?_⟩) (by assumption) ?_
  rotate_left
  ·
   intro V hSw; (try dsimp only at hSw); go_simp; (try with_reducible rfl)
  simp only [sA, sB, sC, Act.put, sD, sE, sF]
  refine wpAnyH_take (i := 5) (v := ?_) rfl (by kernel_rfl) (by kernel_rfl) (by kernel_rfl) (fun _ _ _ h => HPAN.out _ _ _ _ _ h) (Or.inl ⟨by rfl, ?_⟩) (by assumption) ?_
  rotate_left
  ·
   intro V hSw; (try dsimp only at hSw); go_simp; (try with_reducible rfl)
  simp only [sA, sB, sC, Act.put, sD, sE, sF]
  clear kz
  exact busy_13_1 _ HOPS.out _ HPAN.out HQ.out HRlt.out hP hxl hwd (by omega) O.out T.out (R.out.mono (by omega)) HLT.out F1.out yg1 F3.out yg3 hk1 hz1 _ (by kernel_rfl)
 ·
  go_simp
  obtain ⟨v1, hV⟩ : ∃ V, V = World.alloc v (.cells #[.int .i64 0, .int .i64 5, .int .i64 1] 3) := ⟨_, rfl⟩
  have hb : Below v.heap.size v v1 := by rw [hV]; exact (Below.refl _ _).alloc (Nat.le_refl _) _
  have sv1 := hb.size
  obtain ⟨g2, hg2⟩ : ∃ g, g = v.heap.size := ⟨_, rfl⟩
  have F2 : Hid (Bk v1 g2 3 (iv [0, 5, 1]).toArray) := by show Bk _ _ _ _; rw [hV, hg2]; exact Bk.new rfl
  have F1 := Lib.hid (F1.out.later hb)
  have F3 := Lib.hid (F3.out.later hb)
  have O := Lib.hid (O.out.later hb)
  have T := Lib.hid (T.out.then hb)
  have R := Lib.hid (R.out.low hb R.out.lt)
  rw [← hV, ← hg2]
  have yg2 : wd.heap.size ≤ g2 := by omega
  clear hV hb hg2
  refine hK.out _ _ trivial (fun hHeld => ?_)
  clear hK K
  exact busy_123_0 _ HOPS.out _ HPAN.out HQ.out HRlt.out hP hxl hwd (by omega) O.out T.out (R.out.mono (by omega)) HLT.out F1.out yg1 F2.out yg2 F3.out yg3 _ (by kernel_rfl)

set_option maxRecDepth 100000 in
set_option maxHeartbeats 4000000 in
theorem busy_23_0 (ops : Array Oper) (hops : regionIn 11 Try.f65.body = some ops) (Q : Exit → Act → World → Prop) {RB P1 : Nat} {w wd v : World} {xs : List GItem} {s7 u1 u2 u3 u4 u5 u6 u8 u9 u10 u11 u12 u13 u14 u15 u16 u17 u18 u19 u20 u21 u22 u23 u24 u25 u26 u27 u28 u29 u30 u31 u32 u33 u34 u35 u36 u37 u38 u39 u40 u41 u42 u43 u44 u45 u46 u47 u48 u49 u50 u51 u53 u55 u56 u57 u60 u61 u62 u65 u66 u67 u68 u69 u70 u71 : Value} {g2 g3 : Nat}
  (hpan : PanQ Q)
  (hQ : EndB Q RB P1 w xs u1 u2 u3 u4 u5 u6 u8 u9 u10 u11 u12 u13 u14 u15 u16 u17 u18 u19 u20 u21 u22 u23 u24 u25 u26 u27 u28 u29 u30 u31 u32 u33 u34 u35 u36 u37 u38 u39 u40 u41 u42 u43 u44 u45 u46 u47 u48 u49 u50 u51)
  (hRB : RB < w.heap.size) (hP : P1 ≤ 800010) (hxl : xs.length ≤ 2) (hwd : w.heap.size ≤ wd.heap.size) (hs : wd.heap.size ≤ v.heap.size)
  (O : OwnC itemC 111 v w.heap.size s7 xs) (T : Turned RB w v) (R : RdB v RB (P1 + 0)) (HLT : ∀ g, s7.ownBlock = some g → g < wd.heap.size)
  (F2 : Bk v g2 3 (iv [0, 5, 1]).toArray) (yg2 : wd.heap.size ≤ g2)
  (F3 : Bk v g3 3 (iv [-1, 3, 0]).toArray) (yg3 : wd.heap.size ≤ g3)
  (listed : Array Bool) (hl : listed = #[true, false, true, false, false, false, true, true, false, false, false, true, true, false, false, false, false, false, false, false]) :
  wpAnyH Try.prog .any ops Q (fun V : World => True) 14 listed { tmps := List.toArray (.pointer (some ⟨RB, 0, none⟩) :: u1 :: u2 :: u3 :: u4 :: u5 :: u6 :: s7 :: u8 :: u9 :: u10 :: u11 :: u12 :: u13 :: u14 :: u15 :: u16 :: u17 :: u18 :: u19 :: u20 :: u21 :: u22 :: u23 :: u24 :: u25 :: u26 :: u27 :: u28 :: u29 :: u30 :: u31 :: u32 :: u33 :: u34 :: u35 :: u36 :: u37 :: u38 :: u39 :: u40 :: u41 :: u42 :: u43 :: u44 :: u45 :: u46 :: u47 :: u48 :: u49 :: u50 :: u51 :: s7 :: u53 :: .pointer (some ⟨RB, 0, none⟩) :: u55 :: u56 :: u57 :: .slice (some ⟨g2, 0, none⟩) 3 3 :: .pointer (some ⟨RB, 0, none⟩) :: u60 :: u61 :: u62 :: .slice (some ⟨g3, 0, none⟩) 3 3 :: .pointer (some ⟨RB, 0, none⟩) :: u65 :: u66 :: u67 :: u68 :: u69 :: u70 :: u71 :: []), defers := [] } v := by
 obtain rfl := Option.some.inj (hops.symm.trans (rfl : regionIn 11 Try.f65.body = some _))
 have HOPS := Lib.hid hops
 have HQ := Lib.hid hQ
 have HPAN := Lib.hid hpan
 have HRlt := Lib.hid hRB
 have HLT := Lib.hid HLT
 have O := Lib.hid O
 have T := Lib.hid T
 have R := Lib.hid R
 have F2 := Lib.hid F2
 have F3 := Lib.hid F3
 clear hops hQ hpan
 subst hl
 have hHeld : (fun V : World => True) v := trivial
 refine wpAnyH_ready (rs := [1, 3]) (by kernel_rfl) (by simp) ?_
 refine AllReadyH.cons rfl (fun K hK => ?_) (AllReadyH.cons rfl (fun K hK => ?_) AllReadyH.nil)
 ·
  go_simp
  obtain ⟨v1, hV⟩ : ∃ V, V = World.alloc v (.cells #[.int .i64 (-1), .int .i64 6, .int .i64 0] 3) := ⟨_, rfl⟩
  have hb : Below v.heap.size v v1 := by rw [hV]; exact (Below.refl _ _).alloc (Nat.le_refl _) _
  have sv1 := hb.size
  obtain ⟨g1, hg1⟩ : ∃ g, g = v.heap.size := ⟨_, rfl⟩
  have F1 : Hid (Bk v1 g1 3 (iv [-1, 6, 0]).toArray) := by show Bk _ _ _ _; rw [hV, hg1]; exact Bk.new rfl
  have F2 := Lib.hid (F2.out.later hb)
  have F3 := Lib.hid (F3.out.later hb)
  have O := Lib.hid (O.out.later hb)
  have T := Lib.hid (T.out.then hb)
  have R := Lib.hid (R.out.low hb R.out.lt)
  rw [← hV, ← hg1]
  have yg1 : wd.heap.size ≤ g1 := by omega
  clear hV hb hg1
  refine hK.out _ _ trivial (fun hHeld => ?_)
  clear hK K
  exact busy_123_0 _ HOPS.out _ HPAN.out HQ.out HRlt.out hP hxl hwd (by omega) O.out T.out (R.out.mono (by omega)) HLT.out F1.out yg1 F2.out yg2 F3.out yg3 _ (by kernel_rfl)
 ·
  go_simp
  go_wp2_with (go_at_call 47; refine (l20Rd_pick RB _ 3 _ R.out (by omega) (by omega)).mono ?_; rintro e v1 ⟨p1, rfl, hp0, hp1, _, hr, ht⟩; obtain ⟨k1, rfl⟩ := Int.eq_ofNat_of_zero_le hp0; have hk1 : k1 < 3 := by have := hp1 (by omega); omega)
  have sv1 := ht.size
  have F2 := Lib.hid (F2.out.turned ht (by have := HRlt.out; omega))
  have F3 := Lib.hid (F3.out.turned ht (by have := HRlt.out; omega))
  have O := Lib.hid (O.out.kept (Kept.of_turned ht HRlt.out))
  have T := Lib.hid (T.out.trans ht)
  have R := Lib.hid hr
  clear hr ht hp0 hp1
  refine hK.out _ _ trivial (fun hHeld => ?_)
  clear hK K
  exact busy_23_1 _ HOPS.out _ HPAN.out HQ.out HRlt.out hP hxl hwd (by omega) O.out T.out (R.out.mono (by omega)) HLT.out F2.out yg2 F3.out yg3 hk1 _ (by kernel_rfl)

set_option maxRecDepth 100000 in
set_option maxHeartbeats 4000000 in
theorem busy_1_1 (ops : Array Oper) (hops : regionIn 11 Try.f65.body = some ops) (Q : Exit → Act → World → Prop) {RB P1 : Nat} {w wd v : World} {xs : List GItem} {s7 u1 u2 u3 u4 u5 u6 u8 u9 u10 u11 u12 u13 u14 u15 u16 u17 u18 u19 u20 u21 u22 u23 u24 u25 u26 u27 u28 u29 u30 u31 u32 u33 u34 u35 u36 u37 u38 u39 u40 u41 u42 u43 u44 u45 u46 u47 u48 u49 u50 u51 u58 u60 u61 u62 u63 u65 u66 u67 u68 u69 u70 u71 : Value} {g1 : Nat} {k1 : Nat} {z1 : Int}
  (hpan : PanQ Q)
  (hQ : EndB Q RB P1 w xs u1 u2 u3 u4 u5 u6 u8 u9 u10 u11 u12 u13 u14 u15 u16 u17 u18 u19 u20 u21 u22 u23 u24 u25 u26 u27 u28 u29 u30 u31 u32 u33 u34 u35 u36 u37 u38 u39 u40 u41 u42 u43 u44 u45 u46 u47 u48 u49 u50 u51)
  (hRB : RB < w.heap.size) (hP : P1 ≤ 800010) (hxl : xs.length ≤ 2) (hwd : w.heap.size ≤ wd.heap.size) (hs : wd.heap.size ≤ v.heap.size)
  (O : OwnC itemC 111 v w.heap.size s7 xs) (T : Turned RB w v) (R : RdB v RB (P1 + 1)) (HLT : ∀ g, s7.ownBlock = some g → g < wd.heap.size)
  (F1 : Bk v g1 3 (iv [-1, 6, 0]).toArray) (yg1 : wd.heap.size ≤ g1) (hk1 : k1 < 3) (hz1 : (iv [-1, 6, 0]).toArray[k1]? = some (.int .i64 z1))
  (listed : Array Bool) (hl : listed = #[true, true, true, true, true, true, false, true, false, false, false, false, true, false, false, false, false, false, false, false]) :
  wpAnyH Try.prog .any ops Q (fun V : World => True ∧ V.cell? ⟨g1, k1, none⟩ = some (.int .i64 z1)) 12 listed { tmps := List.toArray (.pointer (some ⟨RB, 0, none⟩) :: u1 :: u2 :: u3 :: u4 :: u5 :: u6 :: s7 :: u8 :: u9 :: u10 :: u11 :: u12 :: u13 :: u14 :: u15 :: u16 :: u17 :: u18 :: u19 :: u20 :: u21 :: u22 :: u23 :: u24 :: u25 :: u26 :: u27 :: u28 :: u29 :: u30 :: u31 :: u32 :: u33 :: u34 :: u35 :: u36 :: u37 :: u38 :: u39 :: u40 :: u41 :: u42 :: u43 :: u44 :: u45 :: u46 :: u47 :: u48 :: u49 :: u50 :: u51 :: s7 :: .slice (some ⟨g1, 0, none⟩) 3 3 :: .pointer (some ⟨RB, 0, none⟩) :: .int .i64 (k1 : Int) :: .pointer (some ⟨g1, k1, none⟩) :: .int .i64 z1 :: u58 :: .pointer (some ⟨RB, 0, none⟩) :: u60 :: u61 :: u62 :: u63 :: .pointer (some ⟨RB, 0, none⟩) :: u65 :: u66 :: u67 :: u68 :: u69 :: u70 :: u71 :: []), defers := [] } v := by
 obtain rfl := Option.some.inj (hops.symm.trans (rfl : regionIn 11 Try.f65.body = some _))
 have HOPS := Lib.hid hops
 have HQ := Lib.hid hQ
 have HPAN := Lib.hid hpan
 have HRlt := Lib.hid hRB
 have HLT := Lib.hid HLT
 have O := Lib.hid O
 have T := Lib.hid T
 have R := Lib.hid R
 have F1 := Lib.hid F1
 clear hops hQ hpan
 subst hl
 have hHeld : (fun V : World => True ∧ V.cell? ⟨g1, k1, none⟩ = some (.int .i64 z1)) v := ⟨trivial, (F1.out.cell k1).trans hz1⟩
 refine wpAnyH_ready (rs := [6, 8, 11]) (by kernel_rfl) (by simp) ?_
 refine AllReadyH.cons rfl (fun K hK => ?_) (AllReadyH.cons rfl (fun K hK => ?_) (AllReadyH.cons rfl (fun K hK => ?_) AllReadyH.nil))
 ·
  go_simp
  obtain ⟨v1, hV⟩ : ∃ V, V = World.alloc v (.cells #[.int .i64 0, .int .i64 5, .int .i64 1] 3) := ⟨_, rfl⟩
  have hb : Below v.heap.size v v1 := by rw [hV]; exact (Below.refl _ _).alloc (Nat.le_refl _) _
  have sv1 := hb.size
  obtain ⟨g2, hg2⟩ : ∃ g, g = v.heap.size := ⟨_, rfl⟩
  have F2 : Hid (Bk v1 g2 3 (iv [0, 5, 1]).toArray) := by show Bk _ _ _ _; rw [hV, hg2]; exact Bk.new rfl
  have F1 := Lib.hid (F1.out.later hb)
  have O := Lib.hid (O.out.later hb)
  have T := Lib.hid (T.out.then hb)
  have R := Lib.hid (R.out.low hb R.out.lt)
  rw [← hV, ← hg2]
  have yg2 : wd.heap.size ≤ g2 := by omega
  clear hV hb hg2
  refine hK.out _ _ ⟨trivial, (F1.out.cell k1).trans hz1⟩ (fun hHeld => ?_)
  clear hK K
  exact busy_12_1 _ HOPS.out _ HPAN.out HQ.out HRlt.out hP hxl hwd (by omega) O.out T.out (R.out.mono (by omega)) HLT.out F1.out yg1 F2.out yg2 hk1 hz1 _ (by kernel_rfl)
 ·
  go_simp
  go_wp2_with (go_at_call 47; refine (l20Rd_pick RB _ 3 _ R.out (by omega) (by omega)).mono ?_; rintro e v1 ⟨p2, rfl, hp0, hp1, _, hr, ht⟩; obtain ⟨k2, rfl⟩ := Int.eq_ofNat_of_zero_le hp0; have hk2 : k2 < 3 := by have := hp1 (by omega); omega)
  have sv1 := ht.size
  have F1 := Lib.hid (F1.out.turned ht (by have := HRlt.out; omega))
  have O := Lib.hid (O.out.kept (Kept.of_turned ht HRlt.out))
  have T := Lib.hid (T.out.trans ht)
  have R := Lib.hid hr
  clear hr ht hp0 hp1
  refine hK.out _ _ ⟨trivial, (F1.out.cell k1).trans hz1⟩ (fun hHeld => ?_)
  clear hK K
  exact busy_1_2 _ HOPS.out _ HPAN.out HQ.out HRlt.out hP hxl hwd (by omega) O.out T.out (R.out.mono (by omega)) HLT.out F1.out yg1 hk1 hk2 hz1 _ (by kernel_rfl)
 ·
  go_simp
  obtain ⟨v1, hV⟩ : ∃ V, V = World.alloc v (.cells #[.int .i64 (-1), .int .i64 3, .int .i64 0] 3) := ⟨_, rfl⟩
  have hb : Below v.heap.size v v1 := by rw [hV]; exact (Below.refl _ _).alloc (Nat.le_refl _) _
  have sv1 := hb.size
  obtain ⟨g3, hg3⟩ : ∃ g, g = v.heap.size := ⟨_, rfl⟩
  have F3 : Hid (Bk v1 g3 3 (iv [-1, 3, 0]).toArray) := by show Bk _ _ _ _; rw [hV, hg3]; exact Bk.new rfl
  have F1 := Lib.hid (F1.out.later hb)
  have O := Lib.hid (O.out.later hb)
  have T := Lib.hid (T.out.then hb)
  have R := Lib.hid (R.out.low hb R.out.lt)
  rw [← hV, ← hg3]
  have yg3 : wd.heap.size ≤ g3 := by omega
  clear hV hb hg3
  refine hK.out _ _ ⟨trivial, (F1.out.cell k1).trans hz1⟩ (fun hHeld => ?_)
  clear hK K
  exact busy_13_1 _ HOPS.out _ HPAN.out HQ.out HRlt.out hP hxl hwd (by omega) O.out T.out (R.out.mono (by omega)) HLT.out F1.out yg1 F3.out yg3 hk1 hz1 _ (by kernel_rfl)

set_option maxRecDepth 100000 in
set_option maxHeartbeats 4000000 in
theorem busy_2_1 (ops : Array Oper) (hops : regionIn 11 Try.f65.body = some ops) (Q : Exit → Act → World → Prop) {RB P1 : Nat} {w wd v : World} {xs : List GItem} {s7 u1 u2 u3 u4 u5 u6 u8 u9 u10 u11 u12 u13 u14 u15 u16 u17 u18 u19 u20 u21 u22 u23 u24 u25 u26 u27 u28 u29 u30 u31 u32 u33 u34 u35 u36 u37 u38 u39 u40 u41 u42 u43 u44 u45 u46 u47 u48 u49 u50 u51 u53 u56 u57 u60 u61 u62 u63 u65 u66 u67 u68 u69 u70 u71 : Value} {g2 : Nat} {k1 : Nat}
  (hpan : PanQ Q)
  (hQ : EndB Q RB P1 w xs u1 u2 u3 u4 u5 u6 u8 u9 u10 u11 u12 u13 u14 u15 u16 u17 u18 u19 u20 u21 u22 u23 u24 u25 u26 u27 u28 u29 u30 u31 u32 u33 u34 u35 u36 u37 u38 u39 u40 u41 u42 u43 u44 u45 u46 u47 u48 u49 u50 u51)
  (hRB : RB < w.heap.size) (hP : P1 ≤ 800010) (hxl : xs.length ≤ 2) (hwd : w.heap.size ≤ wd.heap.size) (hs : wd.heap.size ≤ v.heap.size)
  (O : OwnC itemC 111 v w.heap.size s7 xs) (T : Turned RB w v) (R : RdB v RB (P1 + 1)) (HLT : ∀ g, s7.ownBlock = some g → g < wd.heap.size)
  (F2 : Bk v g2 3 (iv [0, 5, 1]).toArray) (yg2 : wd.heap.size ≤ g2) (hk1 : k1 < 3)
  (listed : Array Bool) (hl : listed = #[true, false, true, true, false, false, true, true, false, false, false, false, true, false, false, false, false, false, false, false]) :
  wpAnyH Try.prog .any ops Q (fun V : World => True) 14 listed { tmps := List.toArray (.pointer (some ⟨RB, 0, none⟩) :: u1 :: u2 :: u3 :: u4 :: u5 :: u6 :: s7 :: u8 :: u9 :: u10 :: u11 :: u12 :: u13 :: u14 :: u15 :: u16 :: u17 :: u18 :: u19 :: u20 :: u21 :: u22 :: u23 :: u24 :: u25 :: u26 :: u27 :: u28 :: u29 :: u30 :: u31 :: u32 :: u33 :: u34 :: u35 :: u36 :: u37 :: u38 :: u39 :: u40 :: u41 :: u42 :: u43 :: u44 :: u45 :: u46 :: u47 :: u48 :: u49 :: u50 :: u51 :: s7 :: u53 :: .pointer (some ⟨RB, 0, none⟩) :: .int .i64 (k1 : Int) :: u56 :: u57 :: .slice (some ⟨g2, 0, none⟩) 3 3 :: .pointer (some ⟨RB, 0, none⟩) :: u60 :: u61 :: u62 :: u63 :: .pointer (some ⟨RB, 0, none⟩) :: u65 :: u66 :: u67 :: u68 :: u69 :: u70 :: u71 :: []), defers := [] } v := by
 obtain rfl := Option.some.inj (hops.symm.trans (rfl : regionIn 11 Try.f65.body = some _))
 have HOPS := Lib.hid hops
 have HQ := Lib.hid hQ
 have HPAN := Lib.hid hpan
 have HRlt := Lib.hid hRB
 have HLT := Lib.hid HLT
 have O := Lib.hid O
 have T := Lib.hid T
 have R := Lib.hid R
 have F2 := Lib.hid F2
 clear hops hQ hpan
 subst hl
 have hHeld : (fun V : World => True) v := trivial
 refine wpAnyH_ready (rs := [1, 8, 11]) (by kernel_rfl) (by simp) ?_
 refine AllReadyH.cons rfl (fun K hK => ?_) (AllReadyH.cons rfl (fun K hK => ?_) (AllReadyH.cons rfl (fun K hK => ?_) AllReadyH.nil))
 ·
  go_simp
  obtain ⟨v1, hV⟩ : ∃ V, V = World.alloc v (.cells #[.int .i64 (-1), .int .i64 6, .int .i64 0] 3) := ⟨_, rfl⟩
  have hb : Below v.heap.size v v1 := by rw [hV]; exact (Below.refl _ _).alloc (Nat.le_refl _) _
  have sv1 := hb.size
  obtain ⟨g1, hg1⟩ : ∃ g, g = v.heap.size := ⟨_, rfl⟩
  have F1 : Hid (Bk v1 g1 3 (iv [-1, 6, 0]).toArray) := by show Bk _ _ _ _; rw [hV, hg1]; exact Bk.new rfl
  have F2 := Lib.hid (F2.out.later hb)
  have O := Lib.hid (O.out.later hb)
  have T := Lib.hid (T.out.then hb)
  have R := Lib.hid (R.out.low hb R.out.lt)
  rw [← hV, ← hg1]
  have yg1 : wd.heap.size ≤ g1 := by omega
  clear hV hb hg1
  refine hK.out _ _ trivial (fun hHeld => ?_)
  clear hK K
  obtain ⟨z1, hz1⟩ : ∃ z : Int, (iv [-1, 6, 0]).toArray[k1]? = some (.int .i64 z) := lit3 _ _ _ _ hk1
  refine wpAnyH_more (S' := fun V : World => True ∧ V.cell? ⟨g1, k1, none⟩ = some (.int .i64 z1)) (fun V h => trivial) ?_
  clear hHeld
  have hHeld : (fun V : World => True ∧ V.cell? ⟨g1, k1, none⟩ = some (.int .i64 z1)) v1 := ⟨trivial, (F1.out.cell k1).trans hz1⟩
  have kz : (k1 : Int) < 3 := by omega
  refine wpAnyH_take (i := 4) (v := ?_) rfl (by kernel_rfl) (by kernel_rfl) (by kernel_rfl) (fun _ _ _ h => HPAN.out _ _ _ _ _ h) (Or.inl ⟨by rfl, ?_⟩) (by assumption) ?_
  rotate_left
  ·
   intro V hSw; (try dsimp only at hSw); go_simp; (try with_reducible rfl)
  simp only [sA, sB, sC, Act.put, sD, sE, sF]
  refine wpAnyH_take (i := 5) (v := ?_) rfl (by kernel_rfl) (by kernel_rfl) (by kernel_rfl) (fun _ _ _ h => HPAN.out _ _ _ _ _ h) (Or.inl ⟨by rfl, ?_⟩) (by assumption) ?_
  rotate_left
  ·
   intro V hSw; (try dsimp only at hSw); go_simp; (try with_reducible rfl)
  simp only [sA, sB, sC, Act.put, sD, sE, sF]
  clear kz
  exact busy_12_1 _ HOPS.out _ HPAN.out HQ.out HRlt.out hP hxl hwd (by omega) O.out T.out (R.out.mono (by omega)) HLT.out F1.out yg1 F2.out yg2 hk1 hz1 _ (by kernel_rfl)
 ·
  go_simp
  go_wp2_with (go_at_call 47; refine (l20Rd_pick RB _ 3 _ R.out (by omega) (by omega)).mono ?_; rintro e v1 ⟨p2, rfl, hp0, hp1, _, hr, ht⟩; obtain ⟨k2, rfl⟩ := Int.eq_ofNat_of_zero_le hp0; have hk2 : k2 < 3 := by have := hp1 (by omega); omega)
  have sv1 := ht.size
  have F2 := Lib.hid (F2.out.turned ht (by have := HRlt.out; omega))
  have O := Lib.hid (O.out.kept (Kept.of_turned ht HRlt.out))
  have T := Lib.hid (T.out.trans ht)
  have R := Lib.hid hr
  clear hr ht hp0 hp1
  refine hK.out _ _ trivial (fun hHeld => ?_)
  clear hK K
  obtain ⟨z2, hz2⟩ : ∃ z : Int, (iv [0, 5, 1]).toArray[k2]? = some (.int .i64 z) := lit3 _ _ _ _ hk2
  refine wpAnyH_more (S' := fun V : World => True ∧ V.cell? ⟨g2, k2, none⟩ = some (.int .i64 z2)) (fun V h => trivial) ?_
  clear hHeld
  have hHeld : (fun V : World => True ∧ V.cell? ⟨g2, k2, none⟩ = some (.int .i64 z2)) v1 := ⟨trivial, (F2.out.cell k2).trans hz2⟩
  have kz : (k2 : Int) < 3 := by omega
  refine wpAnyH_take (i := 9) (v := ?_) rfl (by kernel_rfl) (by kernel_rfl) (by kernel_rfl) (fun _ _ _ h => HPAN.out _ _ _ _ _ h) (Or.inl ⟨by rfl, ?_⟩) (by assumption) ?_
  rotate_left
  ·
   intro V hSw; (try dsimp only at hSw); go_simp; (try with_reducible rfl)
  simp only [sA, sB, sC, Act.put, sD, sE, sF]
  refine wpAnyH_take (i := 10) (v := ?_) rfl (by kernel_rfl) (by kernel_rfl) (by kernel_rfl) (fun _ _ _ h => HPAN.out _ _ _ _ _ h) (Or.inl ⟨by rfl, ?_⟩) (by assumption) ?_
  rotate_left
  ·
   intro V hSw; (try dsimp only at hSw); go_simp; (try with_reducible rfl)
  simp only [sA, sB, sC, Act.put, sD, sE, sF]
  clear kz
  exact busy_2_2 _ HOPS.out _ HPAN.out HQ.out HRlt.out hP hxl hwd (by omega) O.out T.out (R.out.mono (by omega)) HLT.out F2.out yg2 hk1 hk2 hz2 _ (by kernel_rfl)
 ·
  go_simp
  obtain ⟨v1, hV⟩ : ∃ V, V = World.alloc v (.cells #[.int .i64 (-1), .int .i64 3, .int .i64 0] 3) := ⟨_, rfl⟩
  have hb : Below v.heap.size v v1 := by rw [hV]; exact (Below.refl _ _).alloc (Nat.le_refl _) _
  have sv1 := hb.size
  obtain ⟨g3, hg3⟩ : ∃ g, g = v.heap.size := ⟨_, rfl⟩
  have F3 : Hid (Bk v1 g3 3 (iv [-1, 3, 0]).toArray) := by show Bk _ _ _ _; rw [hV, hg3]; exact Bk.new rfl
  have F2 := Lib.hid (F2.out.later hb)
  have O := Lib.hid (O.out.later hb)
  have T := Lib.hid (T.out.then hb)
  have R := Lib.hid (R.out.low hb R.out.lt)
  rw [← hV, ← hg3]
  have yg3 : wd.heap.size ≤ g3 := by omega
  clear hV hb hg3
  refine hK.out _ _ trivial (fun hHeld => ?_)
  clear hK K
  exact busy_23_1 _ HOPS.out _ HPAN.out HQ.out HRlt.out hP hxl hwd (by omega) O.out T.out (R.out.mono (by omega)) HLT.out F2.out yg2 F3.out yg3 hk1 _ (by kernel_rfl)

set_option maxRecDepth 100000 in
set_option maxHeartbeats 4000000 in
theorem busy_3_1 (ops : Array Oper) (hops : regionIn 11 Try.f65.body = some ops) (Q : Exit → Act → World → Prop) {RB P1 : Nat} {w wd v : World} {xs : List GItem} {s7 u1 u2 u3 u4 u5 u6 u8 u9 u10 u11 u12 u13 u14 u15 u16 u17 u18 u19 u20 u21 u22 u23 u24 u25 u26 u27 u28 u29 u30 u31 u32 u33 u34 u35 u36 u37 u38 u39 u40 u41 u42 u43 u44 u45 u46 u47 u48 u49 u50 u51 u53 u56 u57 u58 u60 u61 u62 u65 u66 u67 u68 u69 u70 u71 : Value} {g3 : Nat} {k1 : Nat}
  (hpan : PanQ Q)
  (hQ : EndB Q RB P1 w xs u1 u2 u3 u4 u5 u6 u8 u9 u10 u11 u12 u13 u14 u15 u16 u17 u18 u19 u20 u21 u22 u23 u24 u25 u26 u27 u28 u29 u30 u31 u32 u33 u34 u35 u36 u37 u38 u39 u40 u41 u42 u43 u44 u45 u46 u47 u48 u49 u50 u51)
  (hRB : RB < w.heap.size) (hP : P1 ≤ 800010) (hxl : xs.length ≤ 2) (hwd : w.heap.size ≤ wd.heap.size) (hs : wd.heap.size ≤ v.heap.size)
  (O : OwnC itemC 111 v w.heap.size s7 xs) (T : Turned RB w v) (R : RdB v RB (P1 + 1)) (HLT : ∀ g, s7.ownBlock = some g → g < wd.heap.size)
  (F3 : Bk v g3 3 (iv [-1, 3, 0]).toArray) (yg3 : wd.heap.size ≤ g3) (hk1 : k1 < 3)
  (listed : Array Bool) (hl : listed = #[true, false, true, true, false, false, false, true, false, false, false, true, true, false, false, false, false, false, false, false]) :
  wpAnyH Try.prog .any ops Q (fun V : World => True) 14 listed { tmps := List.toArray (.pointer (some ⟨RB, 0, none⟩) :: u1 :: u2 :: u3 :: u4 :: u5 :: u6 :: s7 :: u8 :: u9 :: u10 :: u11 :: u12 :: u13 :: u14 :: u15 :: u16 :: u17 :: u18 :: u19 :: u20 :: u21 :: u22 :: u23 :: u24 :: u25 :: u26 :: u27 :: u28 :: u29 :: u30 :: u31 :: u32 :: u33 :: u34 :: u35 :: u36 :: u37 :: u38 :: u39 :: u40 :: u41 :: u42 :: u43 :: u44 :: u45 :: u46 :: u47 :: u48 :: u49 :: u50 :: u51 :: s7 :: u53 :: .pointer (some ⟨RB, 0, none⟩) :: .int .i64 (k1 : Int) :: u56 :: u57 :: u58 :: .pointer (some ⟨RB, 0, none⟩) :: u60 :: u61 :: u62 :: .slice (some ⟨g3, 0, none⟩) 3 3 :: .pointer (some ⟨RB, 0, none⟩) :: u65 :: u66 :: u67 :: u68 :: u69 :: u70 :: u71 :: []), defers := [] } v := by
 obtain rfl := Option.some.inj (hops.symm.trans (rfl : regionIn 11 Try.f65.body = some _))
 have HOPS := Lib.hid hops
 have HQ := Lib.hid hQ
 have HPAN := Lib.hid hpan
 have HRlt := Lib.hid hRB
 have HLT := Lib.hid HLT
 have O := Lib.hid O
 have T := Lib.hid T
 have R := Lib.hid R
 have F3 := Lib.hid F3
 clear hops hQ hpan
 subst hl
 have hHeld : (fun V : World => True) v := trivial
 refine wpAnyH_ready (rs := [1, 6, 8]) (by kernel_rfl) (by simp) ?_
 refine AllReadyH.cons rfl (fun K hK => ?_) (AllReadyH.cons rfl (fun K hK => ?_) (AllReadyH.cons rfl (fun K hK => ?_) AllReadyH.nil))
 ·
  go_simp
  obtain ⟨v1, hV⟩ : ∃ V, V = World.alloc v (.cells #[.int .i64 (-1), .int .i64 6, .int .i64 0] 3) := ⟨_, rfl⟩
  have hb : Below v.heap.size v v1 := by rw [hV]; exact (Below.refl _ _).alloc (Nat.le_refl _) _
  have sv1 := hb.size
  obtain ⟨g1, hg1⟩ : ∃ g, g = v.heap.size := ⟨_, rfl⟩
  have F1 : Hid (Bk v1 g1 3 (iv [-1, 6, 0]).toArray) := by show Bk _ _ _ _; rw [hV, hg1]; exact Bk.new rfl
  have F3 := Lib.hid (F3.out.later hb)
  have O := Lib.hid (O.out.later hb)
  have T := Lib.hid (T.out.then hb)
  have R := Lib.hid (R.out.low hb R.out.lt)
  rw [← hV, ← hg1]
  have yg1 : wd.heap.size ≤ g1 := by omega
  clear hV hb hg1
  refine hK.out _ _ trivial (fun hHeld => ?_)
  clear hK K
  obtain ⟨z1, hz1⟩ : ∃ z : Int, (iv [-1, 6, 0]).toArray[k1]? = some (.int .i64 z) := lit3 _ _ _ _ hk1
  refine wpAnyH_more (S' := fun V : World => True ∧ V.cell? ⟨g1, k1, none⟩ = some (.int .i64 z1)) (fun V h => trivial) ?_
  clear hHeld
  have hHeld : (fun V : World => True ∧ V.cell? ⟨g1, k1, none⟩ = some (.int .i64 z1)) v1 := ⟨trivial, (F1.out.cell k1).trans hz1⟩
  have kz : (k1 : Int) < 3 := by omega
  refine wpAnyH_take (i := 4) (v := ?_) rfl (by kernel_rfl) (by kernel_rfl) (by kernel_rfl) (fun _ _ _ h => HPAN.out _ _ _ _ _ h) (Or.inl ⟨by rfl, ?_⟩) (by assumption) ?_
  rotate_left
  ·
   intro V hSw; (try dsimp only at hSw); go_simp; (try with_reducible rfl)
  simp only [sA, sB, sC, Act.put, sD, sE, sF]
  refine wpAnyH_take (i := 5) (v := ?_) rfl (by kernel_rfl) (by kernel_rfl) (by kernel_rfl) (fun _ _ _ h => HPAN.out _ _ _ _ _ h) (Or.inl ⟨by rfl, ?_⟩) (by assumption) ?_
  rotate_left
  ·
   intro V hSw; (try dsimp only at hSw); go_simp; (try with_reducible rfl)
  simp only [sA, sB, sC, Act.put, sD, sE, sF]
  clear kz
  exact busy_13_1 _ HOPS.out _ HPAN.out HQ.out HRlt.out hP hxl hwd (by omega) O.out T.out (R.out.mono (by omega)) HLT.out F1.out yg1 F3.out yg3 hk1 hz1 _ (by kernel_rfl)
 ·
  go_simp
  obtain ⟨v1, hV⟩ : ∃ V, V = World.alloc v (.cells #[.int .i64 0, .int .i64 5, .int .i64 1] 3) := ⟨_, rfl⟩
  have hb : Below v.heap.size v v1 := by rw [hV]; exact (Below.refl _ _).alloc (Nat.le_refl _) _
  have sv1 := hb.size
  obtain ⟨g2, hg2⟩ : ∃ g, g = v.heap.size := ⟨_, rfl⟩
  have F2 : Hid (Bk v1 g2 3 (iv [0, 5, 1]).toArray) := by show Bk _ _ _ _; rw [hV, hg2]; exact Bk.new rfl
  have F3 := Lib.hid (F3.out.later hb)
  have O := Lib.hid (O.out.later hb)
  have T := Lib.hid (T.out.then hb)
  have R := Lib.hid (R.out.low hb R.out.lt)
  rw [← hV, ← hg2]
  have yg2 : wd.heap.size ≤ g2 := by omega
  clear hV hb hg2
  refine hK.out _ _ trivial (fun hHeld => ?_)
  clear hK K
  exact busy_23_1 _ HOPS.out _ HPAN.out HQ.out HRlt.out hP hxl hwd (by omega) O.out T.out (R.out.mono (by omega)) HLT.out F2.out yg2 F3.out yg3 hk1 _ (by kernel_rfl)
 ·
  go_simp
  go_wp2_with (go_at_call 47; refine (l20Rd_pick RB _ 3 _ R.out (by omega) (by omega)).mono ?_; rintro e v1 ⟨p2, rfl, hp0, hp1, _, hr, ht⟩; obtain ⟨k2, rfl⟩ := Int.eq_ofNat_of_zero_le hp0; have hk2 : k2 < 3 := by have := hp1 (by omega); omega)
  have sv1 := ht.size
  have F3 := Lib.hid (F3.out.turned ht (by have := HRlt.out; omega))
  have O := Lib.hid (O.out.kept (Kept.of_turned ht HRlt.out))
  have T := Lib.hid (T.out.trans ht)
  have R := Lib.hid hr
  clear hr ht hp0 hp1
  refine hK.out _ _ trivial (fun hHeld => ?_)
  clear hK K
  exact busy_3_2 _ HOPS.out _ HPAN.out HQ.out HRlt.out hP hxl hwd (by omega) O.out T.out (R.out.mono (by omega)) HLT.out F3.out yg3 hk1 hk2 _ (by kernel_rfl)

set_option maxRecDepth 100000 in
set_option maxHeartbeats 4000000 in
theorem busy_0_2 (ops : Array Oper) (hops : regionIn 11 Try.f65.body = some ops) (Q : Exit → Act → World → Prop) {RB P1 : Nat} {w wd v : World} {xs : List GItem} {s7 u1 u2 u3 u4 u5 u6 u8 u9 u10 u11 u12 u13 u14 u15 u16 u17 u18 u19 u20 u21 u22 u23 u24 u25 u26 u27 u28 u29 u30 u31 u32 u33 u34 u35 u36 u37 u38 u39 u40 u41 u42 u43 u44 u45 u46 u47 u48 u49 u50 u51 u53 u56 u57 u58 u61 u62 u63 u65 u66 u67 u68 u69 u70 u71 : Value} {k1 k2 : Nat}
  (hpan : PanQ Q)
  (hQ : EndB Q RB P1 w xs u1 u2 u3 u4 u5 u6 u8 u9 u10 u11 u12 u13 u14 u15 u16 u17 u18 u19 u20 u21 u22 u23 u24 u25 u26 u27 u28 u29 u30 u31 u32 u33 u34 u35 u36 u37 u38 u39 u40 u41 u42 u43 u44 u45 u46 u47 u48 u49 u50 u51)
  (hRB : RB < w.heap.size) (hP : P1 ≤ 800010) (hxl : xs.length ≤ 2) (hwd : w.heap.size ≤ wd.heap.size) (hs : wd.heap.size ≤ v.heap.size)
  (O : OwnC itemC 111 v w.heap.size s7 xs) (T : Turned RB w v) (R : RdB v RB (P1 + 2)) (HLT : ∀ g, s7.ownBlock = some g → g < wd.heap.size) (hk1 : k1 < 3) (hk2 : k2 < 3)
  (listed : Array Bool) (hl : listed = #[true, false, true, true, false, false, false, true, true, false, false, false, true, false, false, false, false, false, false, false]) :
  wpAnyH Try.prog .any ops Q (fun V : World => True) 14 listed { tmps := List.toArray (.pointer (some ⟨RB, 0, none⟩) :: u1 :: u2 :: u3 :: u4 :: u5 :: u6 :: s7 :: u8 :: u9 :: u10 :: u11 :: u12 :: u13 :: u14 :: u15 :: u16 :: u17 :: u18 :: u19 :: u20 :: u21 :: u22 :: u23 :: u24 :: u25 :: u26 :: u27 :: u28 :: u29 :: u30 :: u31 :: u32 :: u33 :: u34 :: u35 :: u36 :: u37 :: u38 :: u39 :: u40 :: u41 :: u42 :: u43 :: u44 :: u45 :: u46 :: u47 :: u48 :: u49 :: u50 :: u51 :: s7 :: u53 :: .pointer (some ⟨RB, 0, none⟩) :: .int .i64 (k1 : Int) :: u56 :: u57 :: u58 :: .pointer (some ⟨RB, 0, none⟩) :: .int .i64 (k2 : Int) :: u61 :: u62 :: u63 :: .pointer (some ⟨RB, 0, none⟩) :: u65 :: u66 :: u67 :: u68 :: u69 :: u70 :: u71 :: []), defers := [] } v := by
 obtain rfl := Option.some.inj (hops.symm.trans (rfl : regionIn 11 Try.f65.body = some _))
 have HOPS := Lib.hid hops
 have HQ := Lib.hid hQ
 have HPAN := Lib.hid hpan
 have HRlt := Lib.hid hRB
 have HLT := Lib.hid HLT
 have O := Lib.hid O
 have T := Lib.hid T
 have R := Lib.hid R
 clear hops hQ hpan
 subst hl
 have hHeld : (fun V : World => True) v := trivial
 refine wpAnyH_ready (rs := [1, 6, 11, 13]) (by kernel_rfl) (by simp) ?_
 refine AllReadyH.cons rfl (fun K hK => ?_) (AllReadyH.cons rfl (fun K hK => ?_) (AllReadyH.cons rfl (fun K hK => ?_) (AllReadyH.cons rfl (fun K hK => ?_) AllReadyH.nil)))
 ·
  go_simp
  obtain ⟨v1, hV⟩ : ∃ V, V = World.alloc v (.cells #[.int .i64 (-1), .int .i64 6, .int .i64 0] 3) := ⟨_, rfl⟩
  have hb : Below v.heap.size v v1 := by rw [hV]; exact (Below.refl _ _).alloc (Nat.le_refl _) _
  have sv1 := hb.size
  obtain ⟨g1, hg1⟩ : ∃ g, g = v.heap.size := ⟨_, rfl⟩
  have F1 : Hid (Bk v1 g1 3 (iv [-1, 6, 0]).toArray) := by show Bk _ _ _ _; rw [hV, hg1]; exact Bk.new rfl
  have O := Lib.hid (O.out.later hb)
  have T := Lib.hid (T.out.then hb)
  have R := Lib.hid (R.out.low hb R.out.lt)
  rw [← hV, ← hg1]
  have yg1 : wd.heap.size ≤ g1 := by omega
  clear hV hb hg1
  refine hK.out _ _ trivial (fun hHeld => ?_)
  clear hK K
  obtain ⟨z1, hz1⟩ : ∃ z : Int, (iv [-1, 6, 0]).toArray[k1]? = some (.int .i64 z) := lit3 _ _ _ _ hk1
  refine wpAnyH_more (S' := fun V : World => True ∧ V.cell? ⟨g1, k1, none⟩ = some (.int .i64 z1)) (fun V h => trivial) ?_
  clear hHeld
  have hHeld : (fun V : World => True ∧ V.cell? ⟨g1, k1, none⟩ = some (.int .i64 z1)) v1 := ⟨trivial, (F1.out.cell k1).trans hz1⟩
  have kz : (k1 : Int) < 3 := by omega
  refine wpAnyH_take (i := 4) (v := ?_) rfl (by kernel_rfl) (by kernel_rfl) (by kernel_rfl) (fun _ _ _ h => HPAN.out _ _ _ _ _ h) (Or.inl ⟨by rfl, ?_⟩) (by assumption) ?_
  rotate_left
  ·
   intro V hSw; (try dsimp only at hSw); go_simp; (try with_reducible rfl)
  simp only [sA, sB, sC, Act.put, sD, sE, sF]
  refine wpAnyH_take (i := 5) (v := ?_) rfl (by kernel_rfl) (by kernel_rfl) (by kernel_rfl) (fun _ _ _ h => HPAN.out _ _ _ _ _ h) (Or.inl ⟨by rfl, ?_⟩) (by assumption) ?_
  rotate_left
  ·
   intro V hSw; (try dsimp only at hSw); go_simp; (try with_reducible rfl)
  simp only [sA, sB, sC, Act.put, sD, sE, sF]
  clear kz
  exact busy_1_2 _ HOPS.out _ HPAN.out HQ.out HRlt.out hP hxl hwd (by omega) O.out T.out (R.out.mono (by omega)) HLT.out F1.out yg1 hk1 hk2 hz1 _ (by kernel_rfl)
 ·
  go_simp
  obtain ⟨v1, hV⟩ : ∃ V, V = World.alloc v (.cells #[.int .i64 0, .int .i64 5, .int .i64 1] 3) := ⟨_, rfl⟩
  have hb : Below v.heap.size v v1 := by rw [hV]; exact (Below.refl _ _).alloc (Nat.le_refl _) _
  have sv1 := hb.size
  obtain ⟨g2, hg2⟩ : ∃ g, g = v.heap.size := ⟨_, rfl⟩
  have F2 : Hid (Bk v1 g2 3 (iv [0, 5, 1]).toArray) := by show Bk _ _ _ _; rw [hV, hg2]; exact Bk.new rfl
  have O := Lib.hid (O.out.later hb)
  have T := Lib.hid (T.out.then hb)
  have R := Lib.hid (R.out.low hb R.out.lt)
  rw [← hV, ← hg2]
  have yg2 : wd.heap.size ≤ g2 := by omega
  clear hV hb hg2
  refine hK.out _ _ trivial (fun hHeld => ?_)
  clear hK K
  obtain ⟨z2, hz2⟩ : ∃ z : Int, (iv [0, 5, 1]).toArray[k2]? = some (.int .i64 z) := lit3 _ _ _ _ hk2
  refine wpAnyH_more (S' := fun V : World => True ∧ V.cell? ⟨g2, k2, none⟩ = some (.int .i64 z2)) (fun V h => trivial) ?_
  clear hHeld
  have hHeld : (fun V : World => True ∧ V.cell? ⟨g2, k2, none⟩ = some (.int .i64 z2)) v1 := ⟨trivial, (F2.out.cell k2).trans hz2⟩
  have kz : (k2 : Int) < 3 := by omega
  refine wpAnyH_take (i := 9) (v := ?_) rfl (by kernel_rfl) (by kernel_rfl) (by kernel_rfl) (fun _ _ _ h => HPAN.out _ _ _ _ _ h) (Or.inl ⟨by rfl, ?_⟩) (by assumption) ?_
  rotate_left
  ·
   intro V hSw; (try dsimp only at hSw); go_simp; (try with_reducible rfl)
  simp only [sA, sB, sC, Act.put, sD, sE, sF]
  refine wpAnyH_take (i := 10) (v := ?_) rfl (by kernel_rfl) (by kernel_rfl) (by kernel_rfl) (fun _ _ _ h => HPAN.out _ _ _ _ _ h) (Or.inl ⟨by rfl, ?_⟩) (by assumption) ?_
  rotate_left
  ·
   intro V hSw; (try dsimp only at hSw); go_simp; (try with_reducible rfl)
  simp only [sA, sB, sC, Act.put, sD, sE, sF]
  clear kz
  exact busy_2_2 _ HOPS.out _ HPAN.out HQ.out HRlt.out hP hxl hwd (by omega) O.out T.out (R.out.mono (by omega)) HLT.out F2.out yg2 hk1 hk2 hz2 _ (by kernel_rfl)
 ·
  go_simp
  obtain ⟨v1, hV⟩ : ∃ V, V = World.alloc v (.cells #[.int .i64 (-1), .int .i64 3, .int .i64 0] 3) := ⟨_, rfl⟩
  have hb : Below v.heap.size v v1 := by rw [hV]; exact (Below.refl _ _).alloc (Nat.le_refl _) _
  have sv1 := hb.size
  obtain ⟨g3, hg3⟩ : ∃ g, g = v.heap.size := ⟨_, rfl⟩
  have F3 : Hid (Bk v1 g3 3 (iv [-1, 3, 0]).toArray) := by show Bk _ _ _ _; rw [hV, hg3]; exact Bk.new rfl
  have O := Lib.hid (O.out.later hb)
  have T := Lib.hid (T.out.then hb)
  have R := Lib.hid (R.out.low hb R.out.lt)
  rw [← hV, ← hg3]
  have yg3 : wd.heap.size ≤ g3 := by omega
  clear hV hb hg3
  refine hK.out _ _ trivial (fun hHeld => ?_)
  clear hK K
  exact busy_3_2 _ HOPS.out _ HPAN.out HQ.out HRlt.out hP hxl hwd (by omega) O.out T.out (R.out.mono (by omega)) HLT.out F3.out yg3 hk1 hk2 _ (by kernel_rfl)
 ·
  go_simp
  go_wp2_with (go_at_call 47; refine (l20Rd_pick RB _ 3 _ R.out (by omega) (by omega)).mono ?_; rintro e v1 ⟨p3, rfl, hp0, hp1, _, hr, ht⟩; obtain ⟨k3, rfl⟩ := Int.eq_ofNat_of_zero_le hp0; have hk3 : k3 < 3 := by have := hp1 (by omega); omega)
  have sv1 := ht.size
  have O := Lib.hid (O.out.kept (Kept.of_turned ht HRlt.out))
  have T := Lib.hid (T.out.trans ht)
  have R := Lib.hid hr
  clear hr ht hp0 hp1
  refine hK.out _ _ trivial (fun hHeld => ?_)
  clear hK K
  exact busy_0_3 _ HOPS.out _ HPAN.out HQ.out HRlt.out hP hxl hwd (by omega) O.out T.out (R.out.mono (by omega)) HLT.out hk1 hk2 hk3 _ (by kernel_rfl)

set_option maxRecDepth 100000 in
set_option maxHeartbeats 4000000 in
theorem busy_1_0 (ops : Array Oper) (hops : regionIn 11 Try.f65.body = some ops) (Q : Exit → Act → World → Prop) {RB P1 : Nat} {w wd v : World} {xs : List GItem} {s7 u1 u2 u3 u4 u5 u6 u8 u9 u10 u11 u12 u13 u14 u15 u16 u17 u18 u19 u20 u21 u22 u23 u24 u25 u26 u27 u28 u29 u30 u31 u32 u33 u34 u35 u36 u37 u38 u39 u40 u41 u42 u43 u44 u45 u46 u47 u48 u49 u50 u51 u55 u56 u57 u58 u60 u61 u62 u63 u65 u66 u67 u68 u69 u70 u71 : Value} {g1 : Nat}
  (hpan : PanQ Q)
  (hQ : EndB Q RB P1 w xs u1 u2 u3 u4 u5 u6 u8 u9 u10 u11 u12 u13 u14 u15 u16 u17 u18 u19 u20 u21 u22 u23 u24 u25 u26 u27 u28 u29 u30 u31 u32 u33 u34 u35 u36 u37 u38 u39 u40 u41 u42 u43 u44 u45 u46 u47 u48 u49 u50 u51)
  (hRB : RB < w.heap.size) (hP : P1 ≤ 800010) (hxl : xs.length ≤ 2) (hwd : w.heap.size ≤ wd.heap.size) (hs : wd.heap.size ≤ v.heap.size)
  (O : OwnC itemC 111 v w.heap.size s7 xs) (T : Turned RB w v) (R : RdB v RB (P1 + 0)) (HLT : ∀ g, s7.ownBlock = some g → g < wd.heap.size)
  (F1 : Bk v g1 3 (iv [-1, 6, 0]).toArray) (yg1 : wd.heap.size ≤ g1)
  (listed : Array Bool) (hl : listed = #[true, true, true, false, false, false, false, true, false, false, false, false, true, false, false, false, false, false, false, false]) :
  wpAnyH Try.prog .any ops Q (fun V : World => True) 15 listed { tmps := List.toArray (.pointer (some ⟨RB, 0, none⟩) :: u1 :: u2 :: u3 :: u4 :: u5 :: u6 :: s7 :: u8 :: u9 :: u10 :: u11 :: u12 :: u13 :: u14 :: u15 :: u16 :: u17 :: u18 :: u19 :: u20 :: u21 :: u22 :: u23 :: u24 :: u25 :: u26 :: u27 :: u28 :: u29 :: u30 :: u31 :: u32 :: u33 :: u34 :: u35 :: u36 :: u37 :: u38 :: u39 :: u40 :: u41 :: u42 :: u43 :: u44 :: u45 :: u46 :: u47 :: u48 :: u49 :: u50 :: u51 :: s7 :: .slice (some ⟨g1, 0, none⟩) 3 3 :: .pointer (some ⟨RB, 0, none⟩) :: u55 :: u56 :: u57 :: u58 :: .pointer (some ⟨RB, 0, none⟩) :: u60 :: u61 :: u62 :: u63 :: .pointer (some ⟨RB, 0, none⟩) :: u65 :: u66 :: u67 :: u68 :: u69 :: u70 :: u71 :: []), defers := [] } v := by
 obtain rfl := Option.some.inj (hops.symm.trans (rfl : regionIn 11 Try.f65.body = some _))
 have HOPS := Lib.hid hops
 have HQ := Lib.hid hQ
 have HPAN := Lib.hid hpan
 have HRlt := Lib.hid hRB
 have HLT := Lib.hid HLT
 have O := Lib.hid O
 have T := Lib.hid T
 have R := Lib.hid R
 have F1 := Lib.hid F1
 clear hops hQ hpan
 subst hl
 have hHeld : (fun V : World => True) v := trivial
 refine wpAnyH_ready (rs := [3, 6, 11]) (by kernel_rfl) (by simp) ?_
 refine AllReadyH.cons rfl (fun K hK => ?_) (AllReadyH.cons rfl (fun K hK => ?_) (AllReadyH.cons rfl (fun K hK => ?_) AllReadyH.nil))
 ·
  go_simp
  go_wp2_with (go_at_call 47; refine (l20Rd_pick RB _ 3 _ R.out (by omega) (by omega)).mono ?_; rintro e v1 ⟨p1, rfl, hp0, hp1, _, hr, ht⟩; obtain ⟨k1, rfl⟩ := Int.eq_ofNat_of_zero_le hp0; have hk1 : k1 < 3 := by have := hp1 (by omega); omega)
  have sv1 := ht.size
  have F1 := Lib.hid (F1.out.turned ht (by have := HRlt.out; omega))
  have O := Lib.hid (O.out.kept (Kept.of_turned ht HRlt.out))
  have T := Lib.hid (T.out.trans ht)
  have R := Lib.hid hr
  clear hr ht hp0 hp1
  refine hK.out _ _ trivial (fun hHeld => ?_)
  clear hK K
  obtain ⟨z1, hz1⟩ : ∃ z : Int, (iv [-1, 6, 0]).toArray[k1]? = some (.int .i64 z) := lit3 _ _ _ _ hk1
  refine wpAnyH_more (S' := fun V : World => True ∧ V.cell? ⟨g1, k1, none⟩ = some (.int .i64 z1)) (fun V h => trivial) ?_
  clear hHeld
  have hHeld : (fun V : World => True ∧ V.cell? ⟨g1, k1, none⟩ = some (.int .i64 z1)) v1 := ⟨trivial, (F1.out.cell k1).trans hz1⟩
  have kz : (k1 : Int) < 3 := by omega
  refine wpAnyH_take (i := 4) (v := ?_) rfl (by kernel_rfl) (by kernel_rfl) (by kernel_rfl) (fun _ _ _ h => HPAN.out _ _ _ _ _ h) (Or.inl ⟨by rfl, ?_⟩) (by assumption) ?_
  rotate_left
  ·
   intro V hSw; (try dsimp only at hSw); go_simp; (try with_reducible rfl)
  simp only [sA, sB, sC, Act.put, sD, sE, sF]
  refine wpAnyH_take (i := 5) (v := ?_) rfl (by kernel_rfl) (by kernel_rfl) (by kernel_rfl) (fun _ _ _ h => HPAN.out _ _ _ _ _ h) (Or.inl ⟨by rfl, ?_⟩) (by assumption) ?_
  rotate_left
  ·
   intro V hSw; (try dsimp only at hSw); go_simp; (try with_reducible rfl)
  simp only [sA, sB, sC, Act.put, sD, sE, sF]
  clear kz
  exact busy_1_1 _ HOPS.out _ HPAN.out HQ.out HRlt.out hP hxl hwd (by omega) O.out T.out (R.out.mono (by omega)) HLT.out F1.out yg1 hk1 hz1 _ (by kernel_rfl)
 ·
  go_simp
  obtain ⟨v1, hV⟩ : ∃ V, V = World.alloc v (.cells #[.int .i64 0, .int .i64 5, .int .i64 1] 3) := ⟨_, rfl⟩
  have hb : Below v.heap.size v v1 := by rw [hV]; exact (Below.refl _ _).alloc (Nat.le_refl _) _
  have sv1 := hb.size
  obtain ⟨g2, hg2⟩ : ∃ g, g = v.heap.size := ⟨_, rfl⟩
  have F2 : Hid (Bk v1 g2 3 (iv [0, 5, 1]).toArray) := by show Bk _ _ _ _; rw [hV, hg2]; exact Bk.new rfl
  have F1 := Lib.hid (F1.out.later hb)
  have O := Lib.hid (O.out.later hb)
  have T := Lib.hid (T.out.then hb)
  have R := Lib.hid (R.out.low hb R.out.lt)
  rw [← hV, ← hg2]
  have yg2 : wd.heap.size ≤ g2 := by omega
  clear hV hb hg2
  refine hK.out _ _ trivial (fun hHeld => ?_)
  clear hK K
  exact busy_12_0 _ HOPS.out _ HPAN.out HQ.out HRlt.out hP hxl hwd (by omega) O.out T.out (R.out.mono (by omega)) HLT.out F1.out yg1 F2.out yg2 _ (by kernel_rfl)
 ·
  go_simp
  obtain ⟨v1, hV⟩ : ∃ V, V = World.alloc v (.cells #[.int .i64 (-1), .int .i64 3, .int .i64 0] 3) := ⟨_, rfl⟩
  have hb : Below v.heap.size v v1 := by rw [hV]; exact (Below.refl _ _).alloc (Nat.le_refl _) _
  have sv1 := hb.size
  obtain ⟨g3, hg3⟩ : ∃ g, g = v.heap.size := ⟨_, rfl⟩
  have F3 : Hid (Bk v1 g3 3 (iv [-1, 3, 0]).toArray) := by show Bk _ _ _ _; rw [hV, hg3]; exact Bk.new rfl
  have F1 := Lib.hid (F1.out.later hb)
  have O := Lib.hid (O.out.later hb)
  have T := Lib.hid (T.out.then hb)
  have R := Lib.hid (R.out.low hb R.out.lt)
  rw [← hV, ← hg3]
  have yg3 : wd.heap.size ≤ g3 := by omega
  clear hV hb hg3
  refine hK.out _ _ trivial (fun hHeld => ?_)
  clear hK K
  exact busy_13_0 _ HOPS.out _ HPAN.out HQ.out HRlt.out hP hxl hwd (by omega) O.out T.out (R.out.mono (by omega)) HLT.out F1.out yg1 F3.out yg3 _ (by kernel_rfl)

set_option maxRecDepth 100000 in
set_option maxHeartbeats 4000000 in
theorem busy_2_0 (ops : Array Oper) (hops : regionIn 11 Try.f65.body = some ops) (Q : Exit → Act → World → Prop) {RB P1 : Nat} {w wd v : World} {xs : List GItem} {s7 u1 u2 u3 u4 u5 u6 u8 u9 u10 u11 u12 u13 u14 u15 u16 u17 u18 u19 u20 u21 u22 u23 u24 u25 u26 u27 u28 u29 u30 u31 u32 u33 u34 u35 u36 u37 u38 u39 u40 u41 u42 u43 u44 u45 u46 u47 u48 u49 u50 u51 u53 u55 u56 u57 u60 u61 u62 u63 u65 u66 u67 u68 u69 u70 u71 : Value} {g2 : Nat}
  (hpan : PanQ Q)
  (hQ : EndB Q RB P1 w xs u1 u2 u3 u4 u5 u6 u8 u9 u10 u11 u12 u13 u14 u15 u16 u17 u18 u19 u20 u21 u22 u23 u24 u25 u26 u27 u28 u29 u30 u31 u32 u33 u34 u35 u36 u37 u38 u39 u40 u41 u42 u43 u44 u45 u46 u47 u48 u49 u50 u51)
  (hRB : RB < w.heap.size) (hP : P1 ≤ 800010) (hxl : xs.length ≤ 2) (hwd : w.heap.size ≤ wd.heap.size) (hs : wd.heap.size ≤ v.heap.size)
  (O : OwnC itemC 111 v w.heap.size s7 xs) (T : Turned RB w v) (R : RdB v RB (P1 + 0)) (HLT : ∀ g, s7.ownBlock = some g → g < wd.heap.size)
  (F2 : Bk v g2 3 (iv [0, 5, 1]).toArray) (yg2 : wd.heap.size ≤ g2)
  (listed : Array Bool) (hl : listed = #[true, false, true, false, false, false, true, true, false, false, false, false, true, false, false, false, false, false, false, false]) :
  wpAnyH Try.prog .any ops Q (fun V : World => True) 15 listed { tmps := List.toArray (.pointer (some ⟨RB, 0, none⟩) :: u1 :: u2 :: u3 :: u4 :: u5 :: u6 :: s7 :: u8 :: u9 :: u10 :: u11 :: u12 :: u13 :: u14 :: u15 :: u16 :: u17 :: u18 :: u19 :: u20 :: u21 :: u22 :: u23 :: u24 :: u25 :: u26 :: u27 :: u28 :: u29 :: u30 :: u31 :: u32 :: u33 :: u34 :: u35 :: u36 :: u37 :: u38 :: u39 :: u40 :: u41 :: u42 :: u43 :: u44 :: u45 :: u46 :: u47 :: u48 :: u49 :: u50 :: u51 :: s7 :: u53 :: .pointer (some ⟨RB, 0, none⟩) :: u55 :: u56 :: u57 :: .slice (some ⟨g2, 0, none⟩) 3 3 :: .pointer (some ⟨RB, 0, none⟩) :: u60 :: u61 :: u62 :: u63 :: .pointer (some ⟨RB, 0, none⟩) :: u65 :: u66 :: u67 :: u68 :: u69 :: u70 :: u71 :: []), defers := [] } v := by
 obtain rfl := Option.some.inj (hops.symm.trans (rfl : regionIn 11 Try.f65.body = some _))
 have HOPS := Lib.hid hops
 have HQ := Lib.hid hQ
 have HPAN := Lib.hid hpan
 have HRlt := Lib.hid hRB
 have HLT := Lib.hid HLT
 have O := Lib.hid O
 have T := Lib.hid T
 have R := Lib.hid R
 have F2 := Lib.hid F2
 clear hops hQ hpan
 subst hl
 have hHeld : (fun V : World => True) v := trivial
 refine wpAnyH_ready (rs := [1, 3, 11]) (by kernel_rfl) (by simp) ?_
 refine AllReadyH.cons rfl (fun K hK => ?_) (AllReadyH.cons rfl (fun K hK => ?_) (AllReadyH.cons rfl (fun K hK => ?_) AllReadyH.nil))
 ·
  go_simp
  obtain ⟨v1, hV⟩ : ∃ V, V = World.alloc v (.cells #[.int .i64 (-1), .int .i64 6, .int .i64 0] 3) := ⟨_, rfl⟩
  have hb : Below v.heap.size v v1 := by rw [hV]; exact (Below.refl _ _).alloc (Nat.le_refl _) _
  have sv1 := hb.size
  obtain ⟨g1, hg1⟩ : ∃ g, g = v.heap.size := ⟨_, rfl⟩
  have F1 : Hid (Bk v1 g1 3 (iv [-1, 6, 0]).toArray) := by show Bk _ _ _ _; rw [hV, hg1]; exact Bk.new rfl
  have F2 := Lib.hid (F2.out.later hb)
  have O := Lib.hid (O.out.later hb)
  have T := Lib.hid (T.out.then hb)
  have R := Lib.hid (R.out.low hb R.out.lt)
  rw [← hV, ← hg1]
  have yg1 : wd.heap.size ≤ g1 := by omega
  clear hV hb hg1
  refine hK.out _ _ trivial (fun hHeld => ?_)
  clear hK K
  exact busy_12_0 _ HOPS.out _ HPAN.out HQ.out HRlt.out hP hxl hwd (by omega) O.out T.out (R.out.mono (by omega)) HLT.out F1.out yg1 F2.out yg2 _ (by kernel_rfl)
 ·
  go_simp
  go_wp2_with (go_at_call 47; refine (l20Rd_pick RB _ 3 _ R.out (by omega) (by omega)).mono ?_; rintro e v1 ⟨p1, rfl, hp0, hp1, _, hr, ht⟩; obtain ⟨k1, rfl⟩ := Int.eq_ofNat_of_zero_le hp0; have hk1 : k1 < 3 := by have := hp1 (by omega); omega)
  have sv1 := ht.size
  have F2 := Lib.hid (F2.out.turned ht (by have := HRlt.out; omega))
  have O := Lib.hid (O.out.kept (Kept.of_turned ht HRlt.out))
  have T := Lib.hid (T.out.trans ht)
  have R := Lib.hid hr
  clear hr ht hp0 hp1
  refine hK.out _ _ trivial (fun hHeld => ?_)
  clear hK K
  exact busy_2_1 _ HOPS.out _ HPAN.out HQ.out HRlt.out hP hxl hwd (by omega) O.out T.out (R.out.mono (by omega)) HLT.out F2.out yg2 hk1 _ (by kernel_rfl)
 ·
  go_simp
  obtain ⟨v1, hV⟩ : ∃ V, V = World.alloc v (.cells #[.int .i64 (-1), .int .i64 3, .int .i64 0] 3) := ⟨_, rfl⟩
  have hb : Below v.heap.size v v1 := by rw [hV]; exact (Below.refl _ _).alloc (Nat.le_refl _) _
  have sv1 := hb.size
  obtain ⟨g3, hg3⟩ : ∃ g, g = v.heap.size := ⟨_, rfl⟩
  have F3 : Hid (Bk v1 g3 3 (iv [-1, 3, 0]).toArray) := by show Bk _ _ _ _; rw [hV, hg3]; exact Bk.new rfl
  have F2 := Lib.hid (F2.out.later hb)
  have O := Lib.hid (O.out.later hb)
  have T := Lib.hid (T.out.then hb)
  have R := Lib.hid (R.out.low hb R.out.lt)
  rw [← hV, ← hg3]
  have yg3 : wd.heap.size ≤ g3 := by omega
  clear hV hb hg3
  refine hK.out _ _ trivial (fun hHeld => ?_)
  clear hK K
  exact busy_23_0 _ HOPS.out _ HPAN.out HQ.out HRlt.out hP hxl hwd (by omega) O.out T.out (R.out.mono (by omega)) HLT.out F2.out yg2 F3.out yg3 _ (by kernel_rfl)

set_option maxRecDepth 100000 in
set_option maxHeartbeats 4000000 in
theorem busy_3_0 (ops : Array Oper) (hops : regionIn 11 Try.f65.body = some ops) (Q : Exit → Act → World → Prop) {RB P1 : Nat} {w wd v : World} {xs : List GItem} {s7 u1 u2 u3 u4 u5 u6 u8 u9 u10 u11 u12 u13 u14 u15 u16 u17 u18 u19 u20 u21 u22 u23 u24 u25 u26 u27 u28 u29 u30 u31 u32 u33 u34 u35 u36 u37 u38 u39 u40 u41 u42 u43 u44 u45 u46 u47 u48 u49 u50 u51 u53 u55 u56 u57 u58 u60 u61 u62 u65 u66 u67 u68 u69 u70 u71 : Value} {g3 : Nat}
  (hpan : PanQ Q)
  (hQ : EndB Q RB P1 w xs u1 u2 u3 u4 u5 u6 u8 u9 u10 u11 u12 u13 u14 u15 u16 u17 u18 u19 u20 u21 u22 u23 u24 u25 u26 u27 u28 u29 u30 u31 u32 u33 u34 u35 u36 u37 u38 u39 u40 u41 u42 u43 u44 u45 u46 u47 u48 u49 u50 u51)
  (hRB : RB < w.heap.size) (hP : P1 ≤ 800010) (hxl : xs.length ≤ 2) (hwd : w.heap.size ≤ wd.heap.size) (hs : wd.heap.size ≤ v.heap.size)
  (O : OwnC itemC 111 v w.heap.size s7 xs) (T : Turned RB w v) (R : RdB v RB (P1 + 0)) (HLT : ∀ g, s7.ownBlock = some g → g < wd.heap.size)
  (F3 : Bk v g3 3 (iv [-1, 3, 0]).toArray) (yg3 : wd.heap.size ≤ g3)
  (listed : Array Bool) (hl : listed = #[true, false, true, false, false, false, false, true, false, false, false, true, true, false, false, false, false, false, false, false]) :
  wpAnyH Try.prog .any ops Q (fun V : World => True) 15 listed { tmps := List.toArray (.pointer (some ⟨RB, 0, none⟩) :: u1 :: u2 :: u3 :: u4 :: u5 :: u6 :: s7 :: u8 :: u9 :: u10 :: u11 :: u12 :: u13 :: u14 :: u15 :: u16 :: u17 :: u18 :: u19 :: u20 :: u21 :: u22 :: u23 :: u24 :: u25 :: u26 :: u27 :: u28 :: u29 :: u30 :: u31 :: u32 :: u33 :: u34 :: u35 :: u36 :: u37 :: u38 :: u39 :: u40 :: u41 :: u42 :: u43 :: u44 :: u45 :: u46 :: u47 :: u48 :: u49 :: u50 :: u51 :: s7 :: u53 :: .pointer (some ⟨RB, 0, none⟩) :: u55 :: u56 :: u57 :: u58 :: .pointer (some ⟨RB, 0, none⟩) :: u60 :: u61 :: u62 :: .slice (some ⟨g3, 0, none⟩) 3 3 :: .pointer (some ⟨RB, 0, none⟩) :: u65 :: u66 :: u67 :: u68 :: u69 :: u70 :: u71 :: []), defers := [] } v := by
 obtain rfl := Option.some.inj (hops.symm.trans (rfl : regionIn 11 Try.f65.body = some _))
 have HOPS := Lib.hid hops
 have HQ := Lib.hid hQ
 have HPAN := Lib.hid hpan
 have HRlt := Lib.hid hRB
 have HLT := Lib.hid HLT
 have O := Lib.hid O
 have T := Lib.hid T
 have R := Lib.hid R
 have F3 := Lib.hid F3
 clear hops hQ hpan
 subst hl
 have hHeld : (fun V : World => True) v := trivial
 refine wpAnyH_ready (rs := [1, 3, 6]) (by kernel_rfl) (by simp) ?_
 refine AllReadyH.cons rfl (fun K hK => ?_) (AllReadyH.cons rfl (fun K hK => ?_) (AllReadyH.cons rfl (fun K hK => ?_) AllReadyH.nil))
 ·
  go_simp
  obtain ⟨v1, hV⟩ : ∃ V, V = World.alloc v (.cells #[.int .i64 (-1), .int .i64 6, .int .i64 0] 3) := ⟨_, rfl⟩
  have hb : Below v.heap.size v v1 := by rw [hV]; exact (Below.refl _ _).alloc (Nat.le_refl _) _
  have sv1 := hb.size
  obtain ⟨g1, hg1⟩ : ∃ g, g = v.heap.size := ⟨_, rfl⟩
  have F1 : Hid (Bk v1 g1 3 (iv [-1, 6, 0]).toArray) := by show Bk _ _ _ _; rw [hV, hg1]; exact Bk.new rfl
  have F3 := Lib.hid (F3.out.later hb)
  have O := Lib.hid (O.out.later hb)
  have T := Lib.hid (T.out.then hb)
  have R := Lib.hid (R.out.low hb R.out.lt)
  rw [← hV, ← hg1]
  have yg1 : wd.heap.size ≤ g1 := by omega
  clear hV hb hg1
  refine hK.out _ _ trivial (fun hHeld => ?_)
  clear hK K
  exact busy_13_0 _ HOPS.out _ HPAN.out HQ.out HRlt.out hP hxl hwd (by omega) O.out T.out (R.out.mono (by omega)) HLT.out F1.out yg1 F3.out yg3 _ (by kernel_rfl)
 ·
  go_simp
  go_wp2_with (go_at_call 47; refine (l20Rd_pick RB _ 3 _ R.out (by omega) (by omega)).mono ?_; rintro e v1 ⟨p1, rfl, hp0, hp1, _, hr, ht⟩; obtain ⟨k1, rfl⟩ := Int.eq_ofNat_of_zero_le hp0; have hk1 : k1 < 3 := by have := hp1 (by omega); omega)
  have sv1 := ht.size
  have F3 := Lib.hid (F3.out.turned ht (by have := HRlt.out; omega))
  have O := Lib.hid (O.out.kept (Kept.of_turned ht HRlt.out))
  have T := Lib.hid (T.out.trans ht)
  have R := Lib.hid hr
  clear hr ht hp0 hp1
  refine hK.out _ _ trivial (fun hHeld => ?_)
  clear hK K
  exact busy_3_1 _ HOPS.out _ HPAN.out HQ.out HRlt.out hP hxl hwd (by omega) O.out T.out (R.out.mono (by omega)) HLT.out F3.out yg3 hk1 _ (by kernel_rfl)
 ·
  go_simp
  obtain ⟨v1, hV⟩ : ∃ V, V = World.alloc v (.cells #[.int .i64 0, .int .i64 5, .int .i64 1] 3) := ⟨_, rfl⟩
  have hb : Below v.heap.size v v1 := by rw [hV]; exact (Below.refl _ _).alloc (Nat.le_refl _) _
  have sv1 := hb.size
  obtain ⟨g2, hg2⟩ : ∃ g, g = v.heap.size := ⟨_, rfl⟩
  have F2 : Hid (Bk v1 g2 3 (iv [0, 5, 1]).toArray) := by show Bk _ _ _ _; rw [hV, hg2]; exact Bk.new rfl
  have F3 := Lib.hid (F3.out.later hb)
  have O := Lib.hid (O.out.later hb)
  have T := Lib.hid (T.out.then hb)
  have R := Lib.hid (R.out.low hb R.out.lt)
  rw [← hV, ← hg2]
  have yg2 : wd.heap.size ≤ g2 := by omega
  clear hV hb hg2
  refine hK.out _ _ trivial (fun hHeld => ?_)
  clear hK K
  exact busy_23_0 _ HOPS.out _ HPAN.out HQ.out HRlt.out hP hxl hwd (by omega) O.out T.out (R.out.mono (by omega)) HLT.out F2.out yg2 F3.out yg3 _ (by kernel_rfl)

set_option maxRecDepth 100000 in
set_option maxHeartbeats 4000000 in
theorem busy_0_1 (ops : Array Oper) (hops : regionIn 11 Try.f65.body = some ops) (Q : Exit → Act → World → Prop) {RB P1 : Nat} {w wd v : World} {xs : List GItem} {s7 u1 u2 u3 u4 u5 u6 u8 u9 u10 u11 u12 u13 u14 u15 u16 u17 u18 u19 u20 u21 u22 u23 u24 u25 u26 u27 u28 u29 u30 u31 u32 u33 u34 u35 u36 u37 u38 u39 u40 u41 u42 u43 u44 u45 u46 u47 u48 u49 u50 u51 u53 u56 u57 u58 u60 u61 u62 u63 u65 u66 u67 u68 u69 u70 u71 : Value} {k1 : Nat}
  (hpan : PanQ Q)
  (hQ : EndB Q RB P1 w xs u1 u2 u3 u4 u5 u6 u8 u9 u10 u11 u12 u13 u14 u15 u16 u17 u18 u19 u20 u21 u22 u23 u24 u25 u26 u27 u28 u29 u30 u31 u32 u33 u34 u35 u36 u37 u38 u39 u40 u41 u42 u43 u44 u45 u46 u47 u48 u49 u50 u51)
  (hRB : RB < w.heap.size) (hP : P1 ≤ 800010) (hxl : xs.length ≤ 2) (hwd : w.heap.size ≤ wd.heap.size) (hs : wd.heap.size ≤ v.heap.size)
  (O : OwnC itemC 111 v w.heap.size s7 xs) (T : Turned RB w v) (R : RdB v RB (P1 + 1)) (HLT : ∀ g, s7.ownBlock = some g → g < wd.heap.size) (hk1 : k1 < 3)
  (listed : Array Bool) (hl : listed = #[true, false, true, true, false, false, false, true, false, false, false, false, true, false, false, false, false, false, false, false]) :
  wpAnyH Try.prog .any ops Q (fun V : World => True) 15 listed { tmps := List.toArray (.pointer (some ⟨RB, 0, none⟩) :: u1 :: u2 :: u3 :: u4 :: u5 :: u6 :: s7 :: u8 :: u9 :: u10 :: u11 :: u12 :: u13 :: u14 :: u15 :: u16 :: u17 :: u18 :: u19 :: u20 :: u21 :: u22 :: u23 :: u24 :: u25 :: u26 :: u27 :: u28 :: u29 :: u30 :: u31 :: u32 :: u33 :: u34 :: u35 :: u36 :: u37 :: u38 :: u39 :: u40 :: u41 :: u42 :: u43 :: u44 :: u45 :: u46 :: u47 :: u48 :: u49 :: u50 :: u51 :: s7 :: u53 :: .pointer (some ⟨RB, 0, none⟩) :: .int .i64 (k1 : Int) :: u56 :: u57 :: u58 :: .pointer (some ⟨RB, 0, none⟩) :: u60 :: u61 :: u62 :: u63 :: .pointer (some ⟨RB, 0, none⟩) :: u65 :: u66 :: u67 :: u68 :: u69 :: u70 :: u71 :: []), defers := [] } v := by
 obtain rfl := Option.some.inj (hops.symm.trans (rfl : regionIn 11 Try.f65.body = some _))
 have HOPS := Lib.hid hops
 have HQ := Lib.hid hQ
 have HPAN := Lib.hid hpan
 have HRlt := Lib.hid hRB
 have HLT := Lib.hid HLT
 have O := Lib.hid O
 have T := Lib.hid T
 have R := Lib.hid R
 clear hops hQ hpan
 subst hl
 have hHeld : (fun V : World => True) v := trivial
 refine wpAnyH_ready (rs := [1, 6, 8, 11]) (by kernel_rfl) (by simp) ?_
 refine AllReadyH.cons rfl (fun K hK => ?_) (AllReadyH.cons rfl (fun K hK => ?_) (AllReadyH.cons rfl (fun K hK => ?_) (AllReadyH.cons rfl (fun K hK => ?_) AllReadyH.nil)))
 ·
  go_simp
  obtain ⟨v1, hV⟩ : ∃ V, V = World.alloc v (.cells #[.int .i64 (-1), .int .i64 6, .int .i64 0] 3) := ⟨_, rfl⟩
  have hb : Below v.heap.size v v1 := by rw [hV]; exact (Below.refl _ _).alloc (Nat.le_refl _) _
  have sv1 := hb.size
  obtain ⟨g1, hg1⟩ : ∃ g, g = v.heap.size := ⟨_, rfl⟩
  have F1 : Hid (Bk v1 g1 3 (iv [-1, 6, 0]).toArray) := by show Bk _ _ _ _; rw [hV, hg1]; exact Bk.new rfl
  have O := Lib.hid (O.out.later hb)
  have T := Lib.hid (T.out.then hb)
  have R := Lib.hid (R.out.low hb R.out.lt)
  rw [← hV, ← hg1]
  have yg1 : wd.heap.size ≤ g1 := by omega
  clear hV hb hg1
  refine hK.out _ _ trivial (fun hHeld => ?_)
  clear hK K
  obtain ⟨z1, hz1⟩ : ∃ z : Int, (iv [-1, 6, 0]).toArray[k1]? = some (.int .i64 z) := lit3 _ _ _ _ hk1
  refine wpAnyH_more (S' := fun V : World => True ∧ V.cell? ⟨g1, k1, none⟩ = some (.int .i64 z1)) (fun V h => trivial) ?_
  clear hHeld
  have hHeld : (fun V : World => True ∧ V.cell? ⟨g1, k1, none⟩ = some (.int .i64 z1)) v1 := ⟨trivial, (F1.out.cell k1).trans hz1⟩
  have kz : (k1 : Int) < 3 := by omega
  refine wpAnyH_take (i := 4) (v := ?_) rfl (by kernel_rfl) (by kernel_rfl) (by kernel_rfl) (fun _ _ _ h => HPAN.out _ _ _ _ _ h) (Or.inl ⟨by rfl, ?_⟩) (by assumption) ?_
  rotate_left
  ·
   intro V hSw; (try dsimp only at hSw); go_simp; (try with_reducible rfl)
  simp only [sA, sB, sC, Act.put, sD, sE, sF]
  refine wpAnyH_take (i := 5) (v := ?_) rfl (by kernel_rfl) (by kernel_rfl) (by kernel_rfl) (fun _ _ _ h => HPAN.out _ _ _ _ _ h) (Or.inl ⟨by rfl, ?_⟩) (by assumption) ?_
  rotate_left
  ·
   intro V hSw; (try dsimp only at hSw); go_simp; (try with_reducible rfl)
  simp only [sA, sB, sC, Act.put, sD, sE, sF]
  clear kz
  exact busy_1_1 _ HOPS.out _ HPAN.out HQ.out HRlt.out hP hxl hwd (by omega) O.out T.out (R.out.mono (by omega)) HLT.out F1.out yg1 hk1 hz1 _ (by kernel_rfl)
 ·
  go_simp
  obtain ⟨v1, hV⟩ : ∃ V, V = World.alloc v (.cells #[.int .i64 0, .int .i64 5, .int .i64 1] 3) := ⟨_, rfl⟩
  have hb : Below v.heap.size v v1 := by rw [hV]; exact (Below.refl _ _).alloc (Nat.le_refl _) _
  have sv1 := hb.size
  obtain ⟨g2, hg2⟩ : ∃ g, g = v.heap.size := ⟨_, rfl⟩
  have F2 : Hid (Bk v1 g2 3 (iv [0, 5, 1]).toArray) := by show Bk _ _ _ _; rw [hV, hg2]; exact Bk.new rfl
  have O := Lib.hid (O.out.later hb)
  have T := Lib.hid (T.out.then hb)
  have R := Lib.hid (R.out.low hb R.out.lt)
  rw [← hV, ← hg2]
  have yg2 : wd.heap.size ≤ g2 := by omega
  clear hV hb hg2
  refine hK.out _ _ trivial (fun hHeld => ?_)
  clear hK K
  exact busy_2_1 _ HOPS.out _ HPAN.out HQ.out HRlt.out hP hxl hwd (by omega) O.out T.out (R.out.mono (by omega)) HLT.out F2.out yg2 hk1 _ (by kernel_rfl)
 ·
  go_simp
  go_wp2_with (go_at_call 47; refine (l20Rd_pick RB _ 3 _ R.out (by omega) (by omega)).mono ?_; rintro e v1 ⟨p2, rfl, hp0, hp1, _, hr, ht⟩; obtain ⟨k2, rfl⟩ := Int.eq_ofNat_of_zero_le hp0; have hk2 : k2 < 3 := by have := hp1 (by omega); omega)
  have sv1 := ht.size
  have O := Lib.hid (O.out.kept (Kept.of_turned ht HRlt.out))
  have T := Lib.hid (T.out.trans ht)
  have R := Lib.hid hr
  clear hr ht hp0 hp1
  refine hK.out _ _ trivial (fun hHeld => ?_)
  clear hK K
  exact busy_0_2 _ HOPS.out _ HPAN.out HQ.out HRlt.out hP hxl hwd (by omega) O.out T.out (R.out.mono (by omega)) HLT.out hk1 hk2 _ (by kernel_rfl)
 ·
  go_simp
  obtain ⟨v1, hV⟩ : ∃ V, V = World.alloc v (.cells #[.int .i64 (-1), .int .i64 3, .int .i64 0] 3) := ⟨_, rfl⟩
  have hb : Below v.heap.size v v1 := by rw [hV]; exact (Below.refl _ _).alloc (Nat.le_refl _) _
  have sv1 := hb.size
  obtain ⟨g3, hg3⟩ : ∃ g, g = v.heap.size := ⟨_, rfl⟩
  have F3 : Hid (Bk v1 g3 3 (iv [-1, 3, 0]).toArray) := by show Bk _ _ _ _; rw [hV, hg3]; exact Bk.new rfl
  have O := Lib.hid (O.out.later hb)
  have T := Lib.hid (T.out.then hb)
  have R := Lib.hid (R.out.low hb R.out.lt)
  rw [← hV, ← hg3]
  have yg3 : wd.heap.size ≤ g3 := by omega
  clear hV hb hg3
  refine hK.out _ _ trivial (fun hHeld => ?_)
  clear hK K
  exact busy_3_1 _ HOPS.out _ HPAN.out HQ.out HRlt.out hP hxl hwd (by omega) O.out T.out (R.out.mono (by omega)) HLT.out F3.out yg3 hk1 _ (by kernel_rfl)

set_option maxRecDepth 100000 in
set_option maxHeartbeats 4000000 in
theorem busy_0_0 (ops : Array Oper) (hops : regionIn 11 Try.f65.body = some ops) (Q : Exit → Act → World → Prop) {RB P1 : Nat} {w wd v : World} {xs : List GItem} {s7 u1 u2 u3 u4 u5 u6 u8 u9 u10 u11 u12 u13 u14 u15 u16 u17 u18 u19 u20 u21 u22 u23 u24 u25 u26 u27 u28 u29 u30 u31 u32 u33 u34 u35 u36 u37 u38 u39 u40 u41 u42 u43 u44 u45 u46 u47 u48 u49 u50 u51 u53 u55 u56 u57 u58 u60 u61 u62 u63 u65 u66 u67 u68 u69 u70 u71 : Value}
  (hpan : PanQ Q)
  (hQ : EndB Q RB P1 w xs u1 u2 u3 u4 u5 u6 u8 u9 u10 u11 u12 u13 u14 u15 u16 u17 u18 u19 u20 u21 u22 u23 u24 u25 u26 u27 u28 u29 u30 u31 u32 u33 u34 u35 u36 u37 u38 u39 u40 u41 u42 u43 u44 u45 u46 u47 u48 u49 u50 u51)
  (hRB : RB < w.heap.size) (hP : P1 ≤ 800010) (hxl : xs.length ≤ 2) (hwd : w.heap.size ≤ wd.heap.size) (hs : wd.heap.size ≤ v.heap.size)
  (O : OwnC itemC 111 v w.heap.size s7 xs) (T : Turned RB w v) (R : RdB v RB (P1 + 0)) (HLT : ∀ g, s7.ownBlock = some g → g < wd.heap.size)
  (listed : Array Bool) (hl : listed = #[true, false, true, false, false, false, false, true, false, false, false, false, true, false, false, false, false, false, false, false]) :
  wpAnyH Try.prog .any ops Q (fun V : World => True) 16 listed { tmps := List.toArray (.pointer (some ⟨RB, 0, none⟩) :: u1 :: u2 :: u3 :: u4 :: u5 :: u6 :: s7 :: u8 :: u9 :: u10 :: u11 :: u12 :: u13 :: u14 :: u15 :: u16 :: u17 :: u18 :: u19 :: u20 :: u21 :: u22 :: u23 :: u24 :: u25 :: u26 :: u27 :: u28 :: u29 :: u30 :: u31 :: u32 :: u33 :: u34 :: u35 :: u36 :: u37 :: u38 :: u39 :: u40 :: u41 :: u42 :: u43 :: u44 :: u45 :: u46 :: u47 :: u48 :: u49 :: u50 :: u51 :: s7 :: u53 :: .pointer (some ⟨RB, 0, none⟩) :: u55 :: u56 :: u57 :: u58 :: .pointer (some ⟨RB, 0, none⟩) :: u60 :: u61 :: u62 :: u63 :: .pointer (some ⟨RB, 0, none⟩) :: u65 :: u66 :: u67 :: u68 :: u69 :: u70 :: u71 :: []), defers := [] } v := by
 obtain rfl := Option.some.inj (hops.symm.trans (rfl : regionIn 11 Try.f65.body = some _))
 have HOPS := Lib.hid hops
 have HQ := Lib.hid hQ
 have HPAN := Lib.hid hpan
 have HRlt := Lib.hid hRB
 have HLT := Lib.hid HLT
 have O := Lib.hid O
 have T := Lib.hid T
 have R := Lib.hid R
 clear hops hQ hpan
 subst hl
 have hHeld : (fun V : World => True) v := trivial
 refine wpAnyH_ready (rs := [1, 3, 6, 11]) (by kernel_rfl) (by simp) ?_
 refine AllReadyH.cons rfl (fun K hK => ?_) (AllReadyH.cons rfl (fun K hK => ?_) (AllReadyH.cons rfl (fun K hK => ?_) (AllReadyH.cons rfl (fun K hK => ?_) AllReadyH.nil)))
 ·
  go_simp
  obtain ⟨v1, hV⟩ : ∃ V, V = World.alloc v (.cells #[.int .i64 (-1), .int .i64 6, .int .i64 0] 3) := ⟨_, rfl⟩
  have hb : Below v.heap.size v v1 := by rw [hV]; exact (Below.refl _ _).alloc (Nat.le_refl _) _
  have sv1 := hb.size
  obtain ⟨g1, hg1⟩ : ∃ g, g = v.heap.size := ⟨_, rfl⟩
  have F1 : Hid (Bk v1 g1 3 (iv [-1, 6, 0]).toArray) := by show Bk _ _ _ _; rw [hV, hg1]; exact Bk.new rfl
  have O := Lib.hid (O.out.later hb)
  have T := Lib.hid (T.out.then hb)
  have R := Lib.hid (R.out.low hb R.out.lt)
  rw [← hV, ← hg1]
  have yg1 : wd.heap.size ≤ g1 := by omega
  clear hV hb hg1
  refine hK.out _ _ trivial (fun hHeld => ?_)
  clear hK K
  exact busy_1_0 _ HOPS.out _ HPAN.out HQ.out HRlt.out hP hxl hwd (by omega) O.out T.out (R.out.mono (by omega)) HLT.out F1.out yg1 _ (by kernel_rfl)
 ·
  go_simp
  go_wp2_with (go_at_call 47; refine (l20Rd_pick RB _ 3 _ R.out (by omega) (by omega)).mono ?_; rintro e v1 ⟨p1, rfl, hp0, hp1, _, hr, ht⟩; obtain ⟨k1, rfl⟩ := Int.eq_ofNat_of_zero_le hp0; have hk1 : k1 < 3 := by have := hp1 (by omega); omega)
  have sv1 := ht.size
  have O := Lib.hid (O.out.kept (Kept.of_turned ht HRlt.out))
  have T := Lib.hid (T.out.trans ht)
  have R := Lib.hid hr
  clear hr ht hp0 hp1
  refine hK.out _ _ trivial (fun hHeld => ?_)
  clear hK K
  exact busy_0_1 _ HOPS.out _ HPAN.out HQ.out HRlt.out hP hxl hwd (by omega) O.out T.out (R.out.mono (by omega)) HLT.out hk1 _ (by kernel_rfl)
 ·
  go_simp
  obtain ⟨v1, hV⟩ : ∃ V, V = World.alloc v (.cells #[.int .i64 0, .int .i64 5, .int .i64 1] 3) := ⟨_, rfl⟩
  have hb : Below v.heap.size v v1 := by rw [hV]; exact (Below.refl _ _).alloc (Nat.le_refl _) _
  have sv1 := hb.size
  obtain ⟨g2, hg2⟩ : ∃ g, g = v.heap.size := ⟨_, rfl⟩
  have F2 : Hid (Bk v1 g2 3 (iv [0, 5, 1]).toArray) := by show Bk _ _ _ _; rw [hV, hg2]; exact Bk.new rfl
  have O := Lib.hid (O.out.later hb)
  have T := Lib.hid (T.out.then hb)
  have R := Lib.hid (R.out.low hb R.out.lt)
  rw [← hV, ← hg2]
  have yg2 : wd.heap.size ≤ g2 := by omega
  clear hV hb hg2
  refine hK.out _ _ trivial (fun hHeld => ?_)
  clear hK K
  exact busy_2_0 _ HOPS.out _ HPAN.out HQ.out HRlt.out hP hxl hwd (by omega) O.out T.out (R.out.mono (by omega)) HLT.out F2.out yg2 _ (by kernel_rfl)
 ·
  go_simp
  obtain ⟨v1, hV⟩ : ∃ V, V = World.alloc v (.cells #[.int .i64 (-1), .int .i64 3, .int .i64 0] 3) := ⟨_, rfl⟩
  have hb : Below v.heap.size v v1 := by rw [hV]; exact (Below.refl _ _).alloc (Nat.le_refl _) _
  have sv1 := hb.size
  obtain ⟨g3, hg3⟩ : ∃ g, g = v.heap.size := ⟨_, rfl⟩
  have F3 : Hid (Bk v1 g3 3 (iv [-1, 3, 0]).toArray) := by show Bk _ _ _ _; rw [hV, hg3]; exact Bk.new rfl
  have O := Lib.hid (O.out.later hb)
  have T := Lib.hid (T.out.then hb)
  have R := Lib.hid (R.out.low hb R.out.lt)
  rw [← hV, ← hg3]
  have yg3 : wd.heap.size ≤ g3 := by omega
  clear hV hb hg3
  refine hK.out _ _ trivial (fun hHeld => ?_)
  clear hK K
  exact busy_3_0 _ HOPS.out _ HPAN.out HQ.out HRlt.out hP hxl hwd (by omega) O.out T.out (R.out.mono (by omega)) HLT.out F3.out yg3 _ (by kernel_rfl)

end Go.Proofs.Ytjieilicjdoaaaa
