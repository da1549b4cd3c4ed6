/- Somebody begins a task of a case: CasStart of the reference. -/
import Derived.Test.YtjieilicjdoaaaaCaseS0
namespace Go.Proofs.Ytjieilicjdoaaaa
open Go.RowKit
set_option linter.unusedSimpArgs false
set_option linter.unusedVariables false

set_option maxRecDepth 100000 in
set_option maxHeartbeats 8000000 in
theorem spec_CasStart (x : GNet) (A : Option Addr) (c : Nat) (A5 : Option Addr) (c5 : Nat) (ps : List Int) (y : GCase) (A1 : Option Addr) (c1 : Nat) (A2 : Option Addr) (c2 : Nat) (A3 : Option Addr) (c3 : Nat) (A4 : Option Addr) (c4 : Nat) (t who : Int) (m m2 : Option Nat) (w : World)
  (hx : Rows taskC m w w.heap.size A x.tasks) (hp : Ints w w.heap.size A5 ps) (hc : CaseAt m2 w y A1 A2 A3 A4) (hf : caseFew y) :
  Calls Try.prog 73 #[.agg (netCells x A c), .slice A5 ps.length c5, .agg (caseCells y A1 c1 A2 c2 A3 c3 A4 c4), .int .i64 t, .int .i64 who] w (GivesCase w) := by
 have nx := hx.1
 have np := hp.1
 have HX := Lib.hid hx
 have HP := Lib.hid hp
 have HC := Lib.hid hc
 have HF := Lib.hid hf
 clear hx hp hc hf
 go_enter Try.func73, Try.ntmps73
 go_wp2_with fail
 refine callsAt fun W hW => ?_
 have PN : Hid (Bk W w.heap.size 75 (netCells x A c)) := by show Bk _ _ _ _; rw [hW]; exact ((Bk.new rfl).alloc _).alloc _
 have PC : Hid (Bk W (w.heap.size + 1) 43 (caseCells y A1 c1 A2 c2 A3 c3 A4 c4)) := by show Bk _ _ _ _; rw [hW]; exact (Bk.new (by simp)).alloc _
 have PZ : Hid (Bk W (w.heap.size + 2) 43 #[.int .i64 0, .slice none 0 0, .slice none 0 0, .slice none 0 0, .slice none 0 0]) := by show Bk _ _ _ _; rw [hW]; exact Bk.new (by simp)
 have B : Hid (Below w.heap.size w W) := by show Below _ _ _; rw [hW]; go_grown
 have zW : W.heap.size = w.heap.size + 3 := by rw [hW]; simp only [World.size_alloc]
 clear hW
 have hcW := HC.out.later B.out
 refine (spec_l6Copy y A1 c1 A2 c2 A3 c3 A4 c4 m2 W hcW.1 hcW.2.1 hcW.2.2.1 hcW.2.2.2 (by have := HF.out.1; omega) (by have := HF.out.2.1; omega) (by have := HF.out.2.2.1; omega) (by have := HF.out.2.2.2; omega)).mono ?_
 rintro e w1 ⟨D1, D2, D3, D4, j1, j2, j3, j4, rfl, oc, hb⟩
 have OC : Hid (OwnCase w1 (w.heap.size + 3) (.slice D1 y.marks.length j1) (.slice D2 y.busy.length j2) (.slice D3 y.data.length j3) (.slice D4 y.did.length j4) y) := oc.low (by omega)
 have z1 : w.heap.size + 3 ≤ w1.heap.size := by have := hb.size; omega
 have PN := Lib.hid (PN.out.later hb)
 have PC := Lib.hid (PC.out.later hb)
 have PZ := Lib.hid (PZ.out.later hb)
 have B := Lib.hid (B.out.trans (hb.mono B.out.size))
 have HL2 : Hid (∀ g, Value.ownBlock (.slice D2 y.busy.length j2) = some g → g < w1.heap.size) := fun g h => (oc.busy.lt g h).2
 have HL3 : Hid (∀ g, Value.ownBlock (.slice D3 y.data.length j3) = some g → g < w1.heap.size) := fun g h => (oc.data.lt g h).2
 have HL4 : Hid (∀ g, Value.ownBlock (.slice D4 y.did.length j4) = some g → g < w1.heap.size) := fun g h => (oc.did.lt g h).2
 clear hcW oc hb zW
 have kC := fun i => PC.out.cell i
 have kN := fun i => PN.out.cell i
 go_upto_region 2 with fail
 generalize hW : World.alloc w1 _ = W2
 have hb : Below w1.heap.size w1 W2 := by rw [← hW]; exact (Below.refl _ _).alloc (Nat.le_refl _) _
 have PX : Hid (Bk W2 w1.heap.size 43 (caseCells y D1 j1 D2 j2 D3 j3 D4 j4)) := by show Bk _ _ _ _; rw [← hW]; exact Bk.new rfl
 have OC := Lib.hid (OC.out.later hb)
 have PN := Lib.hid (PN.out.later hb)
 have PC := Lib.hid (PC.out.later hb)
 have PZ := Lib.hid (PZ.out.later hb)
 have B := Lib.hid (B.out.trans (hb.mono B.out.size))
 have zx := PX.out.lt
 clear hW hb kC kN
 have kC := fun i => PC.out.cell i
 have kN := fun i => PN.out.cell i
 go_wp2_with fail
 clear kC kN
 have hcW := HC.out.later B.out
 refine (spec_CasOk x A c y A1 c1 A2 c2 A3 c3 A4 c4 m m2 W2 (HX.out.later B.out) hcW.1 hcW.2.1 hcW.2.2.1 hcW.2.2.2).mono ?_
 rintro e w2 ⟨rfl, hb⟩
 have PN := Lib.hid (PN.out.later hb)
 have PC := Lib.hid (PC.out.later hb)
 have PZ := Lib.hid (PZ.out.later hb)
 have PX := Lib.hid (PX.out.later hb)
 have OC := Lib.hid (OC.out.later hb)
 have B := Lib.hid (B.out.trans (hb.mono B.out.size))
 have zx : w1.heap.size < w2.heap.size := PX.out.lt
 clear hb hcW
 have kC := fun i => PC.out.cell i
 have kN := fun i => PN.out.cell i
 cases q1 : casOk x y with
 | false =>
  have kX := fun i => PX.out.cell i
  have kZ := fun i => PZ.out.cell i
  have fZ := fun i => PZ.out.frozen i
  go_wp2
  generalize hV : World.setCell (World.setCell (World.setCell (World.setCell (World.setCell w2 _ _) _ _) _ _) _ _) _ _ = V
  have hbk : Bk V (w.heap.size + 2) 43 (caseCells y D1 j1 D2 j2 D3 j3 D4 j4) := by rw [← hV]; exact (put5 PZ.out).1
  have hke : Kept (w.heap.size + 3) w2 V := by rw [← hV]; exact (put5 PZ.out).2.1 _ (by omega)
  have hbe : Below w.heap.size w V := by rw [← hV]; exact (put5 PZ.out).2.2.1 _ _ (by omega) B.out
  clear hV kZ fZ kX
  have k1 := fun i => hbk.cell i
  refine bodyPost_ret (v := .tuple #[.agg (caseCells y D1 j1 D2 j2 D3 j3 D4 j4), .bool false]) (by simp [results, Try.results73, go_sem, k1]) rfl ?_
  exact ⟨y, D1, j1, D2, j2, D3, j3, D4, j4, false, rfl, (((OC.out.rows HF.out).kept hke).weak (Weaker.some (by omega))), HF.out, hbe, ownC_cap OC.out.busy, ownC_low (OC.out.did.kept hke) (by omega), sep_of OC.out.s14⟩
 | true =>
 obtain ⟨_, _, qb, _, _⟩ := casOk_parts q1
 have QB := Lib.hid qb
 clear qb q1
 by_cases hst : y.state = 1
 rotate_left
 ·
  have hsb : (y.state != 1) = true := by simp [hst]
  clear hst
  have kX := fun i => PX.out.cell i
  have kZ := fun i => PZ.out.cell i
  have fZ := fun i => PZ.out.frozen i
  go_wp2
  generalize hV : World.setCell (World.setCell (World.setCell (World.setCell (World.setCell w2 _ _) _ _) _ _) _ _) _ _ = V
  have hbk : Bk V (w.heap.size + 2) 43 (caseCells y D1 j1 D2 j2 D3 j3 D4 j4) := by rw [← hV]; exact (put5 PZ.out).1
  have hke : Kept (w.heap.size + 3) w2 V := by rw [← hV]; exact (put5 PZ.out).2.1 _ (by omega)
  have hbe : Below w.heap.size w V := by rw [← hV]; exact (put5 PZ.out).2.2.1 _ _ (by omega) B.out
  clear hV kZ fZ kX
  have k1 := fun i => hbk.cell i
  refine bodyPost_ret (v := .tuple #[.agg (caseCells y D1 j1 D2 j2 D3 j3 D4 j4), .bool false]) (by simp [results, Try.results73, go_sem, k1]) rfl ?_
  exact ⟨y, D1, j1, D2, j2, D3, j3, D4, j4, false, rfl, (((OC.out.rows HF.out).kept hke).weak (Weaker.some (by omega))), HF.out, hbe, ownC_cap OC.out.busy, ownC_low (OC.out.did.kept hke) (by omega), sep_of OC.out.s14⟩

 have hsb : (y.state != 1) = false := by simp [hst]
 clear hst
 go_wp2_with fail
 clear hsb
 have hcW := HC.out.later B.out
 refine (spec_EnaCan x A c A1 c1 y.marks A2 c2 y.busy t m m2 w2 (HX.out.later B.out) hcW.1.ints hcW.2.1).mono ?_
 rintro e w3 ⟨rfl, hb⟩
 have PN := Lib.hid (PN.out.later hb)
 have PC := Lib.hid (PC.out.later hb)
 have PZ := Lib.hid (PZ.out.later hb)
 have PX := Lib.hid (PX.out.later hb)
 have OC := Lib.hid (OC.out.later hb)
 have B := Lib.hid (B.out.trans (hb.mono B.out.size))
 have zx3 : w1.heap.size < w3.heap.size := PX.out.lt
 clear hb hcW kC kN
 have kC := fun i => PC.out.cell i
 have kN := fun i => PN.out.cell i
 cases q2 : enaCan x y.marks y.busy t with
 | false =>
  have kX := fun i => PX.out.cell i
  have kZ := fun i => PZ.out.cell i
  have fZ := fun i => PZ.out.frozen i
  go_wp2
  generalize hV : World.setCell (World.setCell (World.setCell (World.setCell (World.setCell w3 _ _) _ _) _ _) _ _) _ _ = V
  have hbk : Bk V (w.heap.size + 2) 43 (caseCells y D1 j1 D2 j2 D3 j3 D4 j4) := by rw [← hV]; exact (put5 PZ.out).1
  have hke : Kept (w.heap.size + 3) w3 V := by rw [← hV]; exact (put5 PZ.out).2.1 _ (by omega)
  have hbe : Below w.heap.size w V := by rw [← hV]; exact (put5 PZ.out).2.2.1 _ _ (by omega) B.out
  clear hV kZ fZ kX
  have k1 := fun i => hbk.cell i
  refine bodyPost_ret (v := .tuple #[.agg (caseCells y D1 j1 D2 j2 D3 j3 D4 j4), .bool false]) (by simp [results, Try.results73, go_sem, k1]) rfl ?_
  exact ⟨y, D1, j1, D2, j2, D3, j3, D4, j4, false, rfl, (((OC.out.rows HF.out).kept hke).weak (Weaker.some (by omega))), HF.out, hbe, ownC_cap OC.out.busy, ownC_low (OC.out.did.kept hke) (by omega), sep_of OC.out.s14⟩
 | true =>
 clear q2
 go_wp2_with fail
 have hcW := HC.out.later B.out
 refine (spec_PplMay x A c A5 c5 ps A4 c4 y.did A2 c2 y.busy t m m2 m2 w3 (HX.out.later B.out) (HP.out.later B.out) hcW.2.2.2 hcW.2.1).mono ?_
 rintro e w4 ⟨v, rfl, ov, hb⟩
 have PN := Lib.hid (PN.out.later hb)
 have PC := Lib.hid (PC.out.later hb)
 have PZ := Lib.hid (PZ.out.later hb)
 have PX := Lib.hid (PX.out.later hb)
 have OC := Lib.hid (OC.out.later hb)
 have B := Lib.hid (B.out.trans (hb.mono B.out.size))
 have zx4 : w1.heap.size < w4.heap.size := PX.out.lt
 clear hcW kC kN
 generalize mayOf x ps y.did y.busy t = mays at ov
 obtain ⟨A7, c7, rfl, _⟩ := ov.form
 have OM := Lib.hid ov
 clear hb ov
 have kC := fun i => PC.out.cell i
 have kN := fun i => PN.out.cell i
 obtain ⟨_, _, hv7, hr7⟩ := OM.out.rows (ownV_len OM.out)
 simp only [Value.slice.injEq] at hv7
 obtain ⟨rfl, _, rfl⟩ := hv7
 have hi7 := hr7.ints
 clear hr7
 go_wp2_with fail
 refine (l2Has _ _ mays who _ _ hi7).mono ?_
 rintro e w' ⟨rfl, rfl⟩
 cases q3 : (mays.any fun x => decide (x = who)) with
 | false =>
  have kX := fun i => PX.out.cell i
  have kZ := fun i => PZ.out.cell i
  have fZ := fun i => PZ.out.frozen i
  go_wp2
  generalize hV : World.setCell (World.setCell (World.setCell (World.setCell (World.setCell w4 _ _) _ _) _ _) _ _) _ _ = V
  have hbk : Bk V (w.heap.size + 2) 43 (caseCells y D1 j1 D2 j2 D3 j3 D4 j4) := by rw [← hV]; exact (put5 PZ.out).1
  have hke : Kept (w.heap.size + 3) w4 V := by rw [← hV]; exact (put5 PZ.out).2.1 _ (by omega)
  have hbe : Below w.heap.size w V := by rw [← hV]; exact (put5 PZ.out).2.2.1 _ _ (by omega) B.out
  clear hV kZ fZ kX
  have k1 := fun i => hbk.cell i
  refine bodyPost_ret (v := .tuple #[.agg (caseCells y D1 j1 D2 j2 D3 j3 D4 j4), .bool false]) (by simp [results, Try.results73, go_sem, k1]) rfl ?_
  exact ⟨y, D1, j1, D2, j2, D3, j3, D4, j4, false, rfl, (((OC.out.rows HF.out).kept hke).weak (Weaker.some (by omega))), HF.out, hbe, ownC_cap OC.out.busy, ownC_low (OC.out.did.kept hke) (by omega), sep_of OC.out.s14⟩
 | true =>
 clear q3 hi7
 by_cases hb6 : y.busy.length = 6
 ·
  have hb6b : ((y.busy.length : Int) == 6) = true := by simp [hb6]
  clear hb6
  have kX := fun i => PX.out.cell i
  have kZ := fun i => PZ.out.cell i
  have fZ := fun i => PZ.out.frozen i
  go_wp2
  generalize hV : World.setCell (World.setCell (World.setCell (World.setCell (World.setCell w4 _ _) _ _) _ _) _ _) _ _ = V
  have hbk : Bk V (w.heap.size + 2) 43 (caseCells y D1 j1 D2 j2 D3 j3 D4 j4) := by rw [← hV]; exact (put5 PZ.out).1
  have hke : Kept (w.heap.size + 3) w4 V := by rw [← hV]; exact (put5 PZ.out).2.1 _ (by omega)
  have hbe : Below w.heap.size w V := by rw [← hV]; exact (put5 PZ.out).2.2.1 _ _ (by omega) B.out
  clear hV kZ fZ kX
  have k1 := fun i => hbk.cell i
  refine bodyPost_ret (v := .tuple #[.agg (caseCells y D1 j1 D2 j2 D3 j3 D4 j4), .bool false]) (by simp [results, Try.results73, go_sem, k1]) rfl ?_
  exact ⟨y, D1, j1, D2, j2, D3, j3, D4, j4, false, rfl, (((OC.out.rows HF.out).kept hke).weak (Weaker.some (by omega))), HF.out, hbe, ownC_cap OC.out.busy, ownC_low (OC.out.did.kept hke) (by omega), sep_of OC.out.s14⟩
 have hb6b : ((y.busy.length : Int) == 6) = false := by simp; omega
 clear hb6
 go_wp2_with fail
 clear hb6b kC kN
 have hcW := HC.out.later B.out
 refine (spec_EnaTake x A c A1 c1 y.marks t m w4 (HX.out.later B.out) hcW.1.ints).mono ?_
 rintro e w5 ⟨v5, ms5, rfl, ov5, hfew5, hb⟩
 have PN := Lib.hid (PN.out.later hb)
 have PC := Lib.hid (PC.out.later hb)
 have PZ := Lib.hid (PZ.out.later hb)
 have PX := Lib.hid (PX.out.later hb)
 have OC := Lib.hid (OC.out.later hb)
 have B := Lib.hid (B.out.trans (hb.mono B.out.size))
 have z45 := hb.size
 clear hb hcW
 obtain ⟨E1, i1, rfl, _⟩ := ov5.form
 have M5 := Lib.hid (ownV_rows ov5)
 have HFM := Lib.hid hfew5
 clear ov5 hfew5
 have OB := Lib.hid OC.out.busy
 have OD := Lib.hid OC.out.data
 have OI := Lib.hid OC.out.did
 have S23 := Lib.hid OC.out.s23
 have S24 := Lib.hid OC.out.s24
 clear OC
 have kX := fun i => PX.out.cell i
 have fX := fun i => PX.out.frozen i
 go_upto_region 5 with fail
 generalize hV : World.setCell w5 _ _ = W6
 have PX6 : Hid (Bk W6 w1.heap.size 43 #[.int .i64 y.state, .slice E1 ms5.length i1, .slice D2 y.busy.length j2, .slice D3 y.data.length j3, .slice D4 y.did.length j4]) := by show Bk _ _ _ _; rw [← hV]; exact PX.out.set 1 _
 have hg6 : w5.grownBy W6 (some w1.heap.size) := by rw [← hV]; exact grown_put w5 ⟨w1.heap.size, 1, none⟩ _
 have OB := Lib.hid (ownC_apart OB.out hg6 (fun h => by have := HL2.out _ h; omega))
 have OD := Lib.hid (ownC_apart OD.out hg6 (fun h => by have := HL3.out _ h; omega))
 have OI := Lib.hid (ownC_apart OI.out hg6 (fun h => by have := HL4.out _ h; omega))
 have M6 : Hid (Rows intC (some w4.heap.size) W6 W6.heap.size E1 ms5) := by show Rows _ _ _ _ _ _; exact rows_kept M5.out (by rw [← hV]; exact kept_put ⟨w1.heap.size, 1, none⟩ zx4 _)
 have PZ6 : Hid (Bk W6 (w.heap.size + 2) 43 #[.int .i64 0, .slice none 0 0, .slice none 0 0, .slice none 0 0, .slice none 0 0]) := (hg6.block _ (by omega) (by simp; omega)).trans PZ.out
 have B6 : Hid (Below w.heap.size w W6) := by show Below _ _ _; rw [← hV]; exact B.out.setCell (p := ⟨w1.heap.size, 1, none⟩) (by show w.heap.size ≤ w1.heap.size; omega) _
 have z6 : w5.heap.size ≤ W6.heap.size := hg6.size
 clear hV hg6 kX fX M5 PX PZ B PN PC
 have kX := fun i => PX6.out.cell i
 have fX := fun i => PX6.out.frozen i
 go_upto_region 6 with (at_builtin; refine append_C5 rfl (.tmp 61) (.tmp 65) 40 rfl itemC 111 _ 24 Try.underlying40 info_Item rfl (by decide) (by decide) (w.heap.size + 3) _ y.busy rfl (OB.out.later ((Below.refl _ _).alloc (Nat.le_refl _) _)) ⟨t, who, 0⟩ _ (w.heap.size + 3) 0 rfl (Nat.le_refl _) (Nat.zero_le _) (fun _ _ => .inr (Nat.zero_le _)) W6.heap.size rfl (fun j u hu => by rw [Bk.cell (Bk.new rfl)]; simpa [GItem.cells] using hu) (by simp [GItem.cells, Value.oneCell']) (by have := QB.out; omega) (by simp only [World.size_alloc]; omega) ?_; intro v7 w7 hown7 hg7 hb7 h57; have O7 := Lib.hid hown7; have G7 := Lib.hid hg7; have B7 := Lib.hid hb7; have H57 := Lib.hid h57; obtain ⟨E2, i2, hv7, _⟩ := hown7.rows (by rw [List.length_append]; have := QB.out; simp; omega); subst hv7; have PX7 : Hid (Bk w7 w1.heap.size 43 #[.int .i64 y.state, .slice E1 ms5.length i1, .slice D2 y.busy.length j2, .slice D3 y.data.length j3, .slice D4 y.did.length j4]) := (hg7.block _ (by simp only [World.size_alloc]; omega) (fun h => by have := HL2.out _ h.symm; omega)).trans (PX6.out.alloc _); have kX7 := fun i => PX7.out.cell i; have fX7 := fun i => PX7.out.frozen i; clear hown7 hg7 hb7 h57 kX fX)
 generalize hV : World.setCell w7 _ _ = W8
 have PX8 : Hid (Bk W8 w1.heap.size 43 #[.int .i64 y.state, .slice E1 ms5.length i1, .slice E2 (y.busy.length + 1) i2, .slice D3 y.data.length j3, .slice D4 y.did.length j4]) := by show Bk _ _ _ _; rw [← hV]; exact PX7.out.set 2 _
 have hg8 : w7.grownBy W8 (some w1.heap.size) := by rw [← hV]; exact grown_put w7 ⟨w1.heap.size, 2, none⟩ _
 have hk8 : Kept w4.heap.size w7 W8 := by rw [← hV]; exact kept_put ⟨w1.heap.size, 2, none⟩ zx4 _
 have hb8 : Below w1.heap.size w7 W8 := by rw [← hV]; exact (Below.refl _ _).setCell (p := ⟨w1.heap.size, 2, none⟩) (Nat.le_refl _) _
 have ba : Below W6.heap.size W6 (W6.alloc (.cells #[.int .i64 t, .int .i64 who, .int .i64 0] 111)) := (Below.refl _ _).alloc (Nat.le_refl _) _
 have zal : (W6.alloc (.cells #[.int .i64 t, .int .i64 who, .int .i64 0] 111)).heap.size = W6.heap.size + 1 := by simp
 have OBL := OB.out.lt
 have hk7 : Kept w4.heap.size (W6.alloc (.cells #[.int .i64 t, .int .i64 who, .int .i64 0] 111)) w7 := ⟨G7.out.size, fun b hb hlo => G7.out.block b hb (fun h => by have := HL2.out _ h.symm; omega)⟩
 have O8 := Lib.hid (ownC_apart O7.out hg8 (fun h => by
  rcases H57.out with h5 | h5
  ·
   rw [h5] at h
   have := HL2.out _ h
   omega
  ·
   rw [h5] at h
   simp only [Option.some.injEq] at h
   omega))
 have D8 := Lib.hid (ownC_apart (ownC_apart (OD.out.later ba) G7.out (fun h => S23.out h.symm)) hg8 (fun h => by have := HL3.out _ h; omega))
 have I8 := Lib.hid (ownC_apart (ownC_apart (OI.out.later ba) G7.out (fun h => S24.out h.symm)) hg8 (fun h => by have := HL4.out _ h; omega))
 have M8 := Lib.hid (rows_kept (rows_kept (M6.out.later ba) hk7) hk8)
 have PZ8 : Hid (Bk W8 (w.heap.size + 2) 43 #[.int .i64 0, .slice none 0 0, .slice none 0 0, .slice none 0 0, .slice none 0 0]) := (hb8.block _ (by omega)).trans ((G7.out.block _ (by omega) (fun h => by have := (OBL _ h.symm).1; omega)).trans (PZ6.out.later ba))
 have B8 : Hid (Below w.heap.size w W8) := ((B6.out.trans (ba.mono (by omega))).trans (B7.out.mono (by omega))).trans (hb8.mono (by omega))
 have FW : Hid (caseFew ⟨y.state, ms5, y.busy ++ [(⟨t, who, 0⟩ : GItem)], y.data, y.did⟩) := ⟨HFM.out.1, by rw [List.length_append]; have := QB.out; simp; omega, HF.out.2.2.1, HF.out.2.2.2⟩
 clear hV hg8 hk8 hb8 ba zal OBL hk7 kX7 fX7 OB OD OI M6 PZ6 B6 PX7 G7 B7 O7 H57
 have kX := fun i => PX8.out.cell i
 have kZ := fun i => PZ8.out.cell i
 have fZ := fun i => PZ8.out.frozen i
 go_wp2
 generalize hV : World.setCell (World.setCell (World.setCell (World.setCell (World.setCell W8 _ _) _ _) _ _) _ _) _ _ = V
 have hbk : Bk V (w.heap.size + 2) 43 #[.int .i64 y.state, .slice E1 ms5.length i1, .slice E2 (y.busy.length + 1) i2, .slice D3 y.data.length j3, .slice D4 y.did.length j4] := by rw [← hV]; exact (put5 PZ8.out).1
 have hke : Kept (w.heap.size + 3) W8 V := by rw [← hV]; exact (put5 PZ8.out).2.1 _ (by omega)
 have hbe : Below w.heap.size w V := by rw [← hV]; exact (put5 PZ8.out).2.2.1 _ _ (by omega) B8.out
 clear hV kZ fZ kX
 have k1 := fun i => hbk.cell i
 refine bodyPost_ret (v := .tuple #[.agg #[.int .i64 y.state, .slice E1 ms5.length i1, .slice E2 (y.busy.length + 1) i2, .slice D3 y.data.length j3, .slice D4 y.did.length j4], .bool true]) (by simp [results, Try.results73, go_sem, k1]) rfl ?_
 have hca : CaseAt (some (w.heap.size + 3)) W8 ⟨y.state, ms5, y.busy ++ [(⟨t, who, 0⟩ : GItem)], y.data, y.did⟩ E1 E2 D3 D4 :=
  ⟨M8.out.weak (Weaker.some (by omega)), ownC_rows O8.out (by have := FW.out.2.1; exact Nat.le_trans this (by decide)), ownC_rows D8.out (show y.data.length ≤ 1000000 from by have := HF.out.2.2.1; omega), ownC_rows I8.out (show y.did.length ≤ 1000000 from by have := HF.out.2.2.2; omega)⟩
 exact ⟨_, E1, i1, E2, i2, D3, j3, D4, j4, true, by simp [caseCells], (hca.kept hke).weak (Weaker.some (by omega)), FW.out, hbe, ownC_cap O8.out, ownC_low (I8.out.kept hke) (by omega), fun h0 q o hq h4 => by have h1 := (rows_lo M8.out h0 q o hq).1; have h2 := HL4.out q h4; omega⟩
end Go.Proofs.Ytjieilicjdoaaaa
