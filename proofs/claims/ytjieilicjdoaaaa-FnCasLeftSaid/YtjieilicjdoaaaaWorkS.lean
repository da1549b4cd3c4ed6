/- A task of a case done once: CasWork of the reference. -/
import Derived.Test.YtjieilicjdoaaaaCaseS1
import Derived.Deep.QuietTactic
import Derived.Deep.RegionHeld3
namespace Go.Proofs.Ytjieilicjdoaaaa
open Go.RowKit
open List renaming getElem_toArray → sA, getElem_cons_succ → sB, getElem_cons_zero → sC, setIfInBounds_toArray → sD, set_cons_zero → sE, set_cons_succ → sF
set_option linter.unusedSimpArgs false
set_option linter.unusedVariables false

theorem busy_at {x : GNet} {bs : List GItem} (h : busyOk x bs = true) {j : Nat} (hj : j < bs.length) : 0 ≤ bs[j].task ∧ bs[j].task ≤ (x.tasks.length : Int) - 1 ∧ 0 ≤ bs[j].did ∧ bs[j].did ≤ (x.tasks.getD bs[j].task.toNat task0).need - 1 := by
 unfold busyOk at h
 rw [Bool.and_eq_true, List.all_eq_true] at h
 have h2 := h.2 bs[j] (List.getElem_mem hj)
 unfold busyAt at h2
 simp only [Bool.and_eq_true, inB_iff] at h2
 exact ⟨h2.1.1, h2.1.2, h2.2.2.1, h2.2.2.2⟩

set_option maxRecDepth 100000 in
set_option maxHeartbeats 8000000 in
theorem spec_CasWork (x : GNet) (A : Option Addr) (c : Nat) (y : GCase) (A1 : Option Addr) (c1 : Nat) (A2 : Option Addr) (c2 : Nat) (A3 : Option Addr) (c3 : Nat) (A4 : Option Addr) (c4 : Nat) (k v num : Int) (m m2 : Option Nat) (w : World)
  (hx : Rows taskC m w w.heap.size A x.tasks) (hc : CaseAt m2 w y A1 A2 A3 A4) (hf : caseFew y) (hcap : y.busy.length ≤ c2) :
  Calls Try.prog 70 #[.agg (netCells x A c), .agg (caseCells y A1 c1 A2 c2 A3 c3 A4 c4), .int .i64 k, .int .i64 v, .int .i64 num] w (GivesCase w) := by
 have nx := hx.1
 have HX := Lib.hid hx
 have HC := Lib.hid hc
 have HF := Lib.hid hf
 have HCAP := Lib.hid hcap
 clear hx hc hf hcap
 go_enter Try.func70, Try.ntmps70
 go_wp2_with fail
 refine callsAt fun W hW => ?_
 have PN : Hid (Bk W w.heap.size 75 (netCells x A c)) := by show Bk _ _ _ _; rw [hW]; exact ((Bk.new rfl).alloc _).alloc _
 have PC : Hid (Bk W (w.heap.size + 1) 43 (caseCells y A1 c1 A2 c2 A3 c3 A4 c4)) := by show Bk _ _ _ _; rw [hW]; exact (Bk.new (by simp)).alloc _
 have PZ : Hid (Bk W (w.heap.size + 2) 43 #[.int .i64 0, .slice none 0 0, .slice none 0 0, .slice none 0 0, .slice none 0 0]) := by show Bk _ _ _ _; rw [hW]; exact Bk.new (by simp)
 have B : Hid (Below w.heap.size w W) := by show Below _ _ _; rw [hW]; go_grown
 have zW : W.heap.size = w.heap.size + 3 := by rw [hW]; simp only [World.size_alloc]
 clear hW
 have hcW := HC.out.later B.out
 refine (spec_l6Copy y A1 c1 A2 c2 A3 c3 A4 c4 m2 W hcW.1 hcW.2.1 hcW.2.2.1 hcW.2.2.2 (by have := HF.out.1; omega) (by have := HF.out.2.1; omega) (by have := HF.out.2.2.1; omega) (by have := HF.out.2.2.2; omega)).mono ?_
 rintro e w1 ⟨D1, D2, D3, D4, j1, j2, j3, j4, rfl, oc, hb⟩
 have OC : Hid (OwnCase w1 (w.heap.size + 3) (.slice D1 y.marks.length j1) (.slice D2 y.busy.length j2) (.slice D3 y.data.length j3) (.slice D4 y.did.length j4) y) := oc.low (by omega)
 have z1 : w.heap.size + 3 ≤ w1.heap.size := by have := hb.size; omega
 have PN := Lib.hid (PN.out.later hb)
 have PC := Lib.hid (PC.out.later hb)
 have PZ := Lib.hid (PZ.out.later hb)
 have B := Lib.hid (B.out.trans (hb.mono B.out.size))
 have HL1 : Hid (∀ g, Value.ownBlock (.slice D1 y.marks.length j1) = some g → g < w1.heap.size) := fun g h => (oc.marks.lt g h).2
 have HL2 : Hid (∀ g, Value.ownBlock (.slice D2 y.busy.length j2) = some g → g < w1.heap.size) := fun g h => (oc.busy.lt g h).2
 have HL4 : Hid (∀ g, Value.ownBlock (.slice D4 y.did.length j4) = some g → g < w1.heap.size) := fun g h => (oc.did.lt g h).2
 clear hcW oc hb zW
 have kC := fun i => PC.out.cell i
 have kN := fun i => PN.out.cell i
 go_upto_region 2 with fail
 generalize hW : World.alloc w1 _ = W2
 have hb : Below w1.heap.size w1 W2 := by rw [← hW]; exact (Below.refl _ _).alloc (Nat.le_refl _) _
 have PX : Hid (Bk W2 w1.heap.size 43 (caseCells y D1 j1 D2 j2 D3 j3 D4 j4)) := by show Bk _ _ _ _; rw [← hW]; exact Bk.new rfl
 have OC := Lib.hid (OC.out.later hb)
 have PN := Lib.hid (PN.out.later hb)
 have PC := Lib.hid (PC.out.later hb)
 have PZ := Lib.hid (PZ.out.later hb)
 have B := Lib.hid (B.out.trans (hb.mono B.out.size))
 have zx := PX.out.lt
 clear hW hb kC kN
 have kC := fun i => PC.out.cell i
 have kN := fun i => PN.out.cell i
 go_wp2_with fail
 clear kC kN
 have hcW := HC.out.later B.out
 refine (spec_CasOk x A c y A1 c1 A2 c2 A3 c3 A4 c4 m m2 W2 (HX.out.later B.out) hcW.1 hcW.2.1 hcW.2.2.1 hcW.2.2.2).mono ?_
 rintro e w2 ⟨rfl, hb⟩
 have PN := Lib.hid (PN.out.later hb)
 have PC := Lib.hid (PC.out.later hb)
 have PZ := Lib.hid (PZ.out.later hb)
 have PX := Lib.hid (PX.out.later hb)
 have OC := Lib.hid (OC.out.later hb)
 have B := Lib.hid (B.out.trans (hb.mono B.out.size))
 have zx : w1.heap.size < w2.heap.size := PX.out.lt
 clear hb hcW
 have kC := fun i => PC.out.cell i
 have kN := fun i => PN.out.cell i
 cases q1 : casOk x y with
 | false =>
  have kX := fun i => PX.out.cell i
  have kZ := fun i => PZ.out.cell i
  have fZ := fun i => PZ.out.frozen i
  go_wp2
  generalize hV : World.setCell (World.setCell (World.setCell (World.setCell (World.setCell w2 _ _) _ _) _ _) _ _) _ _ = V
  have hbk : Bk V (w.heap.size + 2) 43 (caseCells y D1 j1 D2 j2 D3 j3 D4 j4) := by rw [← hV]; exact (put5 PZ.out).1
  have hke : Kept (w.heap.size + 3) w2 V := by rw [← hV]; exact (put5 PZ.out).2.1 _ (by omega)
  have hbe : Below w.heap.size w V := by rw [← hV]; exact (put5 PZ.out).2.2.1 _ _ (by omega) B.out
  clear hV kZ fZ kX
  have k1 := fun i => hbk.cell i
  refine bodyPost_ret (v := .tuple #[.agg (caseCells y D1 j1 D2 j2 D3 j3 D4 j4), .bool false]) (by simp [results, Try.results70, go_sem, k1]) rfl ?_
  exact ⟨y, D1, j1, D2, j2, D3, j3, D4, j4, false, rfl, (((OC.out.rows HF.out).kept hke).weak (Weaker.some (by omega))), HF.out, hbe, ownC_cap OC.out.busy, ownC_low (OC.out.did.kept hke) (by omega), sep_of OC.out.s14⟩
 | true =>
 obtain ⟨qm, qbo, qb, qd, qdid⟩ := casOk_parts q1
 have QM := Lib.hid qm
 have QBO := Lib.hid qbo
 have QB := Lib.hid qb
 have QDID := Lib.hid qdid
 clear qm qbo qd qdid q1
 by_cases hst : y.state = 1
 rotate_left
 ·
  have hsb : (y.state != 1) = true := by simp [hst]
  clear hst
  have kX := fun i => PX.out.cell i
  have kZ := fun i => PZ.out.cell i
  have fZ := fun i => PZ.out.frozen i
  go_wp2
  generalize hV : World.setCell (World.setCell (World.setCell (World.setCell (World.setCell w2 _ _) _ _) _ _) _ _) _ _ = V
  have hbk : Bk V (w.heap.size + 2) 43 (caseCells y D1 j1 D2 j2 D3 j3 D4 j4) := by rw [← hV]; exact (put5 PZ.out).1
  have hke : Kept (w.heap.size + 3) w2 V := by rw [← hV]; exact (put5 PZ.out).2.1 _ (by omega)
  have hbe : Below w.heap.size w V := by rw [← hV]; exact (put5 PZ.out).2.2.1 _ _ (by omega) B.out
  clear hV kZ fZ kX
  have k1 := fun i => hbk.cell i
  refine bodyPost_ret (v := .tuple #[.agg (caseCells y D1 j1 D2 j2 D3 j3 D4 j4), .bool false]) (by simp [results, Try.results70, go_sem, k1]) rfl ?_
  exact ⟨y, D1, j1, D2, j2, D3, j3, D4, j4, false, rfl, (((OC.out.rows HF.out).kept hke).weak (Weaker.some (by omega))), HF.out, hbe, ownC_cap OC.out.busy, ownC_low (OC.out.did.kept hke) (by omega), sep_of OC.out.s14⟩

 have hsb : (y.state != 1) = false := by simp [hst]
 clear hst
 go_wp2_with fail
 refine (l1In _ _ _ _).mono ?_
 rintro e w' ⟨rfl, rfl⟩
 cases q2 : inB k 0 ((y.busy.length : Int) - 1) with
 | false =>
  have kX := fun i => PX.out.cell i
  have kZ := fun i => PZ.out.cell i
  have fZ := fun i => PZ.out.frozen i
  go_wp2
  generalize hV : World.setCell (World.setCell (World.setCell (World.setCell (World.setCell w2 _ _) _ _) _ _) _ _) _ _ = V
  have hbk : Bk V (w.heap.size + 2) 43 (caseCells y D1 j1 D2 j2 D3 j3 D4 j4) := by rw [← hV]; exact (put5 PZ.out).1
  have hke : Kept (w.heap.size + 3) w2 V := by rw [← hV]; exact (put5 PZ.out).2.1 _ (by omega)
  have hbe : Below w.heap.size w V := by rw [← hV]; exact (put5 PZ.out).2.2.1 _ _ (by omega) B.out
  clear hV kZ fZ kX
  have k1 := fun i => hbk.cell i
  refine bodyPost_ret (v := .tuple #[.agg (caseCells y D1 j1 D2 j2 D3 j3 D4 j4), .bool false]) (by simp [results, Try.results70, go_sem, k1]) rfl ?_
  exact ⟨y, D1, j1, D2, j2, D3, j3, D4, j4, false, rfl, (((OC.out.rows HF.out).kept hke).weak (Weaker.some (by omega))), HF.out, hbe, ownC_cap OC.out.busy, ownC_low (OC.out.did.kept hke) (by omega), sep_of OC.out.s14⟩
 | true =>
 have hk := inB_iff.1 q2
 obtain ⟨j, rfl⟩ := Int.eq_ofNat_of_zero_le hk.1
 have hj : j < y.busy.length := by omega
 have hjz : (j : Int) < (y.busy.length : Int) := by omega
 clear q2 hk
 go_wp2_with fail
 refine (l1In _ _ _ _).mono ?_
 rintro e w' ⟨rfl, rfl⟩
 cases q3 : inB v (-1) 2 with
 | false =>
  have kX := fun i => PX.out.cell i
  have kZ := fun i => PZ.out.cell i
  have fZ := fun i => PZ.out.frozen i
  go_wp2
  generalize hV : World.setCell (World.setCell (World.setCell (World.setCell (World.setCell w2 _ _) _ _) _ _) _ _) _ _ = V
  have hbk : Bk V (w.heap.size + 2) 43 (caseCells y D1 j1 D2 j2 D3 j3 D4 j4) := by rw [← hV]; exact (put5 PZ.out).1
  have hke : Kept (w.heap.size + 3) w2 V := by rw [← hV]; exact (put5 PZ.out).2.1 _ (by omega)
  have hbe : Below w.heap.size w V := by rw [← hV]; exact (put5 PZ.out).2.2.1 _ _ (by omega) B.out
  clear hV kZ fZ kX
  have k1 := fun i => hbk.cell i
  refine bodyPost_ret (v := .tuple #[.agg (caseCells y D1 j1 D2 j2 D3 j3 D4 j4), .bool false]) (by simp [results, Try.results70, go_sem, k1]) rfl ?_
  exact ⟨y, D1, j1, D2, j2, D3, j3, D4, j4, false, rfl, (((OC.out.rows HF.out).kept hke).weak (Weaker.some (by omega))), HF.out, hbe, ownC_cap OC.out.busy, ownC_low (OC.out.did.kept hke) (by omega), sep_of OC.out.s14⟩
 | true =>
 clear q3
 go_wp2_with fail
 refine (l1In _ _ _ _).mono ?_
 rintro e w' ⟨rfl, rfl⟩
 cases q4 : inB num (-99) 99 with
 | false =>
  have kX := fun i => PX.out.cell i
  have kZ := fun i => PZ.out.cell i
  have fZ := fun i => PZ.out.frozen i
  go_wp2
  generalize hV : World.setCell (World.setCell (World.setCell (World.setCell (World.setCell w2 _ _) _ _) _ _) _ _) _ _ = V
  have hbk : Bk V (w.heap.size + 2) 43 (caseCells y D1 j1 D2 j2 D3 j3 D4 j4) := by rw [← hV]; exact (put5 PZ.out).1
  have hke : Kept (w.heap.size + 3) w2 V := by rw [← hV]; exact (put5 PZ.out).2.1 _ (by omega)
  have hbe : Below w.heap.size w V := by rw [← hV]; exact (put5 PZ.out).2.2.1 _ _ (by omega) B.out
  clear hV kZ fZ kX
  have k1 := fun i => hbk.cell i
  refine bodyPost_ret (v := .tuple #[.agg (caseCells y D1 j1 D2 j2 D3 j3 D4 j4), .bool false]) (by simp [results, Try.results70, go_sem, k1]) rfl ?_
  exact ⟨y, D1, j1, D2, j2, D3, j3, D4, j4, false, rfl, (((OC.out.rows HF.out).kept hke).weak (Weaker.some (by omega))), HF.out, hbe, ownC_cap OC.out.busy, ownC_low (OC.out.did.kept hke) (by omega), sep_of OC.out.s14⟩
 | true =>
 clear q4
 by_cases hd60 : y.did.length = 60
 ·
  have hb60 : ((y.did.length : Int) == 60) = true := by rw [beq_iff_eq]; omega
  clear hd60
  have kX := fun i => PX.out.cell i
  have kZ := fun i => PZ.out.cell i
  have fZ := fun i => PZ.out.frozen i
  go_wp2
  generalize hV : World.setCell (World.setCell (World.setCell (World.setCell (World.setCell w2 _ _) _ _) _ _) _ _) _ _ = V
  have hbk : Bk V (w.heap.size + 2) 43 (caseCells y D1 j1 D2 j2 D3 j3 D4 j4) := by rw [← hV]; exact (put5 PZ.out).1
  have hke : Kept (w.heap.size + 3) w2 V := by rw [← hV]; exact (put5 PZ.out).2.1 _ (by omega)
  have hbe : Below w.heap.size w V := by rw [← hV]; exact (put5 PZ.out).2.2.1 _ _ (by omega) B.out
  clear hV kZ fZ kX
  have k1 := fun i => hbk.cell i
  refine bodyPost_ret (v := .tuple #[.agg (caseCells y D1 j1 D2 j2 D3 j3 D4 j4), .bool false]) (by simp [results, Try.results70, go_sem, k1]) rfl ?_
  exact ⟨y, D1, j1, D2, j2, D3, j3, D4, j4, false, rfl, (((OC.out.rows HF.out).kept hke).weak (Weaker.some (by omega))), HF.out, hbe, ownC_cap OC.out.busy, ownC_low (OC.out.did.kept hke) (by omega), sep_of OC.out.s14⟩

 have hb60 : ((y.did.length : Int) == 60) = false := by rw [beq_eq_false_iff_ne]; omega
 clear hd60
 have hcW := HC.out.later B.out
 obtain ⟨b2, o2, hA2, hbl, ei0, ei1, ei2⟩ := item_at hcW.2.1 hj
 have hit := busy_at QBO.out hj
 subst hA2
 have HB2 := Lib.hid hbl
 have HIT : Hid (y.busy[j] = y.busy[j]) := rfl
 obtain ⟨it, hit0⟩ : ∃ it, it = y.busy[j] := ⟨_, rfl⟩
 have HIT := Lib.hid hit0
 rw [← hit0] at ei0 ei1 ei2 hit
 clear hit0 hcW hbl
 obtain ⟨hi1, hi2, hi3, hi4⟩ := hit
 obtain ⟨tj, htj⟩ := Int.eq_ofNat_of_zero_le hi1
 have HTJ := Lib.hid htj
 have htl : tj < x.tasks.length := by omega
 have htz : (tj : Int) < (x.tasks.length : Int) := by omega
 rw [htj] at ei0
 clear htj hi1 hi2
 have hnet : netOk x = true := by have h := QM.out; rw [mrkOk, Bool.and_eq_true] at h; exact h.1
 have hnd := netOk_need hnet htl
 obtain ⟨bA, oA, ta1, td1, ta2, td2, ta3, td3, hA, hbA, _, _, _, _, _, _, _, _, _, et8⟩ := task_at HX.out htl
 subst hA
 have hi4 : it.did ≤ x.tasks[tj].need - 1 := by rw [HTJ.out, Int.toNat_natCast, getD_get htl] at hi4; exact hi4
 generalize x.tasks[tj].need = need at hi4 hnd et8
 have HBA := Lib.hid hbA
 have TN : Hid (∀ W : World, Below w.heap.size w W → W.cell? ⟨bA, oA + tj * 9 + 8, none⟩ = some (.int .i64 need)) := fun W hb => (hb.cell (p := ⟨bA, oA + tj * 9 + 8, none⟩) HBA.out).trans et8
 have hid2 : it.did ≤ 2 := by omega
 clear hnet hbA et8
 go_upto_region 5 with fail
 generalize hV : World.alloc w2 _ = W5
 have hb : Below w2.heap.size w2 W5 := by rw [← hV]; exact (Below.refl _ _).alloc (Nat.le_refl _) _
 have PI : Hid (Bk W5 w2.heap.size 111 #[.int .i64 tj, .int .i64 it.who, .int .i64 it.did]) := by show Bk _ _ _ _; rw [← hV]; exact Bk.new rfl
 have PN := Lib.hid (PN.out.later hb)
 have PC := Lib.hid (PC.out.later hb)
 have PZ := Lib.hid (PZ.out.later hb)
 have PX := Lib.hid (PX.out.later hb)
 have OC := Lib.hid (OC.out.later hb)
 have B := Lib.hid (B.out.trans (hb.mono B.out.size))
 have zi : w2.heap.size < W5.heap.size := PI.out.lt
 clear hV hb hb60 hsb ei0 ei1 ei2 kC kN
 have kC := fun i => PC.out.cell i
 go_wp2_with fail
 clear kC
 have hcW := HC.out.later B.out
 refine (spec_DatSet A3 c3 y.data v num W5 hcW.2.2.1.ints (by have := HF.out.2.2.1; omega)).mono ?_
 rintro e w5 ⟨v5, ds5, rfl, ov5, hl5, hb⟩
 have PN := Lib.hid (PN.out.later hb)
 have PC := Lib.hid (PC.out.later hb)
 have PZ := Lib.hid (PZ.out.later hb)
 have PX := Lib.hid (PX.out.later hb)
 have OC := Lib.hid (OC.out.later hb)
 have B := Lib.hid (B.out.trans (hb.mono B.out.size))
 have PI := Lib.hid (PI.out.later hb)
 have z55 := hb.size
 clear hb hcW
 obtain ⟨E3, i3, rfl, _⟩ := ov5.form
 have D5 := Lib.hid (ownV_rows ov5)
 have HL5 := Lib.hid hl5
 clear ov5 hl5
 have OM := Lib.hid OC.out.marks
 have OB := Lib.hid OC.out.busy
 have OI := Lib.hid OC.out.did
 have S12 := Lib.hid OC.out.s12
 have S14 := Lib.hid OC.out.s14
 have S24 := Lib.hid OC.out.s24
 have OCC := Lib.hid OC.out
 clear OC
 have kX := fun i => PX.out.cell i
 have fX := fun i => PX.out.frozen i
 go_upto_region 6 with fail
 generalize hV : World.setCell w5 _ _ = W6
 have PX6 : Hid (Bk W6 w1.heap.size 43 #[.int .i64 y.state, .slice D1 y.marks.length j1, .slice D2 y.busy.length j2, .slice E3 ds5.length i3, .slice D4 y.did.length j4]) := by show Bk _ _ _ _; rw [← hV]; exact PX.out.set 3 _
 have hg6 : w5.grownBy W6 (some w1.heap.size) := by rw [← hV]; exact grown_put w5 ⟨w1.heap.size, 3, none⟩ _
 have hx5 : w1.heap.size < W5.heap.size := by omega
 have OM := Lib.hid (ownC_apart OM.out hg6 (fun h => by have := HL1.out _ h; omega))
 have OB := Lib.hid (ownC_apart OB.out hg6 (fun h => by have := HL2.out _ h; omega))
 have OI := Lib.hid (ownC_apart OI.out hg6 (fun h => by have := HL4.out _ h; omega))
 have D6 : Hid (Rows intC (some W5.heap.size) W6 W6.heap.size E3 ds5) := by show Rows _ _ _ _ _ _; exact rows_kept D5.out (by rw [← hV]; exact kept_put ⟨w1.heap.size, 3, none⟩ hx5 _)
 have PZ6 : Hid (Bk W6 (w.heap.size + 2) 43 #[.int .i64 0, .slice none 0 0, .slice none 0 0, .slice none 0 0, .slice none 0 0]) := (hg6.block _ (by omega) (by simp; omega)).trans PZ.out
 have PN6 : Hid (Bk W6 w.heap.size 75 (netCells x (some ⟨bA, oA, none⟩) c)) := (hg6.block _ (by omega) (by simp; omega)).trans PN.out
 have PC6 : Hid (Bk W6 (w.heap.size + 1) 43 (caseCells y A1 c1 (some ⟨b2, o2, none⟩) c2 A3 c3 A4 c4)) := (hg6.block _ (by omega) (by simp; omega)).trans PC.out
 have PI6 : Hid (Bk W6 w2.heap.size 111 #[.int .i64 tj, .int .i64 it.who, .int .i64 it.did]) := (hg6.block _ (by omega) (by simp; omega)).trans PI.out
 have B6 : Hid (Below w.heap.size w W6) := by show Below _ _ _; rw [← hV]; exact B.out.setCell (p := ⟨w1.heap.size, 3, none⟩) (by show w.heap.size ≤ w1.heap.size; omega) _
 have z6 : w5.heap.size ≤ W6.heap.size := hg6.size
 clear hV hg6 kX fX D5 PX PZ B PN PC PI
 obtain ⟨g, hD2, hgb, hgl⟩ := ownC_some OB.out (by omega)
 subst hD2
 obtain ⟨hput, ⟨u0, hu0⟩, hfr⟩ := own_item_put OB.out j hj (it.did + 1)
 have HPUT := Lib.hid hput
 have gx : g < w1.heap.size := HL2.out g rfl
 clear hput
 have kX := fun i => PX6.out.cell i
 have kI := fun i => PI6.out.cell i
 go_upto_region 7 with fail
 generalize hV : World.setCell W6 _ _ = W7
 have hg7 : W6.grownBy W7 (some g) := by rw [← hV]; exact grown_put W6 ⟨g, j * 3 + 2, none⟩ _
 have OB7 : Hid (OwnC itemC 111 W7 (w.heap.size + 3) (.slice (some ⟨g, 0, none⟩) y.busy.length j2) (y.busy.set j ⟨y.busy[j].task, y.busy[j].who, it.did + 1⟩)) := by show OwnC _ _ _ _ _ _; rw [← hV]; exact HPUT.out
 have OM := Lib.hid (ownC_apart OM.out hg7 (fun h => S12.out h))
 have OI := Lib.hid (ownC_apart OI.out hg7 (fun h => S24.out h.symm))
 have D7 : Hid (Rows intC (some W5.heap.size) W7 W7.heap.size E3 ds5) := by show Rows _ _ _ _ _ _; exact rows_kept D6.out (by rw [← hV]; exact kept_put ⟨g, j * 3 + 2, none⟩ (by show g < W5.heap.size; omega) _)
 have PX7 : Hid (Bk W7 w1.heap.size 43 #[.int .i64 y.state, .slice D1 y.marks.length j1, .slice (some ⟨g, 0, none⟩) y.busy.length j2, .slice E3 ds5.length i3, .slice D4 y.did.length j4]) := (hg7.block _ (by omega) (by simp; omega)).trans PX6.out
 have PZ7 : Hid (Bk W7 (w.heap.size + 2) 43 #[.int .i64 0, .slice none 0 0, .slice none 0 0, .slice none 0 0, .slice none 0 0]) := (hg7.block _ (by omega) (by simp; omega)).trans PZ6.out
 have PN7 : Hid (Bk W7 w.heap.size 75 (netCells x (some ⟨bA, oA, none⟩) c)) := (hg7.block _ (by omega) (by simp; omega)).trans PN6.out
 have PC7 : Hid (Bk W7 (w.heap.size + 1) 43 (caseCells y A1 c1 (some ⟨b2, o2, none⟩) c2 A3 c3 A4 c4)) := (hg7.block _ (by omega) (by simp; omega)).trans PC6.out
 have PI7 : Hid (Bk W7 w2.heap.size 111 #[.int .i64 tj, .int .i64 it.who, .int .i64 it.did]) := (hg7.block _ (by omega) (by simp; omega)).trans PI6.out
 have B7 : Hid (Below w.heap.size w W7) := by show Below _ _ _; rw [← hV]; exact B6.out.setCell (p := ⟨g, j * 3 + 2, none⟩) (by show w.heap.size ≤ g; omega) _
 have z7 : W6.heap.size ≤ W7.heap.size := hg7.size
 have HG7 := Lib.hid hg7
 clear hV hg7 kX kI hu0 hfr HPUT OB D6 PX6 PZ6 PN6 PC6 PI6 B6
 obtain ⟨bs, hbs⟩ : ∃ bs, bs = y.busy.set j ⟨y.busy[j].task, y.busy[j].who, it.did + 1⟩ := ⟨_, rfl⟩
 rw [← hbs] at OB7
 have HBS : Hid (bs.length = y.busy.length) := by show _ = _; rw [hbs, List.length_set]
 clear hbs
 have kI := fun i => PI7.out.cell i
 have kN := fun i => PN7.out.cell i
 have e8 := TN.out W7 B7.out
 by_cases hnz : it.did + 1 < need
 ·
  go_quiet (fail)
  obtain ⟨W8, hW8⟩ : ∃ V, V = W7.drewN nq := ⟨_, rfl⟩
  rw [← hW8]
  have hb : Below W7.heap.size W7 W8 := by rw [hW8]; exact bdN (Below.refl _ _) _
  have PX := Lib.hid (PX7.out.later hb)
  have PZ := Lib.hid (PZ7.out.later hb)
  have PN := Lib.hid (PN7.out.later hb)
  have PC := Lib.hid (PC7.out.later hb)
  have PI := Lib.hid (PI7.out.later hb)
  have OM := Lib.hid (OM.out.later hb)
  have OB := Lib.hid (OB7.out.later hb)
  have OI := Lib.hid (OI.out.later hb)
  have D8 := Lib.hid (D7.out.later hb)
  have B := Lib.hid (B7.out.trans (hb.mono B7.out.size))
  have z8 := hb.size
  clear hW8 hb hnz kI kN e8 PX7 PZ7 PN7 PC7 PI7 OB7 D7 B7
  have kX := fun i => PX.out.cell i
  have kZ := fun i => PZ.out.cell i
  have fZ := fun i => PZ.out.frozen i
  go_wp2
  generalize hV : World.setCell (World.setCell (World.setCell (World.setCell (World.setCell W8 _ _) _ _) _ _) _ _) _ _ = V
  have hbk : Bk V (w.heap.size + 2) 43 #[.int .i64 y.state, .slice D1 y.marks.length j1, .slice (some ⟨g, 0, none⟩) y.busy.length j2, .slice E3 ds5.length i3, .slice D4 y.did.length j4] := by rw [← hV]; exact (put5 PZ.out).1
  have hke : Kept (w.heap.size + 3) W8 V := by rw [← hV]; exact (put5 PZ.out).2.1 _ (by omega)
  have hbe : Below w.heap.size w V := by rw [← hV]; exact (put5 PZ.out).2.2.1 _ _ (by omega) B.out
  clear hV kZ fZ kX
  have k1 := fun i => hbk.cell i
  refine bodyPost_ret (v := .tuple #[.agg #[.int .i64 y.state, .slice D1 y.marks.length j1, .slice (some ⟨g, 0, none⟩) y.busy.length j2, .slice E3 ds5.length i3, .slice D4 y.did.length j4], .bool true]) (by simp [results, Try.results70, go_sem, k1]) rfl ?_
  have hca : CaseAt (some (w.heap.size + 3)) W8 ⟨y.state, y.marks, bs, ds5, y.did⟩ D1 (some ⟨g, 0, none⟩) E3 D4 := ⟨ownC_rows OM.out (show y.marks.length ≤ 1000000 from by have := HF.out.1; omega), ownC_rows OB.out (show bs.length ≤ 1000000 from by have := HBS.out; have := HF.out.2.1; omega), D8.out.weak (Weaker.some (by omega)), ownC_rows OI.out (show y.did.length ≤ 1000000 from by have := HF.out.2.2.2; omega)⟩
  exact ⟨⟨y.state, y.marks, bs, ds5, y.did⟩, D1, j1, (some ⟨g, 0, none⟩), j2, E3, i3, D4, j4, true, by rw [show caseCells ⟨y.state, y.marks, bs, ds5, y.did⟩ D1 j1 (some ⟨g, 0, none⟩) j2 E3 i3 D4 j4 = #[.int .i64 y.state, .slice D1 y.marks.length j1, .slice (some ⟨g, 0, none⟩) y.busy.length j2, .slice E3 ds5.length i3, .slice D4 y.did.length j4] from by rw [caseCells]; simp only [HBS.out]], (hca.kept hke).weak (Weaker.some (by omega)), ⟨HF.out.1, show bs.length ≤ 20 from by have := HBS.out; have := HF.out.2.1; omega, show ds5.length ≤ 20 from by have := HL5.out; have := HF.out.2.2.1; omega, HF.out.2.2.2⟩, hbe, ownC_cap OB.out, ownC_low (OI.out.kept hke) (by omega), sep_of S14.out⟩
 go_quiet (fail)
 obtain ⟨W8, hW8⟩ : ∃ V, V = W7.drewN nq := ⟨_, rfl⟩
 rw [← hW8]
 have hb : Below W7.heap.size W7 W8 := by rw [hW8]; exact bdN (Below.refl _ _) _
 have PX := Lib.hid (PX7.out.later hb)
 have PZ := Lib.hid (PZ7.out.later hb)
 have PN := Lib.hid (PN7.out.later hb)
 have PC := Lib.hid (PC7.out.later hb)
 have PI := Lib.hid (PI7.out.later hb)
 have OM := Lib.hid (OM.out.later hb)
 have OB := Lib.hid (OB7.out.later hb)
 have OI := Lib.hid (OI.out.later hb)
 have D8 := Lib.hid (D7.out.later hb)
 have B := Lib.hid (B7.out.trans (hb.mono B7.out.size))
 have z8 := hb.size
 clear hW8 hb hnz kI kN e8 PX7 PZ7 PN7 PC7 PI7 OB7 D7 B7
 have kX := fun i => PX.out.cell i
 have kI := fun i => PI.out.cell i
 have kC := fun i => PC.out.cell i
 have kN := fun i => PN.out.cell i
 go_wp2_with fail
 clear kX kI kC kN
 have hcW := HC.out.later B.out
 refine (spec_FirGive x (some ⟨bA, oA, none⟩) c A1 c1 y.marks (tj : Int) E3 i3 ds5 m W8 (HX.out.later B.out) hcW.1.ints D8.out.ints).mono ?_
 rintro e w9 ⟨v9, rfl, ov9, hb⟩
 have hyes := firOf_yes (x := x) (ms := y.marks) (d := ds5) (t := (tj : Int))
 generalize firOf x y.marks (tj : Int) ds5 = r at ov9 hyes ⊢
 obtain ⟨ms9, ok9⟩ := r
 obtain ⟨M9, i9, hv9, _⟩ := ov9.form
 subst hv9
 have M := Lib.hid (ownV_rows ov9)
 have OK := Lib.hid hyes
 have PX := Lib.hid (PX.out.later hb)
 have PZ := Lib.hid (PZ.out.later hb)
 have PN := Lib.hid (PN.out.later hb)
 have PC := Lib.hid (PC.out.later hb)
 have PI := Lib.hid (PI.out.later hb)
 have OM := Lib.hid (OM.out.later hb)
 have OB := Lib.hid (OB.out.later hb)
 have OI := Lib.hid (OI.out.later hb)
 have D := Lib.hid (D8.out.later hb)
 have B := Lib.hid (B.out.trans (hb.mono B.out.size))
 have z9 := hb.size
 clear hb hyes ov9 hcW D8
 have kC := fun i => PC.out.cell i
 cases ok9 with
 | false =>
  go_wp2_with fail
  clear kC
  have hcW := HC.out.later B.out
  refine (spec_l6Copy y A1 c1 (some ⟨b2, o2, none⟩) c2 A3 c3 A4 c4 m2 w9 hcW.1 hcW.2.1 hcW.2.2.1 hcW.2.2.2 (by have := HF.out.1; omega) (by have := HF.out.2.1; omega) (by have := HF.out.2.2.1; omega) (by have := HF.out.2.2.2; omega)).mono ?_
  rintro e w10 ⟨E1, E2, E3', E4, i1, i2, i3', i4, rfl, oc, hb⟩
  have OC : Hid (OwnCase w10 (w.heap.size + 3) (.slice E1 y.marks.length i1) (.slice E2 y.busy.length i2) (.slice E3' y.data.length i3') (.slice E4 y.did.length i4) y) := oc.low (by omega)
  have PZ := Lib.hid (PZ.out.later hb)
  have B := Lib.hid (B.out.trans (hb.mono B.out.size))
  clear hb oc hcW
  have kZ := fun i => PZ.out.cell i
  have fZ := fun i => PZ.out.frozen i
  go_wp2
  generalize hV : World.setCell (World.setCell (World.setCell (World.setCell (World.setCell w10 _ _) _ _) _ _) _ _) _ _ = V
  have hbk : Bk V (w.heap.size + 2) 43 (caseCells y E1 i1 E2 i2 E3' i3' E4 i4) := by rw [← hV]; exact (put5 PZ.out).1
  have hke : Kept (w.heap.size + 3) w10 V := by rw [← hV]; exact (put5 PZ.out).2.1 _ (by omega)
  have hbe : Below w.heap.size w V := by rw [← hV]; exact (put5 PZ.out).2.2.1 _ _ (by omega) B.out
  clear hV kZ fZ
  have k1 := fun i => hbk.cell i
  refine bodyPost_ret (v := .tuple #[.agg (caseCells y E1 i1 E2 i2 E3' i3' E4 i4), .bool false]) (by simp [results, Try.results70, go_sem, k1]) rfl ?_
  have hca : CaseAt (some (w.heap.size + 3)) w10 y E1 E2 E3' E4 := OC.out.rows HF.out
  exact ⟨y, E1, i1, E2, i2, E3', i3', E4, i4, false, rfl, (hca.kept hke).weak (Weaker.some (by omega)), HF.out, hbe, ownC_cap OC.out.busy, ownC_low (OC.out.did.kept hke) (by omega), sep_of OC.out.s14⟩
 | true =>
  have ok2 := (OK.out rfl).1
  have OK8 := Lib.hid (OK.out rfl).2
  clear OK
  have kX := fun i => PX.out.cell i
  have fX := fun i => PX.out.frozen i
  go_upto_region 13 with fail
  generalize hV : World.setCell w9 _ _ = W10
  have PX10 : Hid (Bk W10 w1.heap.size 43 #[.int .i64 y.state, .slice M9 ms9.length i9, .slice (some ⟨g, 0, none⟩) y.busy.length j2, .slice E3 ds5.length i3, .slice D4 y.did.length j4]) := by show Bk _ _ _ _; rw [← hV]; exact PX.out.set 1 _
  have hg10 : w9.grownBy W10 (some w1.heap.size) := by rw [← hV]; exact grown_put w9 ⟨w1.heap.size, 1, none⟩ _
  have OI := Lib.hid (ownC_apart OI.out hg10 (fun h => by have := HL4.out _ h; omega))
  have hx8 : w1.heap.size < W8.heap.size := by omega
  have M : Hid (Rows intC (some W8.heap.size) W10 W10.heap.size M9 ms9) := by show Rows _ _ _ _ _ _; exact rows_kept M.out (by rw [← hV]; exact kept_put ⟨w1.heap.size, 1, none⟩ hx8 _)
  have D : Hid (Rows intC (some W5.heap.size) W10 W10.heap.size E3 ds5) := by show Rows _ _ _ _ _ _; exact rows_kept D.out (by rw [← hV]; exact kept_put ⟨w1.heap.size, 1, none⟩ hx5 _)
  have PZ10 : Hid (Bk W10 (w.heap.size + 2) 43 #[.int .i64 0, .slice none 0 0, .slice none 0 0, .slice none 0 0, .slice none 0 0]) := (hg10.block _ (by omega) (by simp; omega)).trans PZ.out
  have PC10 : Hid (Bk W10 (w.heap.size + 1) 43 (caseCells y A1 c1 (some ⟨b2, o2, none⟩) c2 A3 c3 A4 c4)) := (hg10.block _ (by omega) (by simp; omega)).trans PC.out
  have PI10 : Hid (Bk W10 w2.heap.size 111 #[.int .i64 tj, .int .i64 it.who, .int .i64 it.did]) := (hg10.block _ (by omega) (by simp; omega)).trans PI.out
  have B10 : Hid (Below w.heap.size w W10) := by show Below _ _ _; rw [← hV]; exact B.out.setCell (p := ⟨w1.heap.size, 1, none⟩) (by show w.heap.size ≤ w1.heap.size; omega) _
  have z10 : w9.heap.size ≤ W10.heap.size := hg10.size
  clear hV hg10 kX fX kC PX PZ PC PI B PN OM OB HG7
  have hdr : Below W10.heap.size W10 W10.drew := (Below.refl _ _).drew
  refine wp_region_held_drew (S := fun V : World => V.cell? ⟨w.heap.size + 1, 2, none⟩ = some (.slice (some ⟨b2, o2, none⟩) y.busy.length c2)) (by kernel_rfl) (PC10.out.cell 2) (fun hHeld => ?_)
  have PX := Lib.hid (PX10.out.later hdr)
  have PZ := Lib.hid (PZ10.out.later hdr)
  have PC := Lib.hid (PC10.out.later hdr)
  have PI := Lib.hid (PI10.out.later hdr)
  have OI := Lib.hid (OI.out.later hdr)
  have M := Lib.hid (M.out.later hdr)
  have D := Lib.hid (D.out.later hdr)
  have B := Lib.hid (B10.out.trans (hdr.mono B10.out.size))
  have zd := hdr.size
  clear PX10 PZ10 PC10 PI10 B10
  generalize W10.drew = wd at PX PZ PC PI OI M D B zd hHeld ⊢
  clear hdr
  have hcap := HCAP.out
  have hjc : (j : Int) ≤ (c2 : Int) := by omega
  have hj1 : (j : Int) + 1 ≤ (y.busy.length : Int) := by omega
  refine tk (i := 1) (v := ?_) rfl (.inl ⟨by rfl, ?_⟩) ?_
  rotate_left
  ·
   intro V hSw; (try dsimp only at hSw); go_simp; (try with_reducible rfl)
  simp only [sA, sB, sC, Act.put, sD, sE, sF]
  refine tk (i := 2) (v := ?_) rfl (.inl ⟨by rfl, ?_⟩) ?_
  rotate_left
  ·
   intro V hSw; (try dsimp only at hSw); go_simp; (try with_reducible rfl)
  simp only [sA, sB, sC, Act.put, sD, sE, sF]
  refine tk (i := 3) (v := ?_) rfl (.inl ⟨by rfl, ?_⟩) ?_
  rotate_left
  ·
   intro V hSw; (try dsimp only at hSw); go_simp; (try with_reducible rfl)
  simp only [sA, sB, sC, Act.put, sD, sE, sF]
  refine tk (i := 4) (v := ?_) rfl (.inl ⟨by rfl, ?_⟩) ?_
  rotate_left
  ·
   intro V hSw; (try dsimp only at hSw); go_simp; (try with_reducible rfl)
  simp only [sA, sB, sC, Act.put, sD, sE, sF]
  refine tk (i := 6) (v := ?_) rfl (.inl ⟨by rfl, ?_⟩) ?_
  rotate_left
  ·
   intro V hSw; (try dsimp only at hSw); go_simp; (try with_reducible rfl)
  simp only [sA, sB, sC, Act.put, sD, sE, sF]
  refine tk (i := 7) (v := ?_) rfl (.inl ⟨by rfl, ?_⟩) ?_
  rotate_left
  ·
   intro V hSw; (try dsimp only at hSw); go_simp; (try with_reducible rfl)
  simp only [sA, sB, sC, Act.put, sD, sE, sF]
  refine tk (i := 8) (v := ?_) rfl (.inl ⟨by rfl, ?_⟩) ?_
  rotate_left
  ·
   intro V hSw; (try dsimp only at hSw); go_simp; (try with_reducible rfl)
  simp only [sA, sB, sC, Act.put, sD, sE, sF]
  refine tk (i := 9) (v := ?_) rfl (.inl ⟨by rfl, ?_⟩) ?_
  rotate_left
  ·
   intro V hSw; (try dsimp only at hSw); go_simp; (try with_reducible rfl)
  simp only [sA, sB, sC, Act.put, sD, sE, sF]
  rw [show IntKind.i64.wrap ((j : Int) + 1) = ((j + 1 : Nat) : Int) from IntWalk.i64_in _ (by omega)]
  have h0j : (0 : Int) ≤ (j : Int) + 1 := by omega
  refine tk (i := 10) (v := .slice (if c2 = j + 1 then some ⟨b2, o2, none⟩ else some ⟨b2, o2 + (j + 1) * 3, none⟩) (y.busy.length - (j + 1)) (c2 - (j + 1))) rfl (.inl ⟨by rfl, ?_⟩) ?_
  ·
   intro V hSw; (try dsimp only at hSw); go_simp; (try with_reducible rfl)
  simp only [sA, sB, sC, Act.put, sD, sE, sF]
  obtain ⟨o3, ho3, hr3⟩ : ∃ o3, (if c2 = j + 1 then some (⟨b2, o2, none⟩ : Addr) else some ⟨b2, o2 + (j + 1) * 3, none⟩) = some ⟨b2, o3, none⟩ ∧ Rows itemC m2 wd wd.heap.size (some ⟨b2, o3, none⟩) (y.busy.drop (j + 1)) := by
   by_cases hcc : c2 = j + 1
   ·
    rw [if_pos hcc, show y.busy.drop (j + 1) = [] from List.drop_eq_nil_of_le (by omega)]
    exact ⟨o2, rfl, Rows.nil⟩
   ·
    rw [if_neg hcc]
    exact ⟨_, rfl, rows_drop (HC.out.later B.out).2.1 (j + 1)⟩
  rw [ho3]
  have R1 := Lib.hid (rows_take (HC.out.later B.out).2.1 j)
  have R2 := Lib.hid hr3
  clear ho3 hr3 h0j hjc hcap
  refine wpAnyH_ready (rs := [0]) (by kernel_rfl) (by simp) ?_
  refine AllReadyH.cons rfl (fun K hK => ?_) AllReadyH.nil
  go_simp
  obtain ⟨va, hV⟩ : ∃ V, V = World.alloc wd (.cells #[] 111) := ⟨_, rfl⟩
  have hba : Below wd.heap.size wd va := by rw [hV]; exact (Below.refl _ _).alloc (Nat.le_refl _) _
  have FL : Hid (Bk va wd.heap.size 111 #[]) := by show Bk _ _ _ _; rw [hV]; exact Bk.new rfl
  rw [← hV]
  clear hV
  refine hK.out _ _ ((PC.out.later hba).cell 2) (fun hHeld => ?_)
  clear hK K
  refine wpAnyH_ready (rs := [5]) (by kernel_rfl) (by simp) ?_
  refine AllReadyH.cons rfl (fun K hK => ?_) AllReadyH.nil
  refine step_lit (cells := GItem.cells) (hk := fun _ => rfl) rfl (.tmp 101) (.tmp 105) 40 rfl 111 _ 24 Try.underlying40 info_Item rfl (by decide) (by decide) (fun x u hu => by simp [GItem.cells] at hu; rcases hu with rfl | rfl | rfl <;> rfl) wd.heap.size wd.heap.size (Nat.le_refl _) FL.out rfl (some ⟨b2, o2, none⟩) c2 va.heap.size m2 (y.busy.take j) (by rw [List.length_take, Nat.min_eq_left (by omega)]; rfl) (R1.out.later hba) (by rw [List.length_take]; omega) ?_
  intro vb wb hob hbb hwb
  have HOB := Lib.hid hob
  have HBB : Hid (Below wd.heap.size wd wb) := hba.trans (hbb.mono hba.size)
  have zb := HBB.out.size
  clear hob hbb hwb hba FL
  refine hK.out _ _ ((PC.out.later HBB.out).cell 2) (fun hHeld => ?_)
  clear hK K
  refine wpAnyH_ready (rs := [11]) (by kernel_rfl) (by simp) ?_
  refine AllReadyH.cons rfl (fun K hK => ?_) AllReadyH.nil
  refine step_flatB (cells := GItem.cells) (hk := fun _ => rfl) rfl (.tmp 106) (.tmp 111) 40 rfl 111 _ 24 Try.underlying40 info_Item rfl (by decide) (by decide) (fun x u hu => by simp [GItem.cells] at hu; rcases hu with rfl | rfl | rfl <;> rfl) wd.heap.size vb (y.busy.take j) rfl HOB.out b2 o3 (c2 - (j + 1)) wb.heap.size m2 (y.busy.drop (j + 1)) (by rw [List.length_drop]; rfl) (R2.out.later HBB.out) (by rw [List.length_take, List.length_drop]; omega) zb ?_
  intro vc wc hoc hgc hwc
  have hbc : Below wd.heap.size wb wc := (Below.refl _ _).grown hgc zb fun q hq => (HOB.out.lt q hq).1
  have HB : Hid (Below wd.heap.size wd wc) := HBB.out.trans hbc
  obtain ⟨bz, hbz⟩ : ∃ bz, bz = y.busy.take j ++ y.busy.drop (j + 1) := ⟨_, rfl⟩
  rw [← hbz] at hoc
  have HBZ : Hid (bz.length ≤ 6) := by show _ ≤ _; rw [hbz, List.length_append, List.length_take, List.length_drop]; omega
  obtain ⟨F2, f2, hvc, _⟩ := hoc.rows (by have := HBZ.out; omega)
  subst hvc
  have OZ := Lib.hid hoc
  have HLZ : Hid (∀ g, Value.ownBlock (.slice F2 bz.length f2) = some g → wd.heap.size ≤ g) := fun g h => (hoc.lt g h).1
  clear hoc hgc hwc hbc hbz HOB HBB zb R1 R2
  have PX := Lib.hid (PX.out.later HB.out)
  have PZ := Lib.hid (PZ.out.later HB.out)
  have PC := Lib.hid (PC.out.later HB.out)
  have PI := Lib.hid (PI.out.later HB.out)
  have OI := Lib.hid (OI.out.later HB.out)
  have M := Lib.hid (M.out.later HB.out)
  have D := Lib.hid (D.out.later HB.out)
  have B := Lib.hid (B.out.trans (HB.out.mono B.out.size))
  have zc := HB.out.size
  clear HB
  refine hK.out _ _ (PC.out.cell 2) (fun hHeld => ?_)
  clear hK K
  refine tk (i := 12) (v := ?_) rfl (.inl ⟨by rfl, ?_⟩) ?_
  rotate_left
  ·
   intro V hSw; (try dsimp only at hSw); go_simp; (try with_reducible rfl)
  simp only [sA, sB, sC, Act.put, sD, sE, sF]
  have kX := fun i => PX.out.cell i
  have fX := fun i => PX.out.frozen i
  refine wpAnyH_ready (rs := [13]) (by kernel_rfl) (by simp) ?_
  refine AllReadyH.cons rfl (fun K hK => ?_) AllReadyH.nil
  go_simp
  generalize hV : World.setCell wc _ _ = W14
  have hg : wc.grownBy W14 (some w1.heap.size) := by rw [← hV]; exact grown_put wc ⟨w1.heap.size, 2, none⟩ _
  have hkp : ∀ lo, w1.heap.size < lo → Kept lo wc W14 := fun lo hl => by rw [← hV]; exact kept_put ⟨w1.heap.size, 2, none⟩ hl _
  have PX : Hid (Bk W14 w1.heap.size 43 #[.int .i64 y.state, .slice M9 ms9.length i9, .slice F2 bz.length f2, .slice E3 ds5.length i3, .slice D4 y.did.length j4]) := by show Bk _ _ _ _; rw [← hV]; exact PX.out.set 2 _
  have OI := Lib.hid (ownC_apart OI.out hg (fun h => by have := HL4.out _ h; omega))
  have OZ := Lib.hid (ownC_apart OZ.out hg (fun h => by have := HLZ.out _ h; omega))
  have M := Lib.hid (rows_kept M.out (hkp _ (by omega)))
  have D := Lib.hid (rows_kept D.out (hkp _ (by omega)))
  have PZ : Hid (Bk W14 (w.heap.size + 2) 43 #[.int .i64 0, .slice none 0 0, .slice none 0 0, .slice none 0 0, .slice none 0 0]) := (hg.block _ (by omega) (by simp; omega)).trans PZ.out
  have PC : Hid (Bk W14 (w.heap.size + 1) 43 (caseCells y A1 c1 (some ⟨b2, o2, none⟩) c2 A3 c3 A4 c4)) := (hg.block _ (by omega) (by simp; omega)).trans PC.out
  have PI : Hid (Bk W14 w2.heap.size 111 #[.int .i64 tj, .int .i64 it.who, .int .i64 it.did]) := (hg.block _ (by omega) (by simp; omega)).trans PI.out
  have B : Hid (Below w.heap.size w W14) := by show Below _ _ _; rw [← hV]; exact B.out.setCell (p := ⟨w1.heap.size, 2, none⟩) (by show w.heap.size ≤ w1.heap.size; omega) _
  have zW14 : wc.heap.size ≤ W14.heap.size := hg.size
  clear hV hg hkp kX fX
  refine hK.out _ _ (PC.out.cell 2) (fun hHeld => ?_)
  clear hK K
  refine wpAnyH_done (by kernel_rfl) ?_ _
  have kX := fun i => PX.out.cell i
  have kI := fun i => PI.out.cell i
  have fX := fun i => PX.out.frozen i
  go_upto_region 15 with (at_builtin; refine append_C5 rfl (.tmp 115) (.tmp 121) 41 rfl didC 53 _ 16 Try.underlying41 info_did rfl (by decide) (by decide) (w.heap.size + 3) _ y.did rfl (OI.out.later ((Below.refl _ _).alloc (Nat.le_refl _) _)) ⟨(tj : Int), it.who⟩ _ (w.heap.size + 3) 0 rfl (Nat.le_refl _) (Nat.zero_le _) (fun _ _ => .inr (Nat.zero_le _)) W14.heap.size rfl (fun j u hu => by rw [Bk.cell (Bk.new rfl)]; simpa [GDid.cells] using hu) (by simp [GDid.cells, Value.oneCell']) (by have := QDID.out; omega) (by simp only [World.size_alloc]; omega) ?_; intro v7 w15 hown7 hg7 hb7 h57; have O7 := Lib.hid hown7; have G7 := Lib.hid hg7; have B7 := Lib.hid hb7; have H57 := Lib.hid h57; obtain ⟨E4, i4, hv7, _⟩ := hown7.rows (by rw [List.length_append]; have := QDID.out; simp; omega); subst hv7; have PX15 : Hid (Bk w15 w1.heap.size 43 #[.int .i64 y.state, .slice M9 ms9.length i9, .slice F2 bz.length f2, .slice E3 ds5.length i3, .slice D4 y.did.length j4]) := (hg7.block _ (by simp only [World.size_alloc]; omega) (fun h => by have := HL4.out _ h.symm; omega)).trans (PX.out.alloc _); have kX7 := fun i => PX15.out.cell i; have fX7 := fun i => PX15.out.frozen i; clear hown7 hg7 hb7 h57 kX fX kI)
  have HM14 := Lib.hid (rows_lo M.out)
  have ba : Below W14.heap.size W14 (W14.alloc (.cells #[.int .i64 tj, .int .i64 it.who] 53)) := (Below.refl _ _).alloc (Nat.le_refl _) _
  have zal : (W14.alloc (.cells #[.int .i64 tj, .int .i64 it.who] 53)).heap.size = W14.heap.size + 1 := by simp
  have OIL := OI.out.lt
  have hk7 : ∀ lo, w1.heap.size < lo → Kept lo (W14.alloc (.cells #[.int .i64 tj, .int .i64 it.who] 53)) w15 := fun lo hl => ⟨G7.out.size, fun b hb hlo => G7.out.block b hb (fun h => by have := HL4.out _ h.symm; omega)⟩
  have z15 : W14.heap.size ≤ w15.heap.size := by have := G7.out.size; omega
  have OZ := Lib.hid (ownC_apart' (OZ.out.later ba) G7.out (fun q hq h => by have := HLZ.out q hq; have := HL4.out q h; omega))
  have M := Lib.hid (rows_kept (M.out.later ba) (hk7 _ (by omega)))
  have D := Lib.hid (rows_kept (D.out.later ba) (hk7 _ (by omega)))
  have PZ : Hid (Bk w15 (w.heap.size + 2) 43 #[.int .i64 0, .slice none 0 0, .slice none 0 0, .slice none 0 0, .slice none 0 0]) := (G7.out.block _ (by omega) (fun h => by have := (OIL _ h.symm).1; omega)).trans (PZ.out.later ba)
  have B : Hid (Below w.heap.size w w15) := (B.out.trans (ba.mono (by omega))).trans (B7.out.mono (by omega))
  have NE4 : Hid (∀ q, Value.ownBlock (.slice E4 (y.did ++ [(⟨(tj : Int), it.who⟩ : GDid)]).length i4) = some q → q ≠ w1.heap.size) := fun q h => by
   rcases H57.out with h5 | h5
   ·
    rw [h5] at h
    have := HL4.out _ h
    omega
   ·
    rw [h5] at h
    simp only [Option.some.injEq] at h
    omega
  have NE5 : Hid (0 < ms9.length → ∀ (q o : Nat), M9 = some ⟨q, o, none⟩ → Value.ownBlock (.slice E4 (y.did ++ [(⟨(tj : Int), it.who⟩ : GDid)]).length i4) ≠ some q) := fun h0 q o hM h => by
   have h3 := HM14.out h0 q o hM
   rcases H57.out with h5 | h5
   ·
    rw [h5] at h
    have := HL4.out _ h
    omega
   ·
    rw [h5] at h
    simp only [Option.some.injEq] at h
    omega
  clear HM14
  have PX := PX15
  clear ba zal OIL hk7 OI G7 B7 H57 kX7 fX7 PX15 PC PI
  generalize hV : World.setCell w15 _ _ = W16
  have OV := O7
  clear O7
  have hg : w15.grownBy W16 (some w1.heap.size) := by rw [← hV]; exact grown_put w15 ⟨w1.heap.size, 4, none⟩ _
  have hkp : ∀ lo, w1.heap.size < lo → Kept lo w15 W16 := fun lo hl => by rw [← hV]; exact kept_put ⟨w1.heap.size, 4, none⟩ hl _
  have PX : Hid (Bk W16 w1.heap.size 43 #[.int .i64 y.state, .slice M9 ms9.length i9, .slice F2 bz.length f2, .slice E3 ds5.length i3, .slice E4 (y.did.length + 1) i4]) := by show Bk _ _ _ _; rw [← hV]; exact PX.out.set 4 _
  have OZ := Lib.hid (ownC_apart OZ.out hg (fun h => by have := HLZ.out _ h; omega))
  have OV := Lib.hid (ownC_apart OV.out hg (fun h => NE4.out _ h rfl))
  have M := Lib.hid (rows_kept M.out (hkp _ (by omega)))
  have D := Lib.hid (rows_kept D.out (hkp _ (by omega)))
  have PZ : Hid (Bk W16 (w.heap.size + 2) 43 #[.int .i64 0, .slice none 0 0, .slice none 0 0, .slice none 0 0, .slice none 0 0]) := (hg.block _ (by omega) (by simp; omega)).trans PZ.out
  have B : Hid (Below w.heap.size w W16) := by show Below _ _ _; rw [← hV]; exact B.out.setCell (p := ⟨w1.heap.size, 4, none⟩) (by show w.heap.size ≤ w1.heap.size; omega) _
  have zW16 : w15.heap.size ≤ W16.heap.size := hg.size
  clear hV hg hkp
  have kX := fun i => PX.out.cell i
  have fX := fun i => PX.out.frozen i
  obtain ⟨mb, mo, hM9, _, hm1⟩ := M.out.ints.at_ (k := 1) (by omega)
  subst hM9
  generalize ms9[1] = zm at hm1
  have hml : (1 : Int) < (ms9.length : Int) := by omega
  by_cases hzm : 0 < zm
  ·
   go_upto_region 17 with fail
   generalize hV : World.setCell W16 _ _ = W17
   have hg : W16.grownBy W17 (some w1.heap.size) := by rw [← hV]; exact grown_put W16 ⟨w1.heap.size, 0, none⟩ _
   have hkp : ∀ lo, w1.heap.size < lo → Kept lo W16 W17 := fun lo hl => by rw [← hV]; exact kept_put ⟨w1.heap.size, 0, none⟩ hl _
   have PX : Hid (Bk W17 w1.heap.size 43 #[.int .i64 2, .slice (some ⟨mb, mo, none⟩) ms9.length i9, .slice F2 bz.length f2, .slice E3 ds5.length i3, .slice E4 (y.did.length + 1) i4]) := by show Bk _ _ _ _; rw [← hV]; exact PX.out.set 0 _
   have OZ := Lib.hid (ownC_apart OZ.out hg (fun h => by have := HLZ.out _ h; omega))
   have OV := Lib.hid (ownC_apart OV.out hg (fun h => NE4.out _ h rfl))
   have M := Lib.hid (rows_kept M.out (hkp _ (by omega)))
   have D := Lib.hid (rows_kept D.out (hkp _ (by omega)))
   have PZ : Hid (Bk W17 (w.heap.size + 2) 43 #[.int .i64 0, .slice none 0 0, .slice none 0 0, .slice none 0 0, .slice none 0 0]) := (hg.block _ (by omega) (by simp; omega)).trans PZ.out
   have B : Hid (Below w.heap.size w W17) := by show Below _ _ _; rw [← hV]; exact B.out.setCell (p := ⟨w1.heap.size, 0, none⟩) (by show w.heap.size ≤ w1.heap.size; omega) _
   have zW17 : W16.heap.size ≤ W17.heap.size := hg.size
   clear hV hg hkp
   clear kX fX
   clear hm1 hzm
   have kX := fun i => (PX.out.alloc (.cells #[] 111)).cell i
   have fX := fun i => (PX.out.alloc (.cells #[] 111)).frozen i
   go_upto_region 18 with fail
   generalize hA : World.alloc W17 _ = wa
   have hba : Below W17.heap.size W17 wa := by rw [← hA]; exact (Below.refl _ _).alloc (Nat.le_refl _) _
   have zwa := hba.size
   have PX := Lib.hid (PX.out.later hba)
   have PZ := Lib.hid (PZ.out.later hba)
   have OZ := Lib.hid (OZ.out.later hba)
   have OV := Lib.hid (OV.out.later hba)
   have M := Lib.hid (M.out.later hba)
   have D := Lib.hid (D.out.later hba)
   have B := Lib.hid (B.out.trans (hba.mono B.out.size))
   clear hA hba kX fX
   generalize hV : World.setCell wa _ _ = W18
   have hg : wa.grownBy W18 (some w1.heap.size) := by rw [← hV]; exact grown_put wa ⟨w1.heap.size, 2, none⟩ _
   have hkp : ∀ lo, w1.heap.size < lo → Kept lo wa W18 := fun lo hl => by rw [← hV]; exact kept_put ⟨w1.heap.size, 2, none⟩ hl _
   have PX : Hid (Bk W18 w1.heap.size 43 #[.int .i64 2, .slice (some ⟨mb, mo, none⟩) ms9.length i9, .slice (some ⟨W17.heap.size, 0, none⟩) 0 0, .slice E3 ds5.length i3, .slice E4 (y.did.length + 1) i4]) := by show Bk _ _ _ _; rw [← hV]; exact PX.out.set 2 _
   have OV := Lib.hid (ownC_apart OV.out hg (fun h => NE4.out _ h rfl))
   have M := Lib.hid (rows_kept M.out (hkp _ (by omega)))
   have D := Lib.hid (rows_kept D.out (hkp _ (by omega)))
   have PZ : Hid (Bk W18 (w.heap.size + 2) 43 #[.int .i64 0, .slice none 0 0, .slice none 0 0, .slice none 0 0, .slice none 0 0]) := (hg.block _ (by omega) (by simp; omega)).trans PZ.out
   have B : Hid (Below w.heap.size w W18) := by show Below _ _ _; rw [← hV]; exact B.out.setCell (p := ⟨w1.heap.size, 2, none⟩) (by show w.heap.size ≤ w1.heap.size; omega) _
   have zW18 : wa.heap.size ≤ W18.heap.size := hg.size
   clear hV hg hkp
   have kX := fun i => PX.out.cell i
   have kZ := fun i => PZ.out.cell i
   have fZ := fun i => PZ.out.frozen i
   go_wp2
   generalize hV : World.setCell (World.setCell (World.setCell (World.setCell (World.setCell W18 _ _) _ _) _ _) _ _) _ _ = V
   have hbk : Bk V (w.heap.size + 2) 43 #[.int .i64 2, .slice (some ⟨mb, mo, none⟩) ms9.length i9, .slice (some ⟨W17.heap.size, 0, none⟩) 0 0, .slice E3 ds5.length i3, .slice E4 (y.did.length + 1) i4] := by rw [← hV]; exact (put5 PZ.out).1
   have hke : Kept (w.heap.size + 3) W18 V := by rw [← hV]; exact (put5 PZ.out).2.1 _ (by omega)
   have hbe : Below w.heap.size w V := by rw [← hV]; exact (put5 PZ.out).2.2.1 _ _ (by omega) B.out
   clear hV kZ fZ kX
   have k1 := fun i => hbk.cell i
   refine bodyPost_ret (v := .tuple #[.agg #[.int .i64 2, .slice (some ⟨mb, mo, none⟩) ms9.length i9, .slice (some ⟨W17.heap.size, 0, none⟩) 0 0, .slice E3 ds5.length i3, .slice E4 (y.did.length + 1) i4], .bool true]) (by simp [results, Try.results70, go_sem, k1]) rfl ?_
   have hca : CaseAt (some (w.heap.size + 3)) W18 ⟨2, ms9, [], ds5, (y.did ++ [(⟨(tj : Int), it.who⟩ : GDid)])⟩ (some ⟨mb, mo, none⟩) (some ⟨W17.heap.size, 0, none⟩) E3 E4 := ⟨M.out.weak (Weaker.some (by omega)), Rows.nil, D.out.weak (Weaker.some (by omega)), ownC_rows OV.out (by rw [List.length_append]; have := QDID.out; simp; omega)⟩
   exact ⟨⟨2, ms9, [], ds5, (y.did ++ [(⟨(tj : Int), it.who⟩ : GDid)])⟩, (some ⟨mb, mo, none⟩), i9, (some ⟨W17.heap.size, 0, none⟩), 0, E3, i3, E4, i4, true, by simp [caseCells], (hca.kept hke).weak (Weaker.some (by omega)), ⟨Nat.le_trans OK8.out (by decide), Nat.zero_le _, show ds5.length ≤ 20 from by have := HL5.out; have := HF.out.2.2.1; omega, show (y.did ++ [(⟨(tj : Int), it.who⟩ : GDid)]).length ≤ 100 from by rw [List.length_append]; have := QDID.out; simp; omega⟩, hbe, Nat.zero_le _, ownC_low (OV.out.kept hke) (by omega), NE5.out⟩
  ·
   go_upto_region 18 with fail
   clear hm1 hzm kX fX
   have kX := fun i => PX.out.cell i
   have kZ := fun i => PZ.out.cell i
   have fZ := fun i => PZ.out.frozen i
   go_wp2
   generalize hV : World.setCell (World.setCell (World.setCell (World.setCell (World.setCell W16 _ _) _ _) _ _) _ _) _ _ = V
   have hbk : Bk V (w.heap.size + 2) 43 #[.int .i64 y.state, .slice (some ⟨mb, mo, none⟩) ms9.length i9, .slice F2 bz.length f2, .slice E3 ds5.length i3, .slice E4 (y.did.length + 1) i4] := by rw [← hV]; exact (put5 PZ.out).1
   have hke : Kept (w.heap.size + 3) W16 V := by rw [← hV]; exact (put5 PZ.out).2.1 _ (by omega)
   have hbe : Below w.heap.size w V := by rw [← hV]; exact (put5 PZ.out).2.2.1 _ _ (by omega) B.out
   clear hV kZ fZ kX
   have k1 := fun i => hbk.cell i
   refine bodyPost_ret (v := .tuple #[.agg #[.int .i64 y.state, .slice (some ⟨mb, mo, none⟩) ms9.length i9, .slice F2 bz.length f2, .slice E3 ds5.length i3, .slice E4 (y.did.length + 1) i4], .bool true]) (by simp [results, Try.results70, go_sem, k1]) rfl ?_
   have hca : CaseAt (some (w.heap.size + 3)) W16 ⟨y.state, ms9, bz, ds5, (y.did ++ [(⟨(tj : Int), it.who⟩ : GDid)])⟩ (some ⟨mb, mo, none⟩) F2 E3 E4 := ⟨M.out.weak (Weaker.some (by omega)), (ownC_rows OZ.out (show bz.length ≤ 1000000 from by have := HBZ.out; omega)).weak (Weaker.some (by omega)), D.out.weak (Weaker.some (by omega)), ownC_rows OV.out (by rw [List.length_append]; have := QDID.out; simp; omega)⟩
   exact ⟨⟨y.state, ms9, bz, ds5, (y.did ++ [(⟨(tj : Int), it.who⟩ : GDid)])⟩, (some ⟨mb, mo, none⟩), i9, F2, f2, E3, i3, E4, i4, true, by simp [caseCells], (hca.kept hke).weak (Weaker.some (by omega)), ⟨Nat.le_trans OK8.out (by decide), Nat.le_trans HBZ.out (by decide), show ds5.length ≤ 20 from by have := HL5.out; have := HF.out.2.2.1; omega, show (y.did ++ [(⟨(tj : Int), it.who⟩ : GDid)]).length ≤ 100 from by rw [List.length_append]; have := QDID.out; simp; omega⟩, hbe, ownC_cap OZ.out, ownC_low (OV.out.kept hke) (by omega), NE5.out⟩
end Go.Proofs.Ytjieilicjdoaaaa
