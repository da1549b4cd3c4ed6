/- Slices of rules copied and compared: what the copies read as, and that equal slices are found equal. -/
import Derived.Test.YtjieilicjdoaaaaRule
import Derived.Test.YtjieilicjdoaaaaCopyAsk
namespace Go.Proofs.Ytjieilicjdoaaaa
open Go.RowKit

set_option maxHeartbeats 1000000 in
theorem laws_toRdrNode (x : GRule) (A : Option Addr) (c : Nat) (m : Option Nat) (w : World) (h : Rows intC m w w.heap.size A x.stone) (l : x.stone.length ≤ 1048576) :
    Calls Try.prog 35 #[.agg #[.int .i64 x.ask.op, .int .i64 x.ask.var, .int .i64 x.ask.k, .int .i64 x.yes, .int .i64 x.no, .int .i64 x.ans, .slice A x.stone.length c]] w (MadeR ruleC x w) := by
  have H := Lib.hid h.ints
  clear h
  go_enter Try.func35, Try.ntmps35
  go_wp2_with fail
  refine callsAt fun W0 hW0 => ?_
  have b1 : Bk W0 (w.heap.size + 1) 65 #[.int .i64 0, .int .i64 0, .int .i64 0, .int .i64 0, .int .i64 0, .int .i64 0, .slice none 0 0] := by rw [hW0]; exact (Bk.new (by simp)).alloc _
  have b2 : Bk W0 (w.heap.size + 1 + 1) 65 #[.int .i64 0, .int .i64 0, .int .i64 0, .int .i64 0, .int .i64 0, .int .i64 0, .slice none 0 0] := by rw [hW0]; exact Bk.new (by simp)
  have b0 : Bk W0 w.heap.size 57 #[.int .i64 x.ask.op, .int .i64 x.ask.var, .int .i64 x.ask.k, .int .i64 x.yes, .int .i64 x.no, .int .i64 x.ans, .slice A x.stone.length c] := by rw [hW0]; exact ((Bk.new rfl).alloc _).alloc _
  have hB : Below w.heap.size w W0 := by rw [hW0]; go_grown
  have hz : w.heap.size + 3 ≤ W0.heap.size := by rw [hW0]; simp only [World.size_alloc]; omega
  clear hW0
  refine (laws_toExpAsk x.ask _).mono ?_
  rintro e w0 ⟨rfl, hb⟩
  have HBw := Lib.hid (hB.trans (hb.mono (by omega)))
  have hzw : w.heap.size + 3 ≤ w0.heap.size := by have := hb.size; omega
  have b0 := b0.later hb
  have b1 := b1.later hb
  have b2 := b2.later hb
  have k0 := fun i => b0.cell i
  have k1 := fun i => b1.cell i
  have k2 := fun i => b2.cell i
  have f1 := fun i => b1.frozen i
  have f2 := fun i => b2.frozen i
  have B0 := Lib.hid b0
  have B1 := Lib.hid b1
  have B2 := Lib.hid b2
  clear hb hB hz b0 b1 b2
  go_wp2_with fail
  refine callsAt fun W1 hW1 => ?_
  have b0 : Bk W1 w.heap.size 57 #[.int .i64 x.ask.op, .int .i64 x.ask.var, .int .i64 x.ask.k, .int .i64 x.yes, .int .i64 x.no, .int .i64 x.ans, .slice A x.stone.length c] := by rw [hW1]; exact ((((((B0.out.far (show w.heap.size ≠ w.heap.size + 1 + 1 by omega) _).far (show w.heap.size ≠ w.heap.size + 1 + 1 by omega) _).far (show w.heap.size ≠ w.heap.size + 1 + 1 by omega) _).far (show w.heap.size ≠ w.heap.size + 1 + 1 by omega) _).far (show w.heap.size ≠ w.heap.size + 1 + 1 by omega) _).far (show w.heap.size ≠ w.heap.size + 1 + 1 by omega) _)
  have b1 : Bk W1 (w.heap.size + 1) 65 #[.int .i64 0, .int .i64 0, .int .i64 0, .int .i64 0, .int .i64 0, .int .i64 0, .slice none 0 0] := by rw [hW1]; exact ((((((B1.out.far (show w.heap.size + 1 ≠ w.heap.size + 1 + 1 by omega) _).far (show w.heap.size + 1 ≠ w.heap.size + 1 + 1 by omega) _).far (show w.heap.size + 1 ≠ w.heap.size + 1 + 1 by omega) _).far (show w.heap.size + 1 ≠ w.heap.size + 1 + 1 by omega) _).far (show w.heap.size + 1 ≠ w.heap.size + 1 + 1 by omega) _).far (show w.heap.size + 1 ≠ w.heap.size + 1 + 1 by omega) _)
  have b2 : Bk W1 (w.heap.size + 1 + 1) 65 #[.int .i64 x.ask.op, .int .i64 x.ask.var, .int .i64 x.ask.k, .int .i64 x.yes, .int .i64 x.no, .int .i64 x.ans, .slice none 0 0] := by rw [hW1]; exact ((((((B2.out.set 0 _).set 1 _).set 2 _).set 3 _).set 4 _).set 5 _)
  have hB : Below w.heap.size w W1 := by rw [hW1]; exact ((((((HBw.out.setCell (show w.heap.size ≤ w.heap.size + 1 + 1 by omega) _).setCell (show w.heap.size ≤ w.heap.size + 1 + 1 by omega) _).setCell (show w.heap.size ≤ w.heap.size + 1 + 1 by omega) _).setCell (show w.heap.size ≤ w.heap.size + 1 + 1 by omega) _).setCell (show w.heap.size ≤ w.heap.size + 1 + 1 by omega) _).setCell (show w.heap.size ≤ w.heap.size + 1 + 1 by omega) _)
  have hz : w.heap.size + 3 ≤ W1.heap.size := by rw [hW1]; simp only [World.size_setCell]; omega
  clear hW1 HBw hzw B0 B1 B2 k0 k1 k2 f1 f2
  refine (laws_toIntS _ _ x.stone _ w.heap.size (by omega) (H.out.below hB) l).mono ?_
  rintro e w1 ⟨rfl, hw, hb⟩
  have R1 := Lib.hid (hw.rows (lo := w.heap.size + 3) (by omega) hz hw.lt)
  have HBw := Lib.hid (hB.trans (hb.mono (by omega)))
  have hzw : w.heap.size + 3 ≤ w1.heap.size := by have := hb.size; omega
  have b0 := b0.later hb
  have b1 := b1.later hb
  have b2 := b2.later hb
  have k0 := fun i => b0.cell i
  have k1 := fun i => b1.cell i
  have k2 := fun i => b2.cell i
  have f1 := fun i => b1.frozen i
  have f2 := fun i => b2.frozen i
  have B0 := Lib.hid b0
  have B1 := Lib.hid b1
  have B2 := Lib.hid b2
  clear hw hb hB hz b0 b1 b2
  go_wp2
  refine bodyPost_ret (v := .agg #[.int .i64 x.ask.op, .int .i64 x.ask.var, .int .i64 x.ask.k, .int .i64 x.yes, .int .i64 x.no, .int .i64 x.ans, .slice (some ⟨W1.heap.size, 0, none⟩) x.stone.length x.stone.length]) (by simp [results, Try.results35, go_sem, k1]) rfl ?_
  refine madeAt fun W hW => ?_
  have hag : Agree (some (w.heap.size + 3)) w1.heap.size w1 W := by rw [hW]; exact (((((((((Agree.refl _ _ _).set (p := ⟨w.heap.size + 1 + 1, 6, none⟩) (show w.heap.size + 1 + 1 < w.heap.size + 3 by omega) _).set (p := ⟨w.heap.size + 1, 0, none⟩) (show w.heap.size + 1 < w.heap.size + 3 by omega) _).set (p := ⟨w.heap.size + 1, 1, none⟩) (show w.heap.size + 1 < w.heap.size + 3 by omega) _).set (p := ⟨w.heap.size + 1, 2, none⟩) (show w.heap.size + 1 < w.heap.size + 3 by omega) _).set (p := ⟨w.heap.size + 1, 3, none⟩) (show w.heap.size + 1 < w.heap.size + 3 by omega) _).set (p := ⟨w.heap.size + 1, 4, none⟩) (show w.heap.size + 1 < w.heap.size + 3 by omega) _).set (p := ⟨w.heap.size + 1, 5, none⟩) (show w.heap.size + 1 < w.heap.size + 3 by omega) _).set (p := ⟨w.heap.size + 1, 6, none⟩) (show w.heap.size + 1 < w.heap.size + 3 by omega) _)
  have hsz : w1.heap.size = W.heap.size := by rw [hW]; simp only [World.size_setCell]
  have hBf : Below w.heap.size w W := by rw [hW]; exact ((((((((HBw.out.setCell (p := ⟨w.heap.size + 1 + 1, 6, none⟩) (show w.heap.size ≤ w.heap.size + 1 + 1 by omega) _).setCell (p := ⟨w.heap.size + 1, 0, none⟩) (show w.heap.size ≤ w.heap.size + 1 by omega) _).setCell (p := ⟨w.heap.size + 1, 1, none⟩) (show w.heap.size ≤ w.heap.size + 1 by omega) _).setCell (p := ⟨w.heap.size + 1, 2, none⟩) (show w.heap.size ≤ w.heap.size + 1 by omega) _).setCell (p := ⟨w.heap.size + 1, 3, none⟩) (show w.heap.size ≤ w.heap.size + 1 by omega) _).setCell (p := ⟨w.heap.size + 1, 4, none⟩) (show w.heap.size ≤ w.heap.size + 1 by omega) _).setCell (p := ⟨w.heap.size + 1, 5, none⟩) (show w.heap.size ≤ w.heap.size + 1 by omega) _).setCell (p := ⟨w.heap.size + 1, 6, none⟩) (show w.heap.size ≤ w.heap.size + 1 by omega) _)
  clear hW
  exact ⟨_, rfl, ⟨_, _, rfl, ((R1.out.keep hag).more (Nat.le_of_eq hsz)).weak (Weaker.some (by omega))⟩, hBf⟩

set_option maxHeartbeats 1000000 in
theorem laws_eqRdrNode (x : GRule) (A A' : Option Addr) (c c' : Nat) (m m' : Option Nat) (w : World) (h : Rows intC m w w.heap.size A x.stone) (h' : Rows intC m' w w.heap.size A' x.stone) :
    Calls Try.prog 43 #[.agg #[.int .i64 x.ask.op, .int .i64 x.ask.var, .int .i64 x.ask.k, .int .i64 x.yes, .int .i64 x.no, .int .i64 x.ans, .slice A x.stone.length c], .agg #[.int .i64 x.ask.op, .int .i64 x.ask.var, .int .i64 x.ask.k, .int .i64 x.yes, .int .i64 x.no, .int .i64 x.ans, .slice A' x.stone.length c']] w fun e w' => e = .returned (.bool true) ∧ Below w.heap.size w w' := by
  have H := Lib.hid h
  have H' := Lib.hid h'
  clear h h'
  go_enter Try.func43, Try.ntmps43
  go_wp2_with fail
  refine callsAt fun W0 hW0 => ?_
  have b0 : Bk W0 w.heap.size 65 #[.int .i64 x.ask.op, .int .i64 x.ask.var, .int .i64 x.ask.k, .int .i64 x.yes, .int .i64 x.no, .int .i64 x.ans, .slice A x.stone.length c] := by rw [hW0]; exact (Bk.new rfl).alloc _
  have b1 : Bk W0 (w.heap.size + 1) 65 #[.int .i64 x.ask.op, .int .i64 x.ask.var, .int .i64 x.ask.k, .int .i64 x.yes, .int .i64 x.no, .int .i64 x.ans, .slice A' x.stone.length c'] := by rw [hW0]; exact Bk.new (by simp)
  have hB : Below w.heap.size w W0 := by rw [hW0]; go_grown
  clear hW0
  refine (laws_eqExpAsk x.ask _).mono ?_
  rintro e w0 ⟨rfl, hb⟩
  have HBw := Lib.hid (hB.trans (hb.mono hB.size))
  have b0 := b0.later hb
  have b1 := b1.later hb
  have k0 := fun i => b0.cell i
  have k1 := fun i => b1.cell i
  clear hb hB b0 b1
  go_wp2_with fail
  refine (laws_eqIntS _ _ _ _ x.stone x.stone _ w.heap.size (H.out.below HBw.out).ints (H'.out.below HBw.out).ints).mono ?_
  rintro e w1 ⟨rfl, n1, hn⟩
  have hb : Below w.heap.size w w1 := by rw [hn]; exact bdN HBw.out _
  have HB := Lib.hid hb
  clear hn hb
  go_wp2
  go_returns
  exact ⟨rfl, HB.out⟩

theorem info_Rule : (Try.prog.info? 65).map (fun i => (i.zero, i.size, i.bytes)) = some (some (.agg #[.int .i64 0, .int .i64 0, .int .i64 0, .int .i64 0, .int .i64 0, .int .i64 0, .slice none 0 0]), 7, 72) := by kernel_rfl

/-- What copying rules leaves: a row of them in block g, each of them with its data behind it. -/
def MadeT (xs : List GRule) (w : World) (e : Ending) (w' : World) : Prop :=
  ∃ g, w.heap.size ≤ g ∧ e = .returned (.slice (some ⟨g, 0, none⟩) xs.length xs.length) ∧ Filled ruleC w' g 65 [.int .i64 0, .int .i64 0, .int .i64 0, .int .i64 0, .int .i64 0, .int .i64 0, .slice none 0 0] xs xs.length ∧ Below w.heap.size w w'

set_option maxHeartbeats 1000000 in
theorem laws_toRdrNodeS (A : Option Addr) (c : Nat) (xs : List GRule) (m : Option Nat) (w : World) (hx : Rows ruleC m w w.heap.size A xs) (hl : xs.length ≤ 1048576) (hs : ∀ x ∈ xs, x.stone.length ≤ 1048576) :
    Calls Try.prog 8 #[.slice A xs.length c] w (MadeT xs w) := by
  have hmk := run_make_rowN 27 65 _ _ _ Try.underlying27 info_Rule xs.length (by omega) (by omega)
  have HX := Lib.hid hx
  have HS := Lib.hid hs
  clear hx hs
  go_enter Try.func8, Try.ntmps8
  go_wp2
  clear hmk
  go_loopw [4] (fun s4 wr => ∃ k : Nat, k ≤ xs.length ∧ s4 = .int .i64 k ∧ Aside (Below w.heap.size w wr) ∧ Aside (Filled ruleC wr w.heap.size 65 [.int .i64 0, .int .i64 0, .int .i64 0, .int .i64 0, .int .i64 0, .int .i64 0, .slice none 0 0] xs k)) (fun s4 _ => xs.length - (intOf s4).toNat)
  case atStart =>
    refine ⟨0, Nat.zero_le _, rfl, (Below.refl _ w).alloc (Nat.le_refl _) _, ?_⟩
    have h := Wr.new w 65 (madeCells (Value.agg #[.int .i64 0, .int .i64 0, .int .i64 0, .int .i64 0, .int .i64 0, .int .i64 0, .slice none 0 0]).cells (xs.length * 7))
    rw [toList_madeCells _ 7 _ rfl (by omega)] at h
    exact Filled.start h
  case round =>
    obtain ⟨k, hk, rfl, BW, WW⟩ := hrel
    by_cases hlt : k < xs.length
    · have hltz : (k : Int) < (xs.length : Int) := by omega
      obtain ⟨b, off, A1, c1, rfl, hb, hr, hc0, hc1, hc2, hc3, hc4, hc5, hc6⟩ := rule_at HX.out hlt
      have hd0 := (BW.out.cell (p := ⟨b, off + k * 7, none⟩) (by show b < w.heap.size; omega)).trans hc0
      have hd1 := (BW.out.cell (p := ⟨b, off + k * 7 + 1, none⟩) (by show b < w.heap.size; omega)).trans hc1
      have hd2 := (BW.out.cell (p := ⟨b, off + k * 7 + 2, none⟩) (by show b < w.heap.size; omega)).trans hc2
      have hd3 := (BW.out.cell (p := ⟨b, off + k * 7 + 3, none⟩) (by show b < w.heap.size; omega)).trans hc3
      have hd4 := (BW.out.cell (p := ⟨b, off + k * 7 + 4, none⟩) (by show b < w.heap.size; omega)).trans hc4
      have hd5 := (BW.out.cell (p := ⟨b, off + k * 7 + 5, none⟩) (by show b < w.heap.size; omega)).trans hc5
      have hd6 := (BW.out.cell (p := ⟨b, off + k * 7 + 6, none⟩) (by show b < w.heap.size; omega)).trans hc6
      have HR := Lib.hid (hr.below BW.out)
      clear hc0 hc1 hc2 hc3 hc4 hc5 hc6 hr
      have hpr := fun w1 (hb1 : Below wr.heap.size wr w1) cs hR => (WW.out.later hb1).put hlt rfl (cs := cs) hR
      have HP := Lib.hid hpr
      have hgl := WW.out.lt
      have HWH := Lib.hid WW.out
      clear WW hpr
      have hsl := HS.out xs[k] (List.getElem_mem hlt)
      generalize xs[k] = y at hd0 hd1 hd2 hd3 hd4 hd5 hd6 HP HR hsl
      go_wp2_with fail
      refine (laws_toRdrNode y A1 c1 m _ (HR.out.more (by have := BW.out.size; omega)) hsl).mono ?_
      rintro e w1 ⟨cs, rfl, hR, hb1⟩
      have HP1 := Lib.hid (HP.out w1 hb1 cs (ruleC.weak hR (Weaker.some (by omega))))
      obtain ⟨A2, c2, rfl, hrow⟩ := hR
      have HF := Lib.hid (HWH.out.later hb1)
      have HB1 := Lib.hid hb1
      clear hb1 hrow
      have hth : ∀ j, j < ([.int .i64 y.ask.op, .int .i64 y.ask.var, .int .i64 y.ask.k, .int .i64 y.yes, .int .i64 y.no, .int .i64 y.ans, .slice A2 y.stone.length c2] : List Value).length → (w1.cell? ⟨w.heap.size, k * 7 + j, none⟩).isSome = true := fun j hj => HF.out.there hlt (k * 7) 7 rfl (by decide) j (by simpa using hj)
      have hst : ∀ v ∈ ([.int .i64 y.ask.op, .int .i64 y.ask.var, .int .i64 y.ask.k, .int .i64 y.yes, .int .i64 y.no, .int .i64 y.ans, .slice A2 y.stone.length c2] : List Value), v.oneCell' = true := by simp [Value.oneCell']
      have hTH := Lib.hid hth
      have hST := Lib.hid hst
      clear hth hst
      go_wp2_with (refine wpList_store_agg rfl 65 (.tmp 21) (.tmp 20) rfl w.heap.size (k * 7) [.int .i64 y.ask.op, .int .i64 y.ask.var, .int .i64 y.ask.k, .int .i64 y.yes, .int .i64 y.no, .int .i64 y.ans, .slice A2 y.stone.length c2] ?_ ?_ ?_ ?_ ?_ ?_ ?_; rfl; rfl; kernel_rfl; exact hTH.out; exact fun j => HF.out.frozen j; exact hST.out)
      go_roundw
      case rel => exact ⟨k + 1, by omega, by go_num, bPut (g := w.heap.size) [.int .i64 y.ask.op, .int .i64 y.ask.var, .int .i64 y.ask.k, .int .i64 y.yes, .int .i64 y.no, .int .i64 y.ans, .slice A2 y.stone.length c2] (k * 7) (BW.out.trans (HB1.out.mono (by omega))) (Nat.le_refl _), HP1.out⟩
      case measure => simp [intOf]; omega
    · have hltz : ¬ (k : Int) < (xs.length : Int) := by omega
      have he : k = xs.length := by omega
      have HE := Lib.hid he
      clear he
      go_wp2
      go_ret
      have h1 := WW.out
      rw [HE.out] at h1
      exact ⟨_, Nat.le_refl _, rfl, h1, BW.out⟩

set_option maxHeartbeats 1000000 in
set_option maxRecDepth 100000 in
theorem laws_eqRdrNodeS (A A' : Option Addr) (c c' : Nat) (xs : List GRule) (m m' : Option Nat) (w : World) (hx : Rows ruleC m w w.heap.size A xs) (hy : Rows ruleC m' w w.heap.size A' xs) :
    Calls Try.prog 12 #[.slice A xs.length c, .slice A' xs.length c'] w fun e w' => e = .returned (.bool true) ∧ Below w.heap.size w w' := by
  have hlx := hx.1
  have HX := Lib.hid hx
  have HY := Lib.hid hy
  clear hx hy
  go_enter Try.func12, Try.ntmps12
  go_wp2
  go_loopg [5] xs.length (fun gg s5 wr => ∃ k : Nat, k ≤ xs.length ∧ xs.length - k ≤ gg ∧ s5 = .int .i64 k ∧ Aside (Below w.heap.size w wr))
  case atStart => exact ⟨0, Nat.zero_le _, by omega, rfl, Below.refl _ _⟩
  case round =>
    obtain ⟨k, hk, hg, rfl, BW⟩ := hrel
    by_cases hlt : k < xs.length
    · have hltz : (k : Int) < (xs.length : Int) := by omega
      have h0 : (0 : Int) ≤ (k : Int) := by omega
      obtain ⟨b, off, A1, c1, rfl, hb, hr, hc0, hc1, hc2, hc3, hc4, hc5, hc6⟩ := rule_at HX.out hlt
      obtain ⟨b', off', A1', c1', rfl, hb', hr', hc0', hc1', hc2', hc3', hc4', hc5', hc6'⟩ := rule_at HY.out hlt
      have hd0 := (BW.out.cell (p := ⟨b, off + k * 7, none⟩) (by show b < w.heap.size; omega)).trans hc0
      have hd1 := (BW.out.cell (p := ⟨b, off + k * 7 + 1, none⟩) (by show b < w.heap.size; omega)).trans hc1
      have hd2 := (BW.out.cell (p := ⟨b, off + k * 7 + 2, none⟩) (by show b < w.heap.size; omega)).trans hc2
      have hd3 := (BW.out.cell (p := ⟨b, off + k * 7 + 3, none⟩) (by show b < w.heap.size; omega)).trans hc3
      have hd4 := (BW.out.cell (p := ⟨b, off + k * 7 + 4, none⟩) (by show b < w.heap.size; omega)).trans hc4
      have hd5 := (BW.out.cell (p := ⟨b, off + k * 7 + 5, none⟩) (by show b < w.heap.size; omega)).trans hc5
      have hd6 := (BW.out.cell (p := ⟨b, off + k * 7 + 6, none⟩) (by show b < w.heap.size; omega)).trans hc6
      have hd0' := (BW.out.cell (p := ⟨b', off' + k * 7, none⟩) (by show b' < w.heap.size; omega)).trans hc0'
      have hd1' := (BW.out.cell (p := ⟨b', off' + k * 7 + 1, none⟩) (by show b' < w.heap.size; omega)).trans hc1'
      have hd2' := (BW.out.cell (p := ⟨b', off' + k * 7 + 2, none⟩) (by show b' < w.heap.size; omega)).trans hc2'
      have hd3' := (BW.out.cell (p := ⟨b', off' + k * 7 + 3, none⟩) (by show b' < w.heap.size; omega)).trans hc3'
      have hd4' := (BW.out.cell (p := ⟨b', off' + k * 7 + 4, none⟩) (by show b' < w.heap.size; omega)).trans hc4'
      have hd5' := (BW.out.cell (p := ⟨b', off' + k * 7 + 5, none⟩) (by show b' < w.heap.size; omega)).trans hc5'
      have hd6' := (BW.out.cell (p := ⟨b', off' + k * 7 + 6, none⟩) (by show b' < w.heap.size; omega)).trans hc6'
      have HR := Lib.hid ((hr.below BW.out).more BW.out.size)
      have HR' := Lib.hid ((hr'.below BW.out).more BW.out.size)
      clear hc0 hc1 hc2 hc3 hc4 hc5 hc6 hc0' hc1' hc2' hc3' hc4' hc5' hc6' hr hr'
      generalize xs[k] = y at hd0 hd1 hd2 hd3 hd4 hd5 hd6 hd0' hd1' hd2' hd3' hd4' hd5' hd6' HR HR'
      go_wp2
      go_still_tail 8, (by kernel_rfl)
      change wpList _ _ _ _ _ wr.drew
      have HBW : Below w.heap.size w wr.drew := BW.out.drew
      have HB := Lib.hid HBW
      have HRd : Rows intC m wr.drew wr.drew.heap.size A1 y.stone := HR.out
      have HRd' : Rows intC m' wr.drew wr.drew.heap.size A1' y.stone := HR'.out
      have HQ := Lib.hid HRd
      have HQ' := Lib.hid HRd'
      clear HBW HRd HRd' HR HR'
      generalize wr.drew = w2 at HB HQ HQ' ⊢
      go_wp2_with (go_at_call 43; refine (laws_eqRdrNode y _ _ _ _ m m' _ HQ.out HQ'.out).mono ?_; rintro e w1 ⟨rfl, hb1⟩; have HB1 := Lib.hid hb1; clear hb1)
      go_roundg (xs.length - (k + 1))
      case measure => omega
      case rel => exact ⟨k + 1, by omega, by omega, by go_num, HB.out.trans (HB1.out.mono HB.out.size)⟩
    · have hltz : ¬ (k : Int) < (xs.length : Int) := by omega
      go_wp2
      go_ret
      exact ⟨rfl, BW.out⟩

/-- What measuring leaves. -/
def Sized (xs : List GRule) (w : World) (e : Ending) (w' : World) : Prop :=
  ∃ v : Int, e = .returned (.int .i64 v) ∧ -1 ≤ v ∧ v ≤ 1048576 ∧ (0 ≤ v → xs.length ≤ 1048576 ∧ ∀ x ∈ xs, x.stone.length ≤ 1048576) ∧ Below w.heap.size w w'
end Go.Proofs.Ytjieilicjdoaaaa
