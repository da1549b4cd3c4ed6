/- Slices of NetFlow records copied and compared: what the copies read as, and that equal slices are found equal. -/
import Derived.Test.YtkkjljpokannkaaCopyAsk
import Derived.Test.YtkkjljpokannkaaNet
namespace Go.Proofs.Ytkkjljpokannkaa
open Go.RowKit

theorem info_Flow : (Try.prog.info? 142).map (fun i => (i.zero, i.size, i.bytes)) = some (some (.agg #[.int .i64 0, .int .i64 0, .int .i64 0, .int .i64 0]), 4, 32) := by kernel_rfl

set_option maxHeartbeats 1000000 in
theorem laws_toNetFlow (x : GFlow) (w : World) : Calls Try.prog 192 #[.agg #[.int .i64 x.to, .int .i64 x.ask.op, .int .i64 x.ask.var, .int .i64 x.ask.k]] w fun e w' => e = .returned (.agg #[.int .i64 x.to, .int .i64 x.ask.op, .int .i64 x.ask.var, .int .i64 x.ask.k]) ∧ Below w.heap.size w w' := by
  go_enter Try.func192, Try.ntmps192
  go_wp2_with fail
  refine callsAt fun W0 hW0 => ?_
  have b0 : Bk W0 w.heap.size 199 #[.int .i64 x.to, .int .i64 x.ask.op, .int .i64 x.ask.var, .int .i64 x.ask.k] := by rw [hW0]; exact ((Bk.new rfl).alloc _).alloc _
  have b1 : Bk W0 (w.heap.size + 1) 142 #[.int .i64 0, .int .i64 0, .int .i64 0, .int .i64 0] := by rw [hW0]; exact (Bk.new (by simp)).alloc _
  have b2 : Bk W0 (w.heap.size + 1 + 1) 142 #[.int .i64 x.to, .int .i64 0, .int .i64 0, .int .i64 0] := by rw [hW0]; exact Bk.new (by simp)
  have hB : Below w.heap.size w W0 := by rw [hW0]; go_grown
  have hz : w.heap.size + 3 ≤ W0.heap.size := by rw [hW0]; simp only [World.size_alloc]; omega
  clear hW0
  refine (laws_toExpAsk x.ask _).mono ?_
  rintro e w0 ⟨rfl, hb⟩
  have HBw := Lib.hid (hB.trans (hb.mono (by omega)))
  have b0 := b0.later hb
  have b1 := b1.later hb
  have b2 := b2.later hb
  have k0 := fun i => b0.cell i
  have k1 := fun i => b1.cell i
  have k2 := fun i => b2.cell i
  have f1 := fun i => b1.frozen i
  have f2 := fun i => b2.frozen i
  clear hb hB hz b0 b1 b2
  go_wp2
  refine bodyPost_ret (v := .agg #[.int .i64 x.to, .int .i64 x.ask.op, .int .i64 x.ask.var, .int .i64 x.ask.k]) (by simp [results, Try.results192, go_sem, k1]) rfl ?_
  refine ⟨rfl, ?_⟩
  exact (((((((HBw.out.setCell (p := ⟨w.heap.size + 1 + 1, 1, none⟩) (show w.heap.size ≤ w.heap.size + 1 + 1 by omega) _).setCell (p := ⟨w.heap.size + 1 + 1, 2, none⟩) (show w.heap.size ≤ w.heap.size + 1 + 1 by omega) _).setCell (p := ⟨w.heap.size + 1 + 1, 3, none⟩) (show w.heap.size ≤ w.heap.size + 1 + 1 by omega) _).setCell (p := ⟨w.heap.size + 1, 0, none⟩) (show w.heap.size ≤ w.heap.size + 1 by omega) _).setCell (p := ⟨w.heap.size + 1, 1, none⟩) (show w.heap.size ≤ w.heap.size + 1 by omega) _).setCell (p := ⟨w.heap.size + 1, 2, none⟩) (show w.heap.size ≤ w.heap.size + 1 by omega) _).setCell (p := ⟨w.heap.size + 1, 3, none⟩) (show w.heap.size ≤ w.heap.size + 1 by omega) _)

set_option maxHeartbeats 400000 in
theorem laws_toNetFlowS (A : Option Addr) (c : Nat) (xs : List GFlow) (m : Option Nat) (w : World) (B : Nat) (hB : B ≤ w.heap.size) (hx : Rows flowC m w B A xs) (hl : xs.length ≤ 1048576) :
    Calls Try.prog 112 #[.slice A xs.length c] w (Made flowC xs w) := by
  have hmk := run_make_rowN 40 142 _ _ _ Try.underlying40 info_Flow xs.length (by omega) (by omega)
  have HX := Lib.hid hx
  clear hx
  go_enter Try.func112, Try.ntmps112
  go_wp2
  clear hmk
  go_loopw [4] (fun s4 wr => ∃ k : Nat, k ≤ xs.length ∧ s4 = .int .i64 k ∧ Aside (Below w.heap.size w wr) ∧ Aside (Filled flowC wr w.heap.size 142 [.int .i64 0, .int .i64 0, .int .i64 0, .int .i64 0] xs k)) (fun s4 _ => xs.length - (intOf s4).toNat)
  case atStart =>
    refine ⟨0, Nat.zero_le _, rfl, (Below.refl _ w).alloc (Nat.le_refl _) _, ?_⟩
    have h := Wr.new w 142 (madeCells (Value.agg #[.int .i64 0, .int .i64 0, .int .i64 0, .int .i64 0]).cells (xs.length * 4))
    rw [toList_madeCells _ 4 _ rfl (by omega)] at h
    exact Filled.start h
  case round =>
    obtain ⟨k, hk, rfl, BW, WW⟩ := hrel
    by_cases hlt : k < xs.length
    · have hltz : (k : Int) < (xs.length : Int) := by omega
      obtain ⟨b, off, rfl, hb, hc0, hc1, hc2, hc3⟩ := flow_at HX.out hlt
      have hd0 := (BW.out.cell (p := ⟨b, off + k * 4, none⟩) (by show b < w.heap.size; omega)).trans hc0
      have hd1 := (BW.out.cell (p := ⟨b, off + k * 4 + 1, none⟩) (by show b < w.heap.size; omega)).trans hc1
      have hd2 := (BW.out.cell (p := ⟨b, off + k * 4 + 2, none⟩) (by show b < w.heap.size; omega)).trans hc2
      have hd3 := (BW.out.cell (p := ⟨b, off + k * 4 + 3, none⟩) (by show b < w.heap.size; omega)).trans hc3
      clear hc0 hc1 hc2 hc3
      have hpr := fun w1 (hb1 : Below wr.heap.size wr w1) => (WW.out.later hb1).put hlt rfl (cs := [.int .i64 xs[k].to, .int .i64 xs[k].ask.op, .int .i64 xs[k].ask.var, .int .i64 xs[k].ask.k]) rfl
      have HP := Lib.hid hpr
      have HW := WW.out
      have hgl := HW.lt
      clear WW hpr
      have HWH := Lib.hid HW
      clear HW
      generalize xs[k] = y at hd0 hd1 hd2 hd3 HP
      have HST : Hid (∀ v ∈ ([.int .i64 y.to, .int .i64 y.ask.op, .int .i64 y.ask.var, .int .i64 y.ask.k] : List Value), v.oneCell' = true) := by show ∀ v ∈ _, _; simp [Value.oneCell']
      go_wp2_with (first | (go_at_call 192; refine (laws_toNetFlow y _).mono ?_; rintro e w1 ⟨rfl, hb1⟩; have HF := Lib.hid (HWH.out.later hb1); have HB1 := Lib.hid hb1; clear hb1) | (refine wpList_store_agg rfl 142 (.tmp 21) (.tmp 20) rfl w.heap.size (k * 4) [.int .i64 y.to, .int .i64 y.ask.op, .int .i64 y.ask.var, .int .i64 y.ask.k] ?_ ?_ ?_ ?_ ?_ ?_ ?_; rfl; rfl; kernel_rfl; exact fun j hj => HF.out.there hlt (k * 4) 4 rfl (by decide) j (by simpa using hj); exact fun j => HF.out.frozen j; exact HST.out))
      go_roundw
      case rel => exact ⟨k + 1, by omega, by go_num, bPut (g := w.heap.size) [.int .i64 y.to, .int .i64 y.ask.op, .int .i64 y.ask.var, .int .i64 y.ask.k] (k * 4) (BW.out.trans (HB1.out.mono (by omega))) (Nat.le_refl _), HP.out _ HB1.out⟩
      case measure => simp [intOf]; omega
    · have hltz : ¬ (k : Int) < (xs.length : Int) := by omega
      have he : k = xs.length := by omega
      have HE := Lib.hid he
      clear he
      go_wp2
      go_ret
      have h1 := WW.out
      rw [HE.out] at h1
      exact ⟨_, Nat.le_refl _, rfl, h1.done HX.out.1, BW.out⟩

set_option maxHeartbeats 1000000 in
theorem laws_eqNetFlow (x : GFlow) (w : World) : Calls Try.prog 193 #[.agg #[.int .i64 x.to, .int .i64 x.ask.op, .int .i64 x.ask.var, .int .i64 x.ask.k], .agg #[.int .i64 x.to, .int .i64 x.ask.op, .int .i64 x.ask.var, .int .i64 x.ask.k]] w fun e w' => e = .returned (.bool true) ∧ Below w.heap.size w w' := by
  go_enter Try.func193, Try.ntmps193
  go_wp2_with fail
  refine callsAt fun W0 hW0 => ?_
  have hB : Below w.heap.size w W0 := by rw [hW0]; go_grown
  clear hW0
  refine (laws_eqExpAsk x.ask _).mono ?_
  rintro e w0 ⟨rfl, hb⟩
  have HB := Lib.hid (hB.trans (hb.mono hB.size))
  clear hb hB
  go_wp2
  go_returns
  exact ⟨rfl, HB.out⟩

set_option maxHeartbeats 400000 in
set_option maxRecDepth 100000 in
theorem laws_eqNetFlowS (A A' : Option Addr) (c c' : Nat) (xs : List GFlow) (m m' : Option Nat) (w : World) (hx : Rows flowC m w w.heap.size A xs) (hy : Rows flowC m' w w.heap.size A' xs) :
    Calls Try.prog 113 #[.slice A xs.length c, .slice A' xs.length c'] w fun e w' => e = .returned (.bool true) ∧ Below w.heap.size w w' := by
  have hlx := hx.1
  have HX := Lib.hid hx
  have HY := Lib.hid hy
  clear hx hy
  go_enter Try.func113, Try.ntmps113
  go_wp2
  go_loopg [5] xs.length (fun gg s5 wr => ∃ k : Nat, k ≤ xs.length ∧ xs.length - k ≤ gg ∧ s5 = .int .i64 k ∧ Aside (Below w.heap.size w wr))
  case atStart => exact ⟨0, Nat.zero_le _, by omega, rfl, Below.refl _ _⟩
  case round =>
    obtain ⟨k, hk, hg, rfl, BW⟩ := hrel
    by_cases hlt : k < xs.length
    · have hltz : (k : Int) < (xs.length : Int) := by omega
      have h0 : (0 : Int) ≤ (k : Int) := by omega
      obtain ⟨b, off, rfl, hb, hc0, hc1, hc2, hc3⟩ := flow_at HX.out hlt
      obtain ⟨b', off', rfl, hb', hc0', hc1', hc2', hc3'⟩ := flow_at HY.out hlt
      have hd0 := (BW.out.cell (p := ⟨b, off + k * 4, none⟩) (by show b < w.heap.size; omega)).trans hc0
      have hd0' := (BW.out.cell (p := ⟨b', off' + k * 4, none⟩) (by show b' < w.heap.size; omega)).trans hc0'
      have hd1 := (BW.out.cell (p := ⟨b, off + k * 4 + 1, none⟩) (by show b < w.heap.size; omega)).trans hc1
      have hd1' := (BW.out.cell (p := ⟨b', off' + k * 4 + 1, none⟩) (by show b' < w.heap.size; omega)).trans hc1'
      have hd2 := (BW.out.cell (p := ⟨b, off + k * 4 + 2, none⟩) (by show b < w.heap.size; omega)).trans hc2
      have hd2' := (BW.out.cell (p := ⟨b', off' + k * 4 + 2, none⟩) (by show b' < w.heap.size; omega)).trans hc2'
      have hd3 := (BW.out.cell (p := ⟨b, off + k * 4 + 3, none⟩) (by show b < w.heap.size; omega)).trans hc3
      have hd3' := (BW.out.cell (p := ⟨b', off' + k * 4 + 3, none⟩) (by show b' < w.heap.size; omega)).trans hc3'
      clear hc0 hc0' hc1 hc1' hc2 hc2' hc3 hc3'
      generalize xs[k] = y at hd0 hd0' hd1 hd1' hd2 hd2' hd3 hd3'
      go_wp2
      go_still_tail 8, (by kernel_rfl)
      change wpList _ _ _ _ _ wr.drew
      have HBW : Below w.heap.size w wr.drew := BW.out.drew
      have HB := Lib.hid HBW
      clear HBW
      generalize wr.drew = w2 at HB ⊢
      go_wp2_with (go_at_call 193; refine (laws_eqNetFlow y _).mono ?_; rintro e w1 ⟨rfl, hb1⟩; have HB1 := Lib.hid hb1; clear hb1)
      go_roundg (xs.length - (k + 1))
      case measure => omega
      case rel => exact ⟨k + 1, by omega, by omega, by go_num, HB.out.trans (HB1.out.mono HB.out.size)⟩
    · have hltz : ¬ (k : Int) < (xs.length : Int) := by omega
      go_wp2
      go_ret
      exact ⟨rfl, BW.out⟩

theorem laws_szNetFlowS (A : Option Addr) (c n : Nat) (left : Int) (h0 : -1 ≤ left) (h1 : left ≤ 1048576) (hn : n ≤ 9223372036854775807) (w : World) :
    Calls Try.prog 110 #[.slice A n c, .int .i64 left] w fun e w' => e = .returned (.int .i64 (szOf n left)) ∧ w = w' := by
  by_cases h : left - n < 0
  · have HF : Hid (szOf n left = -1) := if_pos h
    go_enter Try.func110, Try.ntmps110
    go_wp2
    go_ret
    exact ⟨by rw [HF.out]; rfl, rfl⟩
  · have HF : Hid (szOf n left = left - n) := if_neg h
    go_enter Try.func110, Try.ntmps110
    go_wp2
    go_ret
    exact ⟨by rw [HF.out]; rfl, rfl⟩
end Go.Proofs.Ytkkjljpokannkaa
