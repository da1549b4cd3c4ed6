/- Slices of CasItem records copied and compared: what the copies read as, and that equal slices are found equal. -/
import Derived.Test.YtkkjljpokannkaaCopy
namespace Go.Proofs.Ytkkjljpokannkaa
open Go.RowKit

theorem info_Item : (Try.prog.info? 32).map (fun i => (i.zero, i.size, i.bytes)) = some (some (.agg #[.int .i64 0, .int .i64 0, .int .i64 0]), 3, 24) := by kernel_rfl

theorem laws_toCasItem (x : GItem) (w : World) : Calls Try.prog 211 #[.agg #[.int .i64 x.task, .int .i64 x.who, .int .i64 x.did]] w fun e w' => e = .returned (.agg #[.int .i64 x.task, .int .i64 x.who, .int .i64 x.did]) ∧ Below w.heap.size w w' := by
  go_enter Try.func211, Try.ntmps211
  go_wp2
  go_returns
  exact ⟨rfl, by go_grown⟩

set_option maxHeartbeats 400000 in
theorem laws_toCasItemS (A : Option Addr) (c : Nat) (xs : List GItem) (m : Option Nat) (w : World) (B : Nat) (hB : B ≤ w.heap.size) (hx : Rows itemC m w B A xs) (hl : xs.length ≤ 1048576) :
    Calls Try.prog 167 #[.slice A xs.length c] w (Made itemC xs w) := by
  have hmk := run_make_rowN 24 32 _ _ _ Try.underlying24 info_Item xs.length (by omega) (by omega)
  have HX := Lib.hid hx
  clear hx
  go_enter Try.func167, Try.ntmps167
  go_wp2
  clear hmk
  go_loopw [4] (fun s4 wr => ∃ k : Nat, k ≤ xs.length ∧ s4 = .int .i64 k ∧ Aside (Below w.heap.size w wr) ∧ Aside (Filled itemC wr w.heap.size 32 [.int .i64 0, .int .i64 0, .int .i64 0] xs k)) (fun s4 _ => xs.length - (intOf s4).toNat)
  case atStart =>
    refine ⟨0, Nat.zero_le _, rfl, (Below.refl _ w).alloc (Nat.le_refl _) _, ?_⟩
    have h := Wr.new w 32 (madeCells (Value.agg #[.int .i64 0, .int .i64 0, .int .i64 0]).cells (xs.length * 3))
    rw [toList_madeCells _ 3 _ rfl (by omega)] at h
    exact Filled.start h
  case round =>
    obtain ⟨k, hk, rfl, BW, WW⟩ := hrel
    by_cases hlt : k < xs.length
    · have hltz : (k : Int) < (xs.length : Int) := by omega
      obtain ⟨b, off, rfl, hb, hc0, hc1, hc2⟩ := item_at HX.out hlt
      have hd0 := (BW.out.cell (p := ⟨b, off + k * 3, none⟩) (by show b < w.heap.size; omega)).trans hc0
      have hd1 := (BW.out.cell (p := ⟨b, off + k * 3 + 1, none⟩) (by show b < w.heap.size; omega)).trans hc1
      have hd2 := (BW.out.cell (p := ⟨b, off + k * 3 + 2, none⟩) (by show b < w.heap.size; omega)).trans hc2
      clear hc0 hc1 hc2
      have hpr := fun w1 (hb1 : Below wr.heap.size wr w1) => (WW.out.later hb1).put hlt rfl (cs := [.int .i64 xs[k].task, .int .i64 xs[k].who, .int .i64 xs[k].did]) rfl
      have HP := Lib.hid hpr
      have HW := WW.out
      have hgl := HW.lt
      clear WW hpr
      have HWH := Lib.hid HW
      clear HW
      generalize xs[k] = y at hd0 hd1 hd2 HP
      go_wp2_with (first | (go_at_call 211; refine (laws_toCasItem y _).mono ?_; rintro e w1 ⟨rfl, hb1⟩; have HF := Lib.hid (HWH.out.later hb1); have HB1 := Lib.hid hb1; clear hb1) | (refine wpList_store_agg rfl 32 (.tmp 21) (.tmp 20) rfl w.heap.size (k * 3) [.int .i64 y.task, .int .i64 y.who, .int .i64 y.did] rfl rfl (by kernel_rfl) (HF.out.there hlt (k * 3) 3 rfl (by simp)) (fun j => HF.out.frozen j) (by simp [Value.oneCell']) ?_))
      go_roundw
      case rel => exact ⟨k + 1, by omega, by go_num, bPut (g := w.heap.size) [.int .i64 y.task, .int .i64 y.who, .int .i64 y.did] (k * 3) (BW.out.trans (HB1.out.mono (by omega))) (Nat.le_refl _), HP.out _ HB1.out⟩
      case measure => simp [intOf]; omega
    · have hltz : ¬ (k : Int) < (xs.length : Int) := by omega
      have he : k = xs.length := by omega
      have HE := Lib.hid he
      clear he
      go_wp2
      go_ret
      have h1 := WW.out
      rw [HE.out] at h1
      exact ⟨_, Nat.le_refl _, rfl, h1.done HX.out.1, BW.out⟩

theorem laws_eqCasItem (x : GItem) (w : World) : Calls Try.prog 204 #[.agg #[.int .i64 x.task, .int .i64 x.who, .int .i64 x.did], .agg #[.int .i64 x.task, .int .i64 x.who, .int .i64 x.did]] w fun e w' => e = .returned (.bool true) ∧ Below w.heap.size w w' := by
  go_enter Try.func204, Try.ntmps204
  go_wp2
  go_returns
  exact ⟨rfl, by go_grown⟩

set_option maxHeartbeats 400000 in
set_option maxRecDepth 100000 in
theorem laws_eqCasItemS (A A' : Option Addr) (c c' : Nat) (xs : List GItem) (m m' : Option Nat) (w : World) (hx : Rows itemC m w w.heap.size A xs) (hy : Rows itemC m' w w.heap.size A' xs) :
    Calls Try.prog 147 #[.slice A xs.length c, .slice A' xs.length c'] w fun e w' => e = .returned (.bool true) ∧ Below w.heap.size w w' := by
  have hlx := hx.1
  have HX := Lib.hid hx
  have HY := Lib.hid hy
  clear hx hy
  go_enter Try.func147, Try.ntmps147
  go_wp2
  go_loopg [5] xs.length (fun gg s5 wr => ∃ k : Nat, k ≤ xs.length ∧ xs.length - k ≤ gg ∧ s5 = .int .i64 k ∧ Aside (Below w.heap.size w wr))
  case atStart => exact ⟨0, Nat.zero_le _, by omega, rfl, Below.refl _ _⟩
  case round =>
    obtain ⟨k, hk, hg, rfl, BW⟩ := hrel
    by_cases hlt : k < xs.length
    · have hltz : (k : Int) < (xs.length : Int) := by omega
      have h0 : (0 : Int) ≤ (k : Int) := by omega
      obtain ⟨b, off, rfl, hb, hc0, hc1, hc2⟩ := item_at HX.out hlt
      obtain ⟨b', off', rfl, hb', hc0', hc1', hc2'⟩ := item_at HY.out hlt
      have hd0 := (BW.out.cell (p := ⟨b, off + k * 3, none⟩) (by show b < w.heap.size; omega)).trans hc0
      have hd0' := (BW.out.cell (p := ⟨b', off' + k * 3, none⟩) (by show b' < w.heap.size; omega)).trans hc0'
      have hd1 := (BW.out.cell (p := ⟨b, off + k * 3 + 1, none⟩) (by show b < w.heap.size; omega)).trans hc1
      have hd1' := (BW.out.cell (p := ⟨b', off' + k * 3 + 1, none⟩) (by show b' < w.heap.size; omega)).trans hc1'
      have hd2 := (BW.out.cell (p := ⟨b, off + k * 3 + 2, none⟩) (by show b < w.heap.size; omega)).trans hc2
      have hd2' := (BW.out.cell (p := ⟨b', off' + k * 3 + 2, none⟩) (by show b' < w.heap.size; omega)).trans hc2'
      clear hc0 hc0' hc1 hc1' hc2 hc2'
      generalize xs[k] = y at hd0 hd0' hd1 hd1' hd2 hd2'
      go_wp2
      go_still_tail 8, (by kernel_rfl)
      change wpList _ _ _ _ _ wr.drew
      have HBW : Below w.heap.size w wr.drew := BW.out.drew
      have HB := Lib.hid HBW
      clear HBW
      generalize wr.drew = w2 at HB ⊢
      go_wp2_with (go_at_call 204; refine (laws_eqCasItem y _).mono ?_; rintro e w1 ⟨rfl, hb1⟩; have HB1 := Lib.hid hb1; clear hb1)
      go_roundg (xs.length - (k + 1))
      case measure => omega
      case rel => exact ⟨k + 1, by omega, by omega, by go_num, HB.out.trans (HB1.out.mono HB.out.size)⟩
    · have hltz : ¬ (k : Int) < (xs.length : Int) := by omega
      go_wp2
      go_ret
      exact ⟨rfl, BW.out⟩

theorem laws_szCasItemS (A : Option Addr) (c n : Nat) (left : Int) (h0 : -1 ≤ left) (h1 : left ≤ 1048576) (hn : n ≤ 9223372036854775807) (w : World) :
    Calls Try.prog 163 #[.slice A n c, .int .i64 left] w fun e w' => e = .returned (.int .i64 (szOf n left)) ∧ w = w' := by
  by_cases h : left - n < 0
  · have HF : Hid (szOf n left = -1) := if_pos h
    go_enter Try.func163, Try.ntmps163
    go_wp2
    go_ret
    exact ⟨by rw [HF.out]; rfl, rfl⟩
  · have HF : Hid (szOf n left = left - n) := if_neg h
    go_enter Try.func163, Try.ntmps163
    go_wp2
    go_ret
    exact ⟨by rw [HF.out]; rfl, rfl⟩
end Go.Proofs.Ytkkjljpokannkaa
