/- Requests copied, compared, measured. -/
import Derived.Test.YtnnhhmdeoedmmaaEngReq
import Derived.Test.YtnnhhmdeoedmmaaSzRule
namespace Go.Proofs.Ytnnhhmdeoedmmaa
open Go.RowKit

theorem givesAt {y : GReq} {w w' : World} {e : Ending} (h : ∀ W, W = w' → GivesR y w e W) : GivesR y w e w' := h _ rfl

set_option maxHeartbeats 2000000 in
theorem laws_toEngReq (x : GReq) (A : Option Addr) (c : Nat) (w : World) (hx : Ints w w.heap.size A x.data) (hl : x.data.length ≤ 1048576) :
    Calls Try.prog 54 #[.agg (x.cells A c).toArray] w (GivesR x w) := by
  show Calls Try.prog 54 #[.agg #[.int .i64 x.kind, .int .i64 x.a1, .int .i64 x.a2, .int .i64 x.a3, .int .i64 x.a4, .int .i64 x.a5, .slice A x.data.length c, .int .i64 x.ask.op, .int .i64 x.ask.var, .int .i64 x.ask.k, .int .i64 x.ans]] w _
  have H := Lib.hid hx
  clear hx
  go_enter Try.func54, Try.ntmps54
  go_upto_region 2 with fail
  generalize hV : ((w.alloc _).alloc _).alloc _ = V
  have c0 : Bk V (w.heap.size) 60 #[.int .i64 x.kind, .int .i64 x.a1, .int .i64 x.a2, .int .i64 x.a3, .int .i64 x.a4, .int .i64 x.a5, .slice A x.data.length c, .int .i64 x.ask.op, .int .i64 x.ask.var, .int .i64 x.ask.k, .int .i64 x.ans] := by rw [← hV]; exact ((Bk.new rfl).alloc _).alloc _
  have c1 : Bk V (w.heap.size + 1) 64 #[.int .i64 0, .int .i64 0, .int .i64 0, .int .i64 0, .int .i64 0, .int .i64 0, .slice none 0 0, .int .i64 0, .int .i64 0, .int .i64 0, .int .i64 0] := by rw [← hV]; exact (Bk.new (by simp)).alloc _
  have c2 : Bk V (w.heap.size + 1 + 1) 64 #[.int .i64 0, .int .i64 0, .int .i64 0, .int .i64 0, .int .i64 0, .int .i64 0, .slice none 0 0, .int .i64 0, .int .i64 0, .int .i64 0, .int .i64 0] := by rw [← hV]; exact Bk.new (by simp)
  have hBV : Below w.heap.size w V := by rw [← hV]; go_grown
  clear hV
  have k0 := fun i => c0.cell i
  have k2 := fun i => c2.cell i
  have f2 := fun i => c2.frozen i
  have C0 := Lib.hid c0
  have C1 := Lib.hid c1
  have C2 := Lib.hid c2
  have BV := Lib.hid hBV
  clear c0 c1 c2 hBV
  go_wp2_with fail
  refine callsAt fun W0 hW0 => ?_
  have b0 : Bk W0 (w.heap.size) 60 #[.int .i64 x.kind, .int .i64 x.a1, .int .i64 x.a2, .int .i64 x.a3, .int .i64 x.a4, .int .i64 x.a5, .slice A x.data.length c, .int .i64 x.ask.op, .int .i64 x.ask.var, .int .i64 x.ask.k, .int .i64 x.ans] := by rw [hW0]; exact ((((((C0.out.far (show w.heap.size ≠ w.heap.size + 1 + 1 by omega) _).far (show w.heap.size ≠ w.heap.size + 1 + 1 by omega) _).far (show w.heap.size ≠ w.heap.size + 1 + 1 by omega) _).far (show w.heap.size ≠ w.heap.size + 1 + 1 by omega) _).far (show w.heap.size ≠ w.heap.size + 1 + 1 by omega) _).far (show w.heap.size ≠ w.heap.size + 1 + 1 by omega) _)
  have b1 : Bk W0 (w.heap.size + 1) 64 #[.int .i64 0, .int .i64 0, .int .i64 0, .int .i64 0, .int .i64 0, .int .i64 0, .slice none 0 0, .int .i64 0, .int .i64 0, .int .i64 0, .int .i64 0] := by rw [hW0]; exact ((((((C1.out.far (show w.heap.size + 1 ≠ w.heap.size + 1 + 1 by omega) _).far (show w.heap.size + 1 ≠ w.heap.size + 1 + 1 by omega) _).far (show w.heap.size + 1 ≠ w.heap.size + 1 + 1 by omega) _).far (show w.heap.size + 1 ≠ w.heap.size + 1 + 1 by omega) _).far (show w.heap.size + 1 ≠ w.heap.size + 1 + 1 by omega) _).far (show w.heap.size + 1 ≠ w.heap.size + 1 + 1 by omega) _)
  have b2 : Bk W0 (w.heap.size + 1 + 1) 64 #[.int .i64 x.kind, .int .i64 x.a1, .int .i64 x.a2, .int .i64 x.a3, .int .i64 x.a4, .int .i64 x.a5, .slice none 0 0, .int .i64 0, .int .i64 0, .int .i64 0, .int .i64 0] := by rw [hW0]; exact ((((((C2.out.set 0 _).set 1 _).set 2 _).set 3 _).set 4 _).set 5 _)
  have hB : Below w.heap.size w W0 := by rw [hW0]; exact ((((((BV.out.setCell (p := ⟨w.heap.size + 1 + 1, 0, none⟩) (show w.heap.size ≤ w.heap.size + 1 + 1 by omega) _).setCell (p := ⟨w.heap.size + 1 + 1, 1, none⟩) (show w.heap.size ≤ w.heap.size + 1 + 1 by omega) _).setCell (p := ⟨w.heap.size + 1 + 1, 2, none⟩) (show w.heap.size ≤ w.heap.size + 1 + 1 by omega) _).setCell (p := ⟨w.heap.size + 1 + 1, 3, none⟩) (show w.heap.size ≤ w.heap.size + 1 + 1 by omega) _).setCell (p := ⟨w.heap.size + 1 + 1, 4, none⟩) (show w.heap.size ≤ w.heap.size + 1 + 1 by omega) _).setCell (p := ⟨w.heap.size + 1 + 1, 5, none⟩) (show w.heap.size ≤ w.heap.size + 1 + 1 by omega) _)
  have hz : w.heap.size + 3 ≤ W0.heap.size := by have := b2.lt; omega
  clear hW0 k0 k2 f2 C0 C1 C2 BV
  refine (laws_toIntS _ _ x.data _ w.heap.size (by omega) (H.out.below hB) hl).mono ?_
  rintro e w1 ⟨rfl, hw, hb⟩
  have R1 := Lib.hid (hw.rows (lo := w.heap.size + 3) (by omega) hz hw.lt)
  have HB1 := Lib.hid (hB.trans (hb.mono (by omega)))
  have hz1 : w.heap.size + 3 ≤ w1.heap.size := by have := hb.size; omega
  have b0 := b0.later hb
  have b1 := b1.later hb
  have b2 := b2.later hb
  have k0 := fun i => b0.cell i
  have k2 := fun i => b2.cell i
  have f2 := fun i => b2.frozen i
  have B0 := Lib.hid b0
  have B1 := Lib.hid b1
  have B2 := Lib.hid b2
  clear hw hb hB hz b0 b1 b2
  go_wp2_with fail
  refine callsAt fun W1 hW1 => ?_
  have b0 : Bk W1 (w.heap.size) 60 #[.int .i64 x.kind, .int .i64 x.a1, .int .i64 x.a2, .int .i64 x.a3, .int .i64 x.a4, .int .i64 x.a5, .slice A x.data.length c, .int .i64 x.ask.op, .int .i64 x.ask.var, .int .i64 x.ask.k, .int .i64 x.ans] := by rw [hW1]; exact (B0.out.far (show w.heap.size ≠ w.heap.size + 1 + 1 by omega) _)
  have b1 : Bk W1 (w.heap.size + 1) 64 #[.int .i64 0, .int .i64 0, .int .i64 0, .int .i64 0, .int .i64 0, .int .i64 0, .slice none 0 0, .int .i64 0, .int .i64 0, .int .i64 0, .int .i64 0] := by rw [hW1]; exact (B1.out.far (show w.heap.size + 1 ≠ w.heap.size + 1 + 1 by omega) _)
  have b2 : Bk W1 (w.heap.size + 1 + 1) 64 #[.int .i64 x.kind, .int .i64 x.a1, .int .i64 x.a2, .int .i64 x.a3, .int .i64 x.a4, .int .i64 x.a5, .slice (some ⟨W0.heap.size, 0, none⟩) x.data.length x.data.length, .int .i64 0, .int .i64 0, .int .i64 0, .int .i64 0] := by rw [hW1]; exact (B2.out.set 6 _)
  have hB : Below w.heap.size w W1 := by rw [hW1]; exact (HB1.out.setCell (p := ⟨w.heap.size + 1 + 1, 6, none⟩) (show w.heap.size ≤ w.heap.size + 1 + 1 by omega) _)
  have hag : Agree (some (w.heap.size + 3)) w1.heap.size w1 W1 := by rw [hW1]; exact ((Agree.refl _ _ _).set (p := ⟨w.heap.size + 1 + 1, 6, none⟩) (show w.heap.size + 1 + 1 < w.heap.size + 3 by omega) _)
  have hsz : w1.heap.size = W1.heap.size := by rw [hW1]; simp only [World.size_setCell]
  have R2 := Lib.hid ((R1.out.keep hag).more (Nat.le_of_eq hsz))
  have hz2 : w.heap.size + 3 ≤ W1.heap.size := by omega
  clear hW1 HB1 hag hsz R1 hz1 B0 B1 B2 k0 k2 f2
  refine (laws_toExpAsk x.ask _).mono ?_
  rintro e w2 ⟨rfl, hb⟩
  have R3 := Lib.hid (R2.out.later hb)
  have HB2 := Lib.hid (hB.trans (hb.mono (by omega)))
  have hz3 : w.heap.size + 3 ≤ w2.heap.size := by have := hb.size; omega
  have b0 := b0.later hb
  have b1 := b1.later hb
  have b2 := b2.later hb
  have k0 := fun i => b0.cell i
  have k1 := fun i => b1.cell i
  have k2 := fun i => b2.cell i
  have f1 := fun i => b1.frozen i
  have f2 := fun i => b2.frozen i
  clear hb hB b0 b1 b2 R2
  go_wp2
  refine bodyPost_ret (v := .agg #[.int .i64 x.kind, .int .i64 x.a1, .int .i64 x.a2, .int .i64 x.a3, .int .i64 x.a4, .int .i64 x.a5, .slice (some ⟨W0.heap.size, 0, none⟩) x.data.length x.data.length, .int .i64 x.ask.op, .int .i64 x.ask.var, .int .i64 x.ask.k, .int .i64 x.ans]) (by simp [results, Try.results54, go_sem, k1]) rfl ?_
  refine givesAt fun W hW => ?_
  have hag : Agree (some (w.heap.size + 3)) w2.heap.size w2 W := by rw [hW]; exact ((((((((((((((((Agree.refl _ _ _).set (p := ⟨w.heap.size + 1 + 1, 7, none⟩) (show w.heap.size + 1 + 1 < w.heap.size + 3 by omega) _).set (p := ⟨w.heap.size + 1 + 1, 8, none⟩) (show w.heap.size + 1 + 1 < w.heap.size + 3 by omega) _).set (p := ⟨w.heap.size + 1 + 1, 9, none⟩) (show w.heap.size + 1 + 1 < w.heap.size + 3 by omega) _).set (p := ⟨w.heap.size + 1 + 1, 10, none⟩) (show w.heap.size + 1 + 1 < w.heap.size + 3 by omega) _).set (p := ⟨w.heap.size + 1, 0, none⟩) (show w.heap.size + 1 < w.heap.size + 3 by omega) _).set (p := ⟨w.heap.size + 1, 1, none⟩) (show w.heap.size + 1 < w.heap.size + 3 by omega) _).set (p := ⟨w.heap.size + 1, 2, none⟩) (show w.heap.size + 1 < w.heap.size + 3 by omega) _).set (p := ⟨w.heap.size + 1, 3, none⟩) (show w.heap.size + 1 < w.heap.size + 3 by omega) _).set (p := ⟨w.heap.size + 1, 4, none⟩) (show w.heap.size + 1 < w.heap.size + 3 by omega) _).set (p := ⟨w.heap.size + 1, 5, none⟩) (show w.heap.size + 1 < w.heap.size + 3 by omega) _).set (p := ⟨w.heap.size + 1, 6, none⟩) (show w.heap.size + 1 < w.heap.size + 3 by omega) _).set (p := ⟨w.heap.size + 1, 7, none⟩) (show w.heap.size + 1 < w.heap.size + 3 by omega) _).set (p := ⟨w.heap.size + 1, 8, none⟩) (show w.heap.size + 1 < w.heap.size + 3 by omega) _).set (p := ⟨w.heap.size + 1, 9, none⟩) (show w.heap.size + 1 < w.heap.size + 3 by omega) _).set (p := ⟨w.heap.size + 1, 10, none⟩) (show w.heap.size + 1 < w.heap.size + 3 by omega) _)
  have hsz : w2.heap.size = W.heap.size := by rw [hW]; simp only [World.size_setCell]
  have hBf : Below w.heap.size w W := by rw [hW]; exact (((((((((((((((HB2.out.setCell (p := ⟨w.heap.size + 1 + 1, 7, none⟩) (show w.heap.size ≤ w.heap.size + 1 + 1 by omega) _).setCell (p := ⟨w.heap.size + 1 + 1, 8, none⟩) (show w.heap.size ≤ w.heap.size + 1 + 1 by omega) _).setCell (p := ⟨w.heap.size + 1 + 1, 9, none⟩) (show w.heap.size ≤ w.heap.size + 1 + 1 by omega) _).setCell (p := ⟨w.heap.size + 1 + 1, 10, none⟩) (show w.heap.size ≤ w.heap.size + 1 + 1 by omega) _).setCell (p := ⟨w.heap.size + 1, 0, none⟩) (show w.heap.size ≤ w.heap.size + 1 by omega) _).setCell (p := ⟨w.heap.size + 1, 1, none⟩) (show w.heap.size ≤ w.heap.size + 1 by omega) _).setCell (p := ⟨w.heap.size + 1, 2, none⟩) (show w.heap.size ≤ w.heap.size + 1 by omega) _).setCell (p := ⟨w.heap.size + 1, 3, none⟩) (show w.heap.size ≤ w.heap.size + 1 by omega) _).setCell (p := ⟨w.heap.size + 1, 4, none⟩) (show w.heap.size ≤ w.heap.size + 1 by omega) _).setCell (p := ⟨w.heap.size + 1, 5, none⟩) (show w.heap.size ≤ w.heap.size + 1 by omega) _).setCell (p := ⟨w.heap.size + 1, 6, none⟩) (show w.heap.size ≤ w.heap.size + 1 by omega) _).setCell (p := ⟨w.heap.size + 1, 7, none⟩) (show w.heap.size ≤ w.heap.size + 1 by omega) _).setCell (p := ⟨w.heap.size + 1, 8, none⟩) (show w.heap.size ≤ w.heap.size + 1 by omega) _).setCell (p := ⟨w.heap.size + 1, 9, none⟩) (show w.heap.size ≤ w.heap.size + 1 by omega) _).setCell (p := ⟨w.heap.size + 1, 10, none⟩) (show w.heap.size ≤ w.heap.size + 1 by omega) _)
  clear hW
  exact ⟨_, _, rfl, ((R3.out.keep hag).more (Nat.le_of_eq hsz)).ints, hBf⟩

set_option maxHeartbeats 2000000 in
theorem laws_eqEngReq (x : GReq) (A A' : Option Addr) (c c' : Nat) (w : World) (hx : Ints w w.heap.size A x.data) (hy : Ints w w.heap.size A' x.data) :
    Calls Try.prog 56 #[.agg (x.cells A c).toArray, .agg (x.cells A' c').toArray] w (Says (.bool true) w) := by
  show Calls Try.prog 56 #[.agg #[.int .i64 x.kind, .int .i64 x.a1, .int .i64 x.a2, .int .i64 x.a3, .int .i64 x.a4, .int .i64 x.a5, .slice A x.data.length c, .int .i64 x.ask.op, .int .i64 x.ask.var, .int .i64 x.ask.k, .int .i64 x.ans], .agg #[.int .i64 x.kind, .int .i64 x.a1, .int .i64 x.a2, .int .i64 x.a3, .int .i64 x.a4, .int .i64 x.a5, .slice A' x.data.length c', .int .i64 x.ask.op, .int .i64 x.ask.var, .int .i64 x.ask.k, .int .i64 x.ans]] w _
  have H := Lib.hid hx
  have H' := Lib.hid hy
  clear hx hy
  go_enter Try.func56, Try.ntmps56
  go_wp2_with fail
  refine callsAt fun W0 hW0 => ?_
  have b0 : Bk W0 w.heap.size 64 #[.int .i64 x.kind, .int .i64 x.a1, .int .i64 x.a2, .int .i64 x.a3, .int .i64 x.a4, .int .i64 x.a5, .slice A x.data.length c, .int .i64 x.ask.op, .int .i64 x.ask.var, .int .i64 x.ask.k, .int .i64 x.ans] := by rw [hW0]; exact (Bk.new rfl).alloc _
  have b1 : Bk W0 (w.heap.size + 1) 64 #[.int .i64 x.kind, .int .i64 x.a1, .int .i64 x.a2, .int .i64 x.a3, .int .i64 x.a4, .int .i64 x.a5, .slice A' x.data.length c', .int .i64 x.ask.op, .int .i64 x.ask.var, .int .i64 x.ask.k, .int .i64 x.ans] := by rw [hW0]; exact Bk.new (by simp)
  have hB : Below w.heap.size w W0 := by rw [hW0]; go_grown
  clear hW0
  refine (laws_eqIntS _ _ _ _ x.data x.data _ w.heap.size (H.out.below hB) (H'.out.below hB)).mono ?_
  rintro e w1 ⟨rfl, n1, rfl⟩
  have k0 := fun i => b0.cell i
  have k1 := fun i => b1.cell i
  have HB := Lib.hid (bdN hB n1)
  have C0 := Lib.hid (b0.drewN n1)
  have C1 := Lib.hid (b1.drewN n1)
  clear b0 b1 hB
  have hd : decide (x.data = x.data) = true := by simp
  rw [hd]
  go_wp2_with (go_at_call 91; refine (laws_eqExpAsk x.ask _).mono ?_; rintro e w2 ⟨rfl, hb2⟩; have HB2 := Lib.hid hb2; have k02 := (fun i => (C0.out.later hb2).cell i); have k12 := (fun i => (C1.out.later hb2).cell i); clear hb2)
  go_ret
  exact ⟨rfl, HB.out.trans (HB2.out.mono HB.out.size)⟩

theorem laws_szEngReq (x : GReq) (A : Option Addr) (c : Nat) (left : Int) (h0 : 0 ≤ left) (h1 : left ≤ 1048576) (hn : x.data.length ≤ 9223372036854775807) (w : World) :
    Calls Try.prog 52 #[.agg (x.cells A c).toArray, .int .i64 left] w (Says (.int .i64 (szOf x.data.length left)) w) := by
  show Calls Try.prog 52 #[.agg #[.int .i64 x.kind, .int .i64 x.a1, .int .i64 x.a2, .int .i64 x.a3, .int .i64 x.a4, .int .i64 x.a5, .slice A x.data.length c, .int .i64 x.ask.op, .int .i64 x.ask.var, .int .i64 x.ask.k, .int .i64 x.ans], .int .i64 left] w _
  have hb := szOf_le (n := x.data.length) h0
  cases q : decide (szOf x.data.length left < 0) with
  | true =>
    have q1 : szOf x.data.length left < 0 := of_decide_eq_true q
    have q2 : szOf x.data.length left = -1 := by omega
    have Q2 := Lib.hid q2
    clear q q2 hb
    go_enter Try.func52, Try.ntmps52
    go_wp2_with (go_at_call 85; refine (laws_szIntS _ _ _ _ (by omega) (by omega) (by omega) _).mono ?_; rintro e w' ⟨rfl, rfl⟩)
    go_ret
    exact ⟨by rw [Q2.out]; rfl, by go_grown⟩
  | false =>
    have q1 : ¬ szOf x.data.length left < 0 := of_decide_eq_false q
    clear q hb
    go_enter Try.func52, Try.ntmps52
    go_wp2_with (go_at_call 85; refine (laws_szIntS _ _ _ _ (by omega) (by omega) (by omega) _).mono ?_; rintro e w' ⟨rfl, rfl⟩)
    go_ret
    exact ⟨rfl, by go_grown⟩
end Go.Proofs.Ytnnhhmdeoedmmaa
