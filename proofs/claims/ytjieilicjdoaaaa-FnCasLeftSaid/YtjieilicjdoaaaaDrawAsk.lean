/- A question drawn: l20Ask. -/
import Derived.Test.YtjieilicjdoaaaaGCopy
import Derived.Test.YtjieilicjdoaaaaGNet
import Derived.Deep.Cut
import Derived.Deep.CutRange
namespace Go.Proofs.Ytjieilicjdoaaaa
open Go.RowKit

/-- The pick behind a fresh row of numbers, and the number that it names. -/
theorem lit_at {w : World} {g : Nat} {t : TypeId} {L : List Int} (h : Bk w g t (iv L).toArray) {k : Nat} (hk : k < L.length) : ∃ z : Int, w.cell? ⟨g, k, none⟩ = some (.int .i64 z) :=
 ⟨L[k], by rw [h.cell]; simpa using iv_get (List.getElem?_eq_getElem hk)⟩

/-- While a question is drawn: it lies in block E, the result's cell in block N. -/
def AskSt (R : Nat) (w0 : World) (N E P : Nat) (wx : World) : Prop :=
 ∃ a b c : Int, Bk wx N 32 #[.int .i64 0, .int .i64 0, .int .i64 0] ∧ Bk wx E 32 #[.int .i64 a, .int .i64 b, .int .i64 c] ∧ RdB wx R P ∧ Turned R w0 wx

theorem AskSt.pick {R N E P : Nat} {w0 w w' : World} (h : AskSt R w0 N E P w) (hN : R < N) (hE : R < E) {Q : Nat} (hr : RdB w' R Q) (ht : Turned R w w') : AskSt R w0 N E Q w' := by
 obtain ⟨a, b, c, h1, h2, _, h4⟩ := h
 exact ⟨a, b, c, h1.turned ht (by omega), h2.turned ht (by omega), hr, h4.trans ht⟩
theorem AskSt.later {R N E P : Nat} {w0 w w' : World} (h : AskSt R w0 N E P w) (hb : Below w.heap.size w w') : AskSt R w0 N E P w' := by
 obtain ⟨a, b, c, h1, h2, h3, h4⟩ := h
 exact ⟨a, b, c, h1.later hb, h2.later hb, h3.low hb h3.lt, h4.then hb⟩
theorem AskSt.mono {R N E P Q : Nat} {w0 w : World} (h : AskSt R w0 N E P w) (hq : P ≤ Q) : AskSt R w0 N E Q w := by
 obtain ⟨a, b, c, h1, h2, h3, h4⟩ := h
 exact ⟨a, b, c, h1, h2, h3.mono hq, h4⟩

theorem AskSt.set {R N E P : Nat} {w0 w : World} (h : AskSt R w0 N E P w) (hR : R < E) (hN : N < E) (h0 : w0.heap.size ≤ E) (i : Nat) (hi : i < 3) (z : Int) : AskSt R w0 N E P (w.setCell ⟨E, i, none⟩ (.int .i64 z)) := by
 obtain ⟨a, b, c, h1, h2, h3, h4⟩ := h
 have n1 := h1.far (p := ⟨E, i, none⟩) (by show N ≠ E; omega) (.int .i64 z)
 have n2 := h2.set i (.int .i64 z)
 have n3 := h3.low ((Below.refl E w).setCell (p := ⟨E, i, none⟩) (Nat.le_refl _) (.int .i64 z)) hR
 have n4 := h4.trans' ((Below.refl w0.heap.size w).setCell (p := ⟨E, i, none⟩) h0 (.int .i64 z))
 rcases (by omega : i = 0 ∨ i = 1 ∨ i = 2) with rfl | rfl | rfl
 ·
  exact ⟨z, b, c, n1, n2, n3, n4⟩
 ·
  exact ⟨a, z, c, n1, n2, n3, n4⟩
 ·
  exact ⟨a, b, z, n1, n2, n3, n4⟩

/-- What drawing a question leaves. -/
def DrawnAsk (R Q : Nat) (w : World) (e : Ending) (w' : World) : Prop := ∃ x : GAsk, e = .returned (.agg #[.int .i64 x.op, .int .i64 x.var, .int .i64 x.k]) ∧ RdB w' R Q ∧ Turned R w w'

set_option maxRecDepth 100000 in
set_option maxHeartbeats 2000000 in
theorem l20Ask (R P : Nat) (n : Int) (w : World) (h : RdB w R P) (hP : P ≤ 900000) (hn : n ≤ 4611686018427387904) :
  Calls Try.prog 74 #[.pointer (some ⟨R, 0, none⟩), .int .i64 n] w (DrawnAsk R (P + 20) w) := by
 have HR := Lib.hid h
 have hR := h.lt
 clear h
 go_enter Try.func74, Try.ntmps74
 go_wp2_with fail
 refine callsAt fun W hW => ?_
 have bN : Bk W w.heap.size 32 #[.int .i64 0, .int .i64 0, .int .i64 0] := by rw [hW]; exact Bk.new rfl
 have hB : Below w.heap.size w W := by rw [hW]; exact (Below.refl _ _).alloc (Nat.le_refl _) _
 clear hW
 refine (l20Rd_pick R P 3 _ (HR.out.low hB hR) (by omega) (by omega)).mono ?_
 rintro e w1 ⟨v1, rfl, _, _, _, hr1, ht1⟩
 have N1 := Lib.hid (bN.turned ht1 (by omega))
 have T1 := Lib.hid ((Turned.of_below hB).trans ht1)
 have R1 := Lib.hid hr1
 clear bN hB hr1 ht1
 go_wp2_with fail
 refine (l20Rd_pick R _ 3 _ R1.out (by omega) (by omega)).mono ?_
 rintro e w2 ⟨v2, rfl, _, _, _, hr2, ht2⟩
 have N2 := Lib.hid (N1.out.turned ht2 (by omega))
 have T2 := Lib.hid (T1.out.trans ht2)
 have R2 := Lib.hid hr2
 clear hr2 ht2
 go_wp2_with fail
 refine (l20Rd_pick R _ 9 _ R2.out (by omega) (by omega)).mono ?_
 rintro e w3 ⟨v3, rfl, _, _, _, hr3, ht3⟩
 have N3 := Lib.hid (N2.out.turned ht3 (by omega))
 have T3 := Lib.hid (T2.out.trans ht3)
 have R3 := Lib.hid hr3
 have s3 := T3.out.size
 clear hr3 ht3
 go_wp2_with fail
 refine callsAt fun W4 hW4 => ?_
 have bL : Bk W4 w3.heap.size 3 (iv [0, 1, 2, 5, -1, v3]).toArray := by rw [hW4]; exact Bk.new rfl
 have hB4 : Below w3.heap.size w3 W4 := by rw [hW4]; exact (Below.refl _ _).alloc (Nat.le_refl _) _
 clear hW4
 refine (l20Rd_pick R _ 6 _ (R3.out.low hB4 R3.out.lt) (by omega) (by omega)).mono ?_
 rintro e w4 ⟨v4, rfl, hv40, hv41, _, hr4, ht4⟩
 obtain ⟨k4, rfl⟩ := Int.eq_ofNat_of_zero_le hv40
 have hk4 : (k4 : Int) < 6 := by omega
 obtain ⟨z4, hz4⟩ := lit_at (bL.turned ht4 (by omega)) (k := k4) (by simp; omega)
 have N4 := Lib.hid ((N3.out.later hB4).turned ht4 (by omega))
 have T4 := Lib.hid ((T3.out.then hB4).trans ht4)
 have R4 := Lib.hid hr4
 have s4 := T4.out.size
 clear bL hB4 hr4 ht4
 go_wp2_with fail
 refine callsAt fun W5 hW5 => ?_
 have S5 : Hid (AskSt R w w.heap.size w4.heap.size (P + 10) W5) := by
  have hB5 : Below w4.heap.size w4 W5 := by rw [hW5]; exact (Below.refl _ _).alloc (Nat.le_refl _) _
  exact ⟨1 + v1, v2, z4, N4.out.later hB5, by rw [hW5]; exact Bk.new rfl, (R4.out.low hB5 R4.out.lt).mono (by omega), T4.out.then hB5⟩
 clear hW5
 have R5 := S5.out
 obtain ⟨_, _, _, _, _, r5, _⟩ := R5
 refine (l20Rd_pick R _ 6 _ r5 (by omega) (by omega)).mono ?_
 rintro e w6 ⟨v6, rfl, _, _, _, hr6, ht6⟩
 have S6 := Lib.hid (S5.out.pick hR (by omega) hr6 ht6)
 clear r5 hr6 ht6 S5
 generalize hE : w4.heap.size = E at *
 have hEN : w.heap.size < E := by
  rw [← hE]
  exact N4.out.lt
 clear hE N4 T4 R4 hz4 N3 T3 R3 N2 T2 R2 N1 T1 R1
 go_upto_if 21 with fail
 go_cut [] from 22 (fun wx => AskSt R w w.heap.size E (P + 12) wx)
 case first =>
  by_cases h6 : v6 = 0
  ·
   subst h6
   obtain ⟨a, b, c, bN, bE, r6, t6⟩ := S6.out
   have kE := fun i => bE.cell i
   have fE := fun i => bE.frozen i
   go_wp2
   go_meet
   case rel => exact ((((S6.out.set (by omega) hEN (by omega) 0 (by omega) 0).set (by omega) hEN (by omega) 1 (by omega) 0).set (by omega) hEN (by omega) 2 (by omega) 0)).mono (by omega)
  ·
   have b6 : (v6 == 0) = false := by simp [h6]
   go_wp2
   go_meet
   case rel => exact S6.out.mono (by omega)
 case rest =>
  have S7 := Lib.hid hcut
  clear hcut S6
  obtain ⟨_, _, _, _, _, r7, _⟩ := S7.out
  go_wp2_with fail
  refine (l20Rd_pick R _ n _ r7 (by omega) hn).mono ?_
  rintro e w8 ⟨v8, rfl, _, _, _, hr8, ht8⟩
  have S8 := Lib.hid (S7.out.pick hR (by omega) hr8 ht8)
  clear r7 hr8 ht8 S7
  go_upto_if 26 with fail
  go_cut [] from 27 (fun wx => AskSt R w w.heap.size E (P + 18) wx)
  case first =>
   by_cases h8 : v8 = 0
   ·
    subst h8
    obtain ⟨_, _, _, _, _, r8, _⟩ := S8.out
    go_wp2_with fail
    refine (l20Rd_pick R _ 3 _ r8 (by omega) (by omega)).mono ?_
    rintro e w9 ⟨v9, rfl, hv90, hv91, _, hr9, ht9⟩
    have S9 := Lib.hid (S8.out.pick hR (by omega) hr9 ht9)
    clear r8 hr9 ht9 S8
    obtain ⟨_, _, _, bN9, _, r9, t9⟩ := S9.out
    have s9 := t9.size
    have sE9 : E < w9.heap.size := by obtain ⟨_, _, _, _, bE9, _, _⟩ := S9.out; exact bE9.lt
    have r9' := Lib.hid r9
    clear bN9 t9 r9
    rcases (by omega : v9 = 0 ∨ v9 = 1 ∨ v9 = 2) with rfl | rfl | rfl
    ·
     go_wp2_with fail
     refine callsAt fun V hV => ?_
     have bL : Bk V w9.heap.size 3 (iv [0, 4, -1]).toArray := by rw [hV]; exact Bk.new rfl
     have hBV : Below w9.heap.size w9 V := by rw [hV]; exact (Below.refl _ _).alloc (Nat.le_refl _) _
     clear hV
     refine (l20Rd_pick R _ 3 _ (r9'.out.low hBV (by omega)) (by omega) (by omega)).mono ?_
     rintro e w10 ⟨v10, rfl, hv100, hv101, _, hr10, ht10⟩
     obtain ⟨k10, rfl⟩ := Int.eq_ofNat_of_zero_le hv100
     have hk10 : (k10 : Int) < 3 := by omega
     obtain ⟨z10, hz10⟩ := lit_at (bL.turned ht10 (by omega)) (k := k10) (by simp; omega)
     have S10 := Lib.hid ((S9.out.later hBV).pick hR (by omega) hr10 ht10)
     clear hr10 ht10 bL hBV
     obtain ⟨a, b, c, _, bE, _, _⟩ := S10.out
     have kE := fun i => bE.cell i
     have fE := fun i => bE.frozen i
     go_wp2
     go_meet
     case rel => exact (S10.out.set (by omega) hEN (by omega) 0 (by omega) z10).mono (by omega)
    ·
     go_wp2_with fail
     refine callsAt fun V hV => ?_
     have bL : Bk V w9.heap.size 3 (iv [3, -1, 1]).toArray := by rw [hV]; exact Bk.new rfl
     have hBV : Below w9.heap.size w9 V := by rw [hV]; exact (Below.refl _ _).alloc (Nat.le_refl _) _
     clear hV
     refine (l20Rd_pick R _ 3 _ (r9'.out.low hBV (by omega)) (by omega) (by omega)).mono ?_
     rintro e w10 ⟨v10, rfl, hv100, hv101, _, hr10, ht10⟩
     obtain ⟨k10, rfl⟩ := Int.eq_ofNat_of_zero_le hv100
     have hk10 : (k10 : Int) < 3 := by omega
     obtain ⟨z10, hz10⟩ := lit_at (bL.turned ht10 (by omega)) (k := k10) (by simp; omega)
     have S10 := Lib.hid ((S9.out.later hBV).pick hR (by omega) hr10 ht10)
     clear hr10 ht10 bL hBV
     obtain ⟨a, b, c, _, bE, _, _⟩ := S10.out
     have kE := fun i => bE.cell i
     have fE := fun i => bE.frozen i
     go_wp2
     go_meet
     case rel => exact (S10.out.set (by omega) hEN (by omega) 1 (by omega) z10).mono (by omega)
    ·
     go_wp2_with fail
     refine callsAt fun V hV => ?_
     have bL : Bk V w9.heap.size 3 (iv [99, 100, -99]).toArray := by rw [hV]; exact Bk.new rfl
     have hBV : Below w9.heap.size w9 V := by rw [hV]; exact (Below.refl _ _).alloc (Nat.le_refl _) _
     clear hV
     refine (l20Rd_pick R _ 3 _ (r9'.out.low hBV (by omega)) (by omega) (by omega)).mono ?_
     rintro e w10 ⟨v10, rfl, hv100, hv101, _, hr10, ht10⟩
     obtain ⟨k10, rfl⟩ := Int.eq_ofNat_of_zero_le hv100
     have hk10 : (k10 : Int) < 3 := by omega
     obtain ⟨z10, hz10⟩ := lit_at (bL.turned ht10 (by omega)) (k := k10) (by simp; omega)
     have S10 := Lib.hid ((S9.out.later hBV).pick hR (by omega) hr10 ht10)
     clear hr10 ht10 bL hBV
     obtain ⟨a, b, c, _, bE, _, _⟩ := S10.out
     have kE := fun i => bE.cell i
     have fE := fun i => bE.frozen i
     go_wp2
     go_meet
     case rel => exact (S10.out.set (by omega) hEN (by omega) 2 (by omega) z10).mono (by omega)
   ·
    have b8 : (v8 == 0) = false := by simp [h8]
    go_wp2
    go_meet
    case rel => exact S8.out.mono (by omega)
  case rest =>
   obtain ⟨a, b, c, bN, bE, r, t⟩ := hcut
   have kE := fun i => bE.cell i
   have kN := fun i => bN.cell i
   have fN := fun i => bN.frozen i
   have RW := Lib.hid r
   have TW := Lib.hid t
   have BN := Lib.hid bN
   clear r t bN bE S8
   go_wp2
   have bV := ((BN.out.set 0 (.int .i64 a)).set 1 (.int .i64 b)).set 2 (.int .i64 c)
   have rV : RdB (((wc.setCell ⟨w.heap.size, 0, none⟩ (.int .i64 a)).setCell ⟨w.heap.size, 1, none⟩ (.int .i64 b)).setCell ⟨w.heap.size, 2, none⟩ (.int .i64 c)) R (P + 18) := RW.out.low (B := w.heap.size) (by go_grown) hR
   have tV := TW.out.trans' (show Below w.heap.size wc (((wc.setCell ⟨w.heap.size, 0, none⟩ (.int .i64 a)).setCell ⟨w.heap.size, 1, none⟩ (.int .i64 b)).setCell ⟨w.heap.size, 2, none⟩ (.int .i64 c)) by go_grown)
   generalize ((wc.setCell _ _).setCell _ _).setCell _ _ = V at bV rV tV ⊢
   have k1 := fun i => bV.cell i
   refine bodyPost_ret (v := .agg #[.int .i64 a, .int .i64 b, .int .i64 c]) (by simp [results, Try.results74, go_sem, k1]) rfl ?_
   exact ⟨⟨a, b, c⟩, rfl, rV.mono (by omega), tV⟩
end Go.Proofs.Ytjieilicjdoaaaa
