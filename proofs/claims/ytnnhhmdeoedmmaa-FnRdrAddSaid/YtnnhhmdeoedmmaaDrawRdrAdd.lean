/- What the draw of an addition hands back. -/
import Derived.Test.YtnnhhmdeoedmmaaDrawRdr
namespace Go.Proofs.Ytnnhhmdeoedmmaa
open Go.RowKit

/-- Rules, data, a question and an answer that were drawn. -/
def DrawnAdd (w : World) (e : Ending) (w' : World) : Prop :=
  ∃ A c t A1 c1 d, ∃ (x : GAsk) (a : Int), e = .returned (.tuple #[.slice A (List.length (α := GRule) t) c, .slice A1 (List.length (α := Int) d) c1, .agg #[.int .i64 x.op, .int .i64 x.var, .int .i64 x.k], .int .i64 a]) ∧ t.length ≤ 12 ∧ (∀ r ∈ t, r.stone.length ≤ 4) ∧ d.length ≤ 4 ∧ Rows ruleC none w' w'.heap.size A t ∧ Ints w' w'.heap.size A1 d ∧ Below w.heap.size w w'

theorem Code.later {w w' : World} {A : Option Addr} {c : Nat} {xs : List Int} (h : Code w w.heap.size A c xs) (hb : Below w.heap.size w w') : Code w' w'.heap.size A c xs := by
  obtain ⟨h1, h2, h3⟩ := h.1.keep hb.block
  refine ⟨⟨h1, fun h0 => ?_, h3⟩, h.2⟩
  obtain ⟨b, off, hA, hlt, hc⟩ := h2 h0
  exact ⟨b, off, hA, Nat.lt_of_lt_of_le hlt hb.size, hc⟩

set_option maxRecDepth 100000 in
set_option maxHeartbeats 2000000 in
theorem spec_DrawRdrAdd (A : Option Addr) (c : Nat) (xs : List Int) (w : World) (h : Code w w.heap.size A c xs) :
    Calls Try.prog 45 #[.slice A xs.length c] w (DrawnAdd w) := by
  have HC := Lib.hid h
  clear h
  go_enter Try.func45, Try.ntmps45
  go_wp2_with fail
  refine callsAt fun W hW => ?_
  have bN : Bk W w.heap.size 39 #[.int .i64 0, .int .i64 0, .int .i64 0] := by rw [hW]; exact Bk.new rfl
  have hB : Below w.heap.size w W := by rw [hW]; exact (Below.refl _ _).alloc (Nat.le_refl _) _
  have hWs : w.heap.size < W.heap.size := bN.lt
  clear hW
  refine (l20Open A c xs W (HC.out.later hB)).mono ?_
  rintro e w1 ⟨rfl, hr1, hb1⟩
  have N1 := Lib.hid (bN.later hb1)
  have R1 := Lib.hid hr1
  have B1 := Lib.hid (hB.trans (hb1.mono hB.size))
  have s1 := hr1.lt
  generalize W.heap.size = R at *
  clear hr1 hb1 bN hB
  go_wp2_with fail
  refine (l20Tree _ _ _ _ R1.out (by omega) (by omega)).mono ?_
  rintro e w2 ⟨A2, c2, t, rfl, hl, hs, hrow, hr2, ht2⟩
  have N2 := Lib.hid (N1.out.turned ht2 (by omega))
  have D2 := Lib.hid hrow
  have S2 := Lib.hid hs
  have R2 := Lib.hid hr2
  have T2 := Lib.hid ht2
  have s2 := ht2.size
  clear hrow hr2 ht2 hs N1
  go_wp2_with fail
  refine (l20Data _ _ _ _ R2.out (by omega) (by omega)).mono ?_
  rintro e w3 ⟨A3, c3, d, rfl, hd2, hd4, hrow3, hr3, ht3⟩
  have N3 := Lib.hid (N2.out.turned ht3 (by omega))
  have D3 := Lib.hid ((D2.out.keep (ht3.agree s1 (Nat.le_refl _))).more ht3.size)
  have E3 := Lib.hid (hrow3.weak (Weaker.some (lo' := w1.heap.size) s2))
  have R3 := Lib.hid hr3
  have T3 := Lib.hid (T2.out.trans ht3)
  have s3 := ht3.size
  clear hrow3 hr3 ht3 N2 D2 R2 T2
  go_wp2_with fail
  refine (l20Ask _ _ _ _ R3.out (by omega) (by omega)).mono ?_
  rintro e w4 ⟨x, rfl, hr4, ht4⟩
  have N4 := Lib.hid (N3.out.turned ht4 (by omega))
  have D4 := Lib.hid ((D3.out.keep (ht4.agree s1 (Nat.le_refl _))).more ht4.size)
  have E4 := Lib.hid ((E3.out.keep (ht4.agree s1 (Nat.le_refl _))).more ht4.size)
  have R4 := Lib.hid hr4
  have T4 := Lib.hid (T3.out.trans ht4)
  have s4 := ht4.size
  clear hr4 ht4 N3 D3 E3 R3 T3
  go_wp2_with fail
  refine callsAt fun V hV => ?_
  have hBV : Below w4.heap.size w4 V := by rw [hV]; go_grown
  have bE : Bk V w4.heap.size 39 #[.int .i64 x.op, .int .i64 x.var, .int .i64 x.k] := by
    rw [hV]
    exact Bk.new rfl
  clear hV
  refine (l20Rd_pick R _ 3 V (R4.out.low hBV R4.out.lt) (by omega) (by omega)).mono ?_
  rintro e w5 ⟨v5, rfl, hv50, hv51, _, hr5, ht5⟩
  have N5 := Lib.hid ((N4.out.later hBV).turned ht5 (by omega))
  have K5 := Lib.hid (bE.turned ht5 (by omega))
  have D5 := Lib.hid (((D4.out.later hBV).keep (ht5.agree s1 (Nat.le_refl _))).more ht5.size)
  have E5 := Lib.hid (((E4.out.later hBV).keep (ht5.agree s1 (Nat.le_refl _))).more ht5.size)
  have R5 := Lib.hid hr5
  have T5 := Lib.hid ((T4.out.then hBV).trans ht5)
  have s5 := ht5.size
  have sV := hBV.size
  have sE := K5.out.lt
  clear hr5 ht5 N4 D4 E4 R4 T4 hBV bE
  go_upto_if 20 with fail
  go_cut [8] from 19 to 23 (fun s8 wx => ∃ (A : Option Addr) (c : Nat) (ds : List Int), s8 = .slice A ds.length c ∧ ds.length ≤ 4 ∧ Aside (Rows intC (some w1.heap.size) wx wx.heap.size A ds) ∧ Aside (Below w5.heap.size w5 wx))
  case first =>
    by_cases q : 0 < v5
    · have k5 := fun i => K5.out.cell i
      go_wp2_with fail
      refine (spec_l20Meet A3 c3 d x w1.heap.size w5 E5.out (by omega) (by omega)).mono ?_
      rintro e w6 ⟨A6, c6, d6, rfl, hl6, hrow6, hb6⟩
      have D6 := Lib.hid hrow6
      have B6 := Lib.hid hb6
      clear k5 hrow6 hb6
      go_wp2
      go_meet
      case rel => exact ⟨A6, c6, d6, by rw [hl6], by omega, D6.out, B6.out⟩
    · go_wp2
      go_meet
      case rel => exact ⟨A3, c3, d, rfl, hd4, E5.out, Below.refl _ _⟩
  case rest =>
    obtain ⟨Ad, cd, ds, rfl, hds, DC, BC⟩ := hcut
    have NC := Lib.hid (N5.out.later BC.out)
    have KC := Lib.hid (K5.out.later BC.out)
    have RC := Lib.hid (R5.out.low BC.out R5.out.lt)
    have TC := Lib.hid (D5.out.later BC.out)
    have UC := Lib.hid (T5.out.then BC.out)
    have sC := BC.out.size
    have HS : Hid (AskS w4.heap.size x wc.drew) := AskS.of KC.out
    have RCd : Hid (RdB wc.drew R _) := RC.out
    clear N5 K5 E5 R5 T5 D5
    go_wp2
    go_region_held3 (fun V : World => V.cell? ⟨w4.heap.size, 0, none⟩ = some (.int .i64 x.op) ∧ V.cell? ⟨w4.heap.size, 1, none⟩ = some (.int .i64 x.var) ∧ V.cell? ⟨w4.heap.size, 2, none⟩ = some (.int .i64 x.k)) (first | exact HS.out | exact HS6.out | exact AskS.of (((K6.out.far (p := ⟨w.heap.size, 0, none⟩) (show w4.heap.size ≠ w.heap.size by omega) _).far (p := ⟨w.heap.size, 1, none⟩) (show w4.heap.size ≠ w.heap.size by omega) _).far (p := ⟨w.heap.size, 2, none⟩) (show w4.heap.size ≠ w.heap.size by omega) _))
      (first
        | (go_at_call 78; refine (l20Rd_pick R _ 4 _ RCd.out (by omega) (by omega)).mono ?_; rintro e w6 ⟨v6, rfl, hv60, hv61, _, hr6, ht6⟩; have K6 : Hid (Bk w6 w4.heap.size 39 #[.int .i64 x.op, .int .i64 x.var, .int .i64 x.k]) := (show Bk wc.drew w4.heap.size 39 #[.int .i64 x.op, .int .i64 x.var, .int .i64 x.k] from KC.out).turned ht6 (by omega); have HS6 := Lib.hid (AskS.of K6.out); have N6 : Hid (Bk w6 w.heap.size 39 #[.int .i64 0, .int .i64 0, .int .i64 0]) := (show Bk wc.drew w.heap.size 39 #[.int .i64 0, .int .i64 0, .int .i64 0] from NC.out).turned ht6 (by omega); have nf6 := fun i => N6.out.frozen i; have nc6 := fun i => N6.out.cell i))
    have hWC : Turned R wc w6 := ⟨ht6.os, ht6.tape, ht6.output, ht6.size, ht6.block⟩
    have T6 := Lib.hid ((TC.out.keep (hWC.agree s1 (Nat.le_refl _))).more hWC.size)
    have D6 := Lib.hid ((DC.out.keep (hWC.agree s1 (Nat.le_refl _))).more hWC.size)
    have B6 := Lib.hid (B1.out.trans ((UC.out.trans hWC).below (show w.heap.size ≤ R by omega) B1.out.size))
    have bV := ((N6.out.set 0 (.int .i64 x.op)).set 1 (.int .i64 x.var)).set 2 (.int .i64 x.k)
    have BV := Lib.hid (((B6.out.setCell (p := ⟨w.heap.size, 0, none⟩) (Nat.le_refl _) (.int .i64 x.op)).setCell (p := ⟨w.heap.size, 1, none⟩) (Nat.le_refl _) (.int .i64 x.var)).setCell (p := ⟨w.heap.size, 2, none⟩) (Nat.le_refl _) (.int .i64 x.k))
    have hA6 : Agree (some w1.heap.size) w6.heap.size w6 (((w6.setCell ⟨w.heap.size, 0, none⟩ (.int .i64 x.op)).setCell ⟨w.heap.size, 1, none⟩ (.int .i64 x.var)).setCell ⟨w.heap.size, 2, none⟩ (.int .i64 x.k)) := fun b hb hlo => by
      have := hlo _ rfl
      rw [Below.heap_setCell _ _ _ b (by show b ≠ w.heap.size; omega), Below.heap_setCell _ _ _ b (by show b ≠ w.heap.size; omega), Below.heap_setCell _ _ _ b (by show b ≠ w.heap.size; omega)]
    have TV := Lib.hid ((T6.out.keep hA6).more (show w6.heap.size ≤ (((w6.setCell ⟨w.heap.size, 0, none⟩ (.int .i64 x.op)).setCell ⟨w.heap.size, 1, none⟩ (.int .i64 x.var)).setCell ⟨w.heap.size, 2, none⟩ (.int .i64 x.k)).heap.size by simp))
    have DV := Lib.hid ((D6.out.keep hA6).more (show w6.heap.size ≤ (((w6.setCell ⟨w.heap.size, 0, none⟩ (.int .i64 x.op)).setCell ⟨w.heap.size, 1, none⟩ (.int .i64 x.var)).setCell ⟨w.heap.size, 2, none⟩ (.int .i64 x.k)).heap.size by simp))
    clear T6 D6 B6 hA6 nf6 nc6 HS6 N6 K6
    generalize ((w6.setCell ⟨w.heap.size, 0, none⟩ (.int .i64 x.op)).setCell ⟨w.heap.size, 1, none⟩ (.int .i64 x.var)).setCell ⟨w.heap.size, 2, none⟩ (.int .i64 x.k) = V at *
    have kV := fun i => bV.cell i
    go_wp2
    refine bodyPost_ret (v := .tuple #[.slice A2 t.length c2, .slice Ad ds.length cd, .agg #[.int .i64 x.op, .int .i64 x.var, .int .i64 x.k], .int .i64 v6]) ?_ rfl ?_
    · simp [results, Try.results45, go_sem, kV]
    · exact ⟨A2, c2, t, Ad, cd, ds, x, v6, rfl, hl, S2.out, hds, TV.out.weak (Weaker.none _), DV.out.ints, BV.out⟩
end Go.Proofs.Ytnnhhmdeoedmmaa
