/- Rules drawn: l20Tree. -/
import Derived.Test.YtnnhhmdeoedmmaaDrawMeet
namespace Go.Proofs.Ytnnhhmdeoedmmaa
open Go.RowKit

/-- The question of rule j turned. -/
theorem OwnC.ask {w : World} {base g c : Nat} {t : List GRule} (h : OwnC ruleC 41 w base (.slice (some ⟨g, 0, none⟩) t.length c) t) {j : Nat} (hj : j < t.length) (y : GAsk) :
    OwnC ruleC 41 (putCells w g (j * 7) [.int .i64 y.op, .int .i64 y.var, .int .i64 y.k]) base (.slice (some ⟨g, 0, none⟩) t.length c) (t.set j { t[j] with ask := y }) := by
  have h1 := (h.set hj (i := 0) (by decide) (.int .i64 y.op) { t[j] with ask := { t[j].ask with op := y.op } } (fun lo B cs a1 a2 a3 a4 => by
    obtain ⟨A, c, rfl, hr⟩ := a4
    exact ⟨lo, B, a1, a2, a3, A, c, rfl, hr⟩)).1
  have l1 : (t.set j { t[j] with ask := { t[j].ask with op := y.op } }).length = t.length := by simp
  rw [← l1] at h1
  have h2 := (h1.set (j := j) (by rw [l1]; exact hj) (i := 1) (by decide) (.int .i64 y.var) { t[j] with ask := { y with k := t[j].ask.k } } (fun lo B cs a1 a2 a3 a4 => by
    rw [List.getElem_set_self] at a4
    obtain ⟨A, c, rfl, hr⟩ := a4
    exact ⟨lo, B, a1, by simpa [World.setCell] using a2, a3, A, c, rfl, hr⟩)).1
  rw [List.set_set, l1] at h2
  have l2 : (t.set j { t[j] with ask := { y with k := t[j].ask.k } }).length = t.length := by simp
  rw [← l2] at h2
  have h3 := (h2.set (j := j) (by rw [l2]; exact hj) (i := 2) (by decide) (.int .i64 y.k) { t[j] with ask := y } (fun lo B cs a1 a2 a3 a4 => by
    rw [List.getElem_set_self] at a4
    obtain ⟨A, c, rfl, hr⟩ := a4
    exact ⟨lo, B, a1, by simpa [World.setCell] using a2, a3, A, c, rfl, hr⟩)).1
  rw [List.set_set, l2] at h3
  exact h3

theorem canAdd_ok {t : List GRule} {d : List Int} {x : GAsk} {a : Int} (h : canAdd t d x a = true) : addOk t d x a = true ∧ clash t d x = false := by
  simp [canAdd] at h
  exact h
theorem patched_len (t : List GRule) (d : List Int) : (patched t d).length = t.length := by unfold patched; split <;> simp
theorem patched_stone {t : List GRule} {d : List Int} {n : Nat} (h : ∀ r ∈ t, r.stone.length ≤ n) : ∀ r ∈ patched t d, r.stone.length ≤ n := by
  unfold patched
  split
  · exact h
  · intro r hr
    rcases List.mem_or_eq_of_mem_set hr with h1 | h1
    · exact h r h1
    · rw [h1, (pointed_cells _ _ _).1]
      unfold rule
      rw [List.getD_eq_getElem?_getD]
      cases hq : t[(asked t d).toNat]? with
      | none => exact Nat.zero_le _
      | some y => exact h y (List.mem_of_getElem? hq)
theorem added_stone {t : List GRule} {d : List Int} {x : GAsk} {a : Int} {n : Nat} (h : ∀ r ∈ t, r.stone.length ≤ n) (hd : d.length ≤ n) : ∀ r ∈ added t d x a, r.stone.length ≤ n := fun r hr => by
  rcases List.mem_append.1 hr with h1 | h1
  · exact patched_stone h r h1
  · rw [List.mem_singleton.1 h1]; exact hd
theorem set_stone {t : List GRule} {j : Nat} {y : GRule} {n : Nat} (h : ∀ r ∈ t, r.stone.length ≤ n) (hy : y.stone.length ≤ n) : ∀ r ∈ t.set j y, r.stone.length ≤ n := fun r hr => by
  rcases List.mem_or_eq_of_mem_set hr with h1 | h1
  · exact h r h1
  · rw [h1]; exact hy

/-- What drawing rules leaves. -/
def DrawnT (R Q : Nat) (w : World) (e : Ending) (w' : World) : Prop :=
  ∃ A c t, e = .returned (.slice A (List.length (α := GRule) t) c) ∧ t.length ≤ 12 ∧ (∀ r ∈ t, r.stone.length ≤ 4) ∧ Rows ruleC (some w.heap.size) w' w'.heap.size A t ∧ RdB w' R Q ∧ Turned R w w'

/-- One cell of a drawn row of rules turned: it stays a row of rules. -/
theorem closeSet {R Q g c : Nat} {w V : World} {t : List GRule} (hO : OwnC ruleC 41 V w.heap.size (.slice (some ⟨g, 0, none⟩) t.length c) t) {j i : Nat} (hj : j < t.length) (hi : i < 7) (u : Value) (x' : GRule)
    (hR : ∀ lo B cs, w.heap.size ≤ lo → B ≤ V.heap.size → (g < lo ∨ B ≤ g) → ruleC.R (some lo) V B t[j] cs → ∃ lo' B', w.heap.size ≤ lo' ∧ B' ≤ V.heap.size ∧ (g < lo' ∨ B' ≤ g) ∧ ruleC.R (some lo') V B' x' (cs.set i u))
    (hl : t.length ≤ 12) (hs : ∀ r ∈ t, r.stone.length ≤ 4) (hx : x'.stone.length ≤ 4) (hr : RdB V R Q) (ht : Turned R w V) (hRw : R < w.heap.size) (hg : w.heap.size ≤ g) :
    DrawnT R Q w (.returned (.slice (some ⟨g, 0, none⟩) t.length c)) (V.setCell ⟨g, j * 7 + i, none⟩ u) := by
  have h1 := (hO.set hj (i := i) hi u x' hR).1
  have hlen : (t.set j x').length = t.length := by simp
  have h2 : OwnC ruleC 41 (V.setCell ⟨g, j * 7 + i, none⟩ u) w.heap.size (.slice (some ⟨g, 0, none⟩) (t.set j x').length c) (t.set j x') := by rw [hlen]; exact h1
  obtain ⟨A, c', hv, hrow⟩ := h2.rows (by rw [hlen]; omega)
  simp only [Value.slice.injEq, true_and] at hv
  obtain ⟨rfl, rfl⟩ := hv
  exact ⟨_, c, t.set j x', by rw [hlen], by rw [hlen]; exact hl, set_stone hs hx, hrow, hr.low ((Below.refl g V).setCell (p := ⟨g, j * 7 + i, none⟩) (Nat.le_refl _) u) (by omega), ht.trans' ((Below.refl w.heap.size V).setCell (p := ⟨g, j * 7 + i, none⟩) hg u)⟩
theorem closeAsk {R Q g c : Nat} {w V : World} {t : List GRule} (hO : OwnC ruleC 41 V w.heap.size (.slice (some ⟨g, 0, none⟩) t.length c) t) {j : Nat} (hj : j < t.length) (y : GAsk)
    (hl : t.length ≤ 12) (hs : ∀ r ∈ t, r.stone.length ≤ 4) (hr : RdB V R Q) (ht : Turned R w V) (hRw : R < w.heap.size) (hg : w.heap.size ≤ g) :
    DrawnT R Q w (.returned (.slice (some ⟨g, 0, none⟩) t.length c)) (putCells V g (j * 7) [.int .i64 y.op, .int .i64 y.var, .int .i64 y.k]) := by
  have h1 := hO.ask hj y
  have hlen : (t.set j { t[j] with ask := y }).length = t.length := by simp
  have h2 : OwnC ruleC 41 (putCells V g (j * 7) [.int .i64 y.op, .int .i64 y.var, .int .i64 y.k]) w.heap.size (.slice (some ⟨g, 0, none⟩) (t.set j { t[j] with ask := y }).length c) (t.set j { t[j] with ask := y }) := by rw [hlen]; exact h1
  obtain ⟨A, c', hv, hrow⟩ := h2.rows (by rw [hlen]; omega)
  simp only [Value.slice.injEq, true_and] at hv
  obtain ⟨rfl, rfl⟩ := hv
  exact ⟨_, c, t.set j { t[j] with ask := y }, by rw [hlen], by rw [hlen]; exact hl, set_stone hs (show t[j].stone.length ≤ 4 from hs t[j] (List.getElem_mem hj)), hrow, hr.low (bPut (g := g) _ (j * 7) (Below.refl g V) (Nat.le_refl _)) (by omega), ht.trans' (bPut (g := g) _ (j * 7) (Below.refl w.heap.size V) hg)⟩
/-- The cells of rule j of an owned row. -/
theorem own_cells {w : World} {base g c : Nat} {t : List GRule} (h : OwnC ruleC 41 w base (.slice (some ⟨g, 0, none⟩) t.length c) t) (hl : t.length ≤ 12) {j : Nat} (hj : j < t.length) :
    (∀ i, i < 7 → ∃ u, w.cell? ⟨g, j * 7 + i, none⟩ = some u) ∧ (∀ i, w.frozen? ⟨g, i, none⟩ = false) ∧ base ≤ g := by
  obtain ⟨A, c', hv, hrow⟩ := h.rows (by omega)
  simp only [Value.slice.injEq, true_and] at hv
  obtain ⟨rfl, rfl⟩ := hv
  obtain ⟨b, off, A3, c3, hA, hb, hr, hd0, hd1, hd2, hd3, hd4, hd5, hd6⟩ := rule_at hrow hj
  simp only [Option.some.injEq, Addr.mk.injEq, and_true] at hA
  obtain ⟨rfl, rfl⟩ := hA
  rw [Nat.zero_add] at hd0 hd1 hd2 hd3 hd4 hd5 hd6
  obtain ⟨g', c'', hv, hgb, _, hfr⟩ := h.form (by omega)
  simp only [Value.slice.injEq, Option.some.injEq, Addr.mk.injEq, and_true, true_and] at hv
  obtain ⟨rfl, rfl⟩ := hv
  refine ⟨fun i hi => ?_, hfr, hgb⟩
  rcases (by omega : i = 0 ∨ i = 1 ∨ i = 2 ∨ i = 3 ∨ i = 4 ∨ i = 5 ∨ i = 6) with rfl | rfl | rfl | rfl | rfl | rfl | rfl
  · exact ⟨_, hd0⟩
  · exact ⟨_, hd1⟩
  · exact ⟨_, hd2⟩
  · exact ⟨_, hd3⟩
  · exact ⟨_, hd4⟩
  · exact ⟨_, hd5⟩
  · exact ⟨_, hd6⟩

set_option maxRecDepth 100000 in
set_option maxHeartbeats 8000000 in
theorem l20Tree (R P : Nat) (n : Int) (w : World) (h : RdB w R P) (hP : P ≤ 100000) (hn : n ≤ 4611686018427387904) :
    Calls Try.prog 71 #[.pointer (some ⟨R, 0, none⟩), .int .i64 n] w (DrawnT R (P + 1000) w) := by
  have HR := Lib.hid h
  have HRlt := Lib.hid h.lt
  clear h
  go_enter Try.func71, Try.ntmps71
  go_wp2_with fail
  refine callsAt fun W hW => ?_
  have hB0 : Below w.heap.size w W := by rw [hW]; exact (Below.refl _ _).alloc (Nat.le_refl _) _
  have hO0 : OwnC ruleC 41 W w.heap.size (.slice (some ⟨w.heap.size, 0, none⟩) 0 0) [] := by rw [hW]; exact OwnC.made (Nat.le_refl _) 0 #[] (by decide) rfl
  clear hW
  refine (l20Rd_pick R P 7 _ (HR.out.low hB0 HRlt.out) (by omega) (by omega)).mono ?_
  rintro e w1 ⟨v1, rfl, hv10, hv11, _, hr1, ht1⟩
  have O1 := Lib.hid (hO0.kept (Kept.of_turned ht1 HRlt.out))
  have T1 := Lib.hid ((Turned.of_below hB0).trans ht1)
  have R1 := Lib.hid hr1
  obtain ⟨k1, rfl⟩ := Int.eq_ofNat_of_zero_le hv10
  have hk16 : k1 ≤ 6 := by omega
  clear hB0 hO0 hr1 ht1 hv10 hv11
  go_wp2
  go_loopg [5, 6, 7, 8, 9, 10] 6 (fun gg s5 s6 _ _ _ _ wr => ∃ (k : Nat) (t : List GRule), k ≤ gg ∧ k ≤ 6 ∧ s6 = .int .i64 k ∧ t.length + k ≤ 6 ∧ Aside (OwnC ruleC 41 wr w.heap.size s5 t) ∧ Aside (∀ r ∈ t, r.stone.length ≤ 4) ∧ Aside (Turned R w wr) ∧ Aside (RdB wr R (P + 1 + 60 * (6 - k))))
  case atStart => exact ⟨k1, [], by omega, by omega, rfl, by simp; omega, O1.out, by show ∀ r ∈ ([] : List GRule), _; simp, T1.out, R1.out.mono (by omega)⟩
  case round =>
    obtain ⟨k, t, hg, hk, rfl, hkl, OW, SM, TW, RW⟩ := hrel
    have hs0 := TW.out.size
    by_cases hlt : 0 < k
    · have hltz : (0 : Int) < (k : Int) := by omega
      go_wp2_with fail
      refine (l20Data R _ 9999 _ RW.out (by omega) (by omega)).mono ?_
      rintro e w2 ⟨A2, c2, d, rfl, hd2, hd4, hrow2, hr2, ht2⟩
      have O2 := Lib.hid (OW.out.kept (Kept.of_turned ht2 HRlt.out))
      have T2 := Lib.hid (TW.out.trans ht2)
      have R2 := Lib.hid hr2
      have D2 := Lib.hid (hrow2.weak (Weaker.some (lo' := w.heap.size) hs0))
      have hs2 := T2.out.size
      clear hrow2 hr2 ht2
      go_wp2_with fail
      refine (l20Ask R _ 9999 _ R2.out (by omega) (by omega)).mono ?_
      rintro e w3 ⟨x, rfl, hr3, ht3⟩
      have O3 := Lib.hid (O2.out.kept (Kept.of_turned ht3 HRlt.out))
      have T3 := Lib.hid (T2.out.trans ht3)
      have R3 := Lib.hid hr3
      have D3 := Lib.hid ((D2.out.keep (ht3.agree HRlt.out (Nat.le_refl _))).more ht3.size)
      have hs3 := T3.out.size
      clear hr3 ht3 O2 T2 R2 D2
      go_wp2_with fail
      refine callsAt fun V hV => ?_
      have hBV : Below w3.heap.size w3 V := by rw [hV]; go_grown
      have bE : Bk V w3.heap.size 39 #[.int .i64 x.op, .int .i64 x.var, .int .i64 x.k] := by
        rw [hV]
        exact Bk.new rfl
      clear hV
      have OV := Lib.hid (O3.out.later hBV)
      have TV := Lib.hid (T3.out.then hBV)
      have RV := Lib.hid (R3.out.low hBV R3.out.lt)
      have DV := Lib.hid (D3.out.later hBV)
      have EV := Lib.hid bE
      clear hBV bE O3 T3 R3 D3
      refine (spec_ExpHolds x A2 c2 d V DV.out.ints).mono ?_
      rintro e w4 ⟨rfl, hb4⟩
      have O4 := Lib.hid (OV.out.later hb4)
      have T4 := Lib.hid (TV.out.then hb4)
      have R4 := Lib.hid (RV.out.low hb4 RV.out.lt)
      have D4 := Lib.hid (DV.out.later hb4)
      have E4 := Lib.hid (EV.out.later hb4)
      have hs4 := T4.out.size
      clear hb4 OV TV RV DV EV
      go_upto_if 26 with fail
      go_cut [7] from 25 to 40 (fun s7 wx => ∃ (A : Option Addr) (c : Nat) (ds : List Int), s7 = .slice A ds.length c ∧ ds.length ≤ 4 ∧ Aside (Rows intC (some w.heap.size) wx wx.heap.size A ds) ∧ Aside (Below w4.heap.size w4 wx))
      case first =>
        cases q : holds x d with
        | true =>
          go_wp2
          go_meet
          case rel => exact ⟨A2, c2, d, rfl, hd4, D4.out, Below.refl _ _⟩
        | false =>
          have k4 := fun i => E4.out.cell i
          go_wp2_with fail
          refine (spec_l20Meet A2 c2 d x w.heap.size w4 D4.out hs4 (by omega)).mono ?_
          rintro e w5 ⟨A5, c5, d5, rfl, hl5, hrow5, hb5⟩
          have D5 := Lib.hid hrow5
          have B5 := Lib.hid hb5
          clear k4 hrow5 hb5
          go_wp2
          go_meet
          case rel => exact ⟨A5, c5, d5, by rw [hl5], by omega, D5.out, B5.out⟩
      case rest =>
        obtain ⟨Ad, cd, ds, rfl, hds, DC, BC⟩ := hcut
        have OC := Lib.hid (O4.out.later BC.out)
        have TC := Lib.hid (T4.out.then BC.out)
        have RC := Lib.hid (R4.out.low BC.out R4.out.lt)
        have EC := Lib.hid (E4.out.later BC.out)
        have hsC := TC.out.size
        have hEW : w.heap.size ≤ w3.heap.size := hs3
        obtain ⟨At, ct, rfl, hrt⟩ := OC.out.rows (by omega)
        have HRT := Lib.hid hrt
        have HS : Hid (AskS w3.heap.size x wc.drew) := AskS.of EC.out
        have RCd : Hid (RdB wc.drew R (P + 1 + 60 * (6 - k) + 20 + 20)) := RC.out
        have hRE : R < w3.heap.size := by have := HRlt.out; omega
        have hEC : w3.heap.size < wc.heap.size := EC.out.lt
        clear hrt O4 T4 R4 D4 E4
        go_wp2
        go_region_held3 (fun V : World => V.cell? ⟨w3.heap.size, 0, none⟩ = some (.int .i64 x.op) ∧ V.cell? ⟨w3.heap.size, 1, none⟩ = some (.int .i64 x.var) ∧ V.cell? ⟨w3.heap.size, 2, none⟩ = some (.int .i64 x.k)) (first | exact HS.out | exact HS6.out | exact HS7.out)
          (first
            | (go_at_call 78; refine (l20Rd_pick R _ 3 _ RCd.out (by omega) (by omega)).mono ?_; rintro e w6 ⟨v6, rfl, hv60, hv61, _, hr6, ht6⟩; have hs6 : wc.heap.size ≤ w6.heap.size := ht6.size; have HS6 : Hid (AskS w3.heap.size x w6) := AskS.of ((show Bk wc.drew w3.heap.size 39 #[.int .i64 x.op, .int .i64 x.var, .int .i64 x.k] from EC.out).turned ht6 (by omega)); have HT6 := Lib.hid ((HRT.out.keep ((show Turned R wc w6 from ⟨ht6.os, ht6.tape, ht6.output, ht6.size, ht6.block⟩).agree HRlt.out (Nat.le_refl _))).more hs6); have HD6 := Lib.hid ((DC.out.keep ((show Turned R wc w6 from ⟨ht6.os, ht6.tape, ht6.output, ht6.size, ht6.block⟩).agree HRlt.out (Nat.le_refl _))).more hs6); have SM6 := Lib.hid (fun r hr => Nat.le_trans (SM.out r hr) (show 4 ≤ 1048576 by omega)))
            | (go_at_call 47; refine (spec_RdrAdd At Ad ct cd t ds x v6 _ w6 HT6.out HD6.out.ints (by omega) SM6.out (by omega)).mono ?_; rintro e w7 ⟨v7, rfl, ho7, hb7⟩; have HS7 := Lib.hid (HS6.out.low hb7 (by omega))))
        have hWC : Turned R wc w6 := ⟨ht6.os, ht6.tape, ht6.output, ht6.size, ht6.block⟩
        have O6 := Lib.hid (OC.out.kept (Kept.of_turned hWC HRlt.out))
        have T7 := Lib.hid ((TC.out.trans hWC).then hb7)
        have R7 := Lib.hid ((hr6.low hb7 hr6.lt).mono (show _ ≤ P + 1 + 60 * (6 - (k - 1)) by omega))
        cases q : canAdd t ds x v6 with
        | false =>
          have O7 := Lib.hid (O6.out.later hb7)
          clear ho7
          go_wp2
          go_roundg (k - 1)
          case measure => omega
          case rel => exact ⟨k - 1, t, by omega, by omega, by go_num, by omega, O7.out, SM.out, T7.out, R7.out⟩
        | true =>
          have HA : Hid (rdrAdd t ds x v6 = added t ds x v6) := by show _ = _; unfold rdrAdd; rw [q]; rfl
          have O7 := Lib.hid (ho7.low (show w.heap.size ≤ w6.heap.size by omega))
          rw [HA.out] at O7
          have hal : (added t ds x v6).length = t.length + 1 := by unfold added; rw [List.length_append, patched_len]; rfl
          have HAL := Lib.hid hal
          clear ho7 hal
          go_wp2
          go_roundg (k - 1)
          case measure => omega
          case rel => exact ⟨k - 1, added t ds x v6, by omega, by omega, by go_num, by rw [HAL.out]; omega, O7.out, added_stone SM.out hds, T7.out, R7.out⟩
    · have hltz : ¬ (0 : Int) < (k : Int) := by omega
      have HT6 : Hid (t.length ≤ 6) := by show _ ≤ _; omega
      obtain ⟨At, ct, rfl, _⟩ := OW.out.rows (by have := HT6.out; omega)
      go_wp2_with fail
      refine (l20Rd_pick R _ n _ RW.out (by omega) hn).mono ?_
      rintro e w2 ⟨v2, rfl, hv20, _, _, hr2, ht2⟩
      have O2 := Lib.hid (OW.out.kept (Kept.of_turned ht2 HRlt.out))
      have T2 := Lib.hid (TW.out.trans ht2)
      have R2 := Lib.hid (hr2.mono (show _ ≤ P + 400 by omega))
      have hs2 := T2.out.size
      clear hr2 ht2 OW TW RW
      have HRET : Hid (∀ V v, OwnC ruleC 41 V w.heap.size v t → RdB V R (P + 1000) → Turned R w V → DrawnT R (P + 1000) w (.returned v) V) := fun V v h1 h2 h3 => by
        obtain ⟨A, c, rfl, hr⟩ := h1.rows (by have := HT6.out; omega)
        exact ⟨A, c, t, rfl, by have := HT6.out; omega, SM.out, hr, h2, h3⟩
      by_cases h2 : 0 < v2
      · have b2 : (0 : Int) < v2 := h2
        have HE := Lib.hid (HRET.out w2 _ O2.out (R2.out.mono (by omega)) T2.out)
        go_wp2
        go_ret
        exact HE.out
      · by_cases h0 : t.length = 0
        · have b2 : ¬ (0 : Int) < v2 := h2
          have hz : ((t.length : Int) == 0) = true := by simp [h0]
          have HE := Lib.hid (HRET.out w2 _ O2.out (R2.out.mono (by omega)) T2.out)
          clear h0
          go_wp2
          go_ret
          exact HE.out
        · have b2 : ¬ (0 : Int) < v2 := h2
          have hz : ((t.length : Int) == 0) = false := by rw [beq_eq_false_iff_ne]; omega
          have HPOS : Hid (0 < t.length) := by show _ < _; omega
          have ht12 := HT6.out
          clear h0
          go_wp2_with fail
          refine (l20Rd_pick R _ t.length _ R2.out (by omega) (by omega)).mono ?_
          rintro e w3 ⟨v3, rfl, hv30, hv31, _, hr3, ht3⟩
          obtain ⟨j, rfl⟩ := Int.eq_ofNat_of_zero_le hv30
          have hjl : j < t.length := by have := HPOS.out; have := hv31 (by omega); omega
          have hjz : (j : Int) < (t.length : Int) := by omega
          have O3 := Lib.hid (O2.out.kept (Kept.of_turned ht3 HRlt.out))
          have T3 := Lib.hid (T2.out.trans ht3)
          have R3 := Lib.hid hr3
          clear hr3 ht3 hv31 O2 T2 R2 hz b2 h2
          go_wp2_with fail
          refine (l20Rd_pick R _ 5 _ R3.out (by omega) (by omega)).mono ?_
          rintro e w4 ⟨v4, rfl, hv40, hv41, _, hr4, ht4⟩
          have O4 := Lib.hid (O3.out.kept (Kept.of_turned ht4 HRlt.out))
          have T4 := Lib.hid (T3.out.trans ht4)
          have R4 := Lib.hid hr4
          have hs4 := T4.out.size
          obtain ⟨g, cg, hv, _⟩ := O4.out.form HPOS.out
          simp only [Value.slice.injEq, true_and] at hv
          obtain ⟨rfl, rfl⟩ := hv
          clear hr4 ht4 O3 T3 R3
          rcases (by omega : v4 = 0 ∨ v4 = 1 ∨ v4 = 2 ∨ v4 = 3 ∨ v4 = 4) with rfl | rfl | rfl | rfl | rfl
          · skip
            go_wp2_with fail
            refine callsAt fun W5 hW5 => ?_
            have bL : Bk W5 w4.heap.size 3 (iv [0, 9, (j : Int), -1]).toArray := by rw [hW5]; exact Bk.new rfl
            have hB5 : Below w4.heap.size w4 W5 := by rw [hW5]; exact (Below.refl _ _).alloc (Nat.le_refl _) _
            clear hW5
            refine (l20Rd_pick R _ 4 _ (R4.out.low hB5 R4.out.lt) (by omega) (by omega)).mono ?_
            rintro e w6 ⟨v6, rfl, hv60, hv61, _, hr6, ht6⟩
            obtain ⟨k6, rfl⟩ := Int.eq_ofNat_of_zero_le hv60
            have hk6 : (k6 : Int) < 4 := by omega
            obtain ⟨z6, hz6⟩ := lit_at (bL.turned ht6 (by have := R4.out.lt; omega)) (k := k6) (by simp; omega)
            have O6 := Lib.hid ((O4.out.later hB5).kept (Kept.of_turned ht6 HRlt.out))
            have T6 := Lib.hid ((T4.out.then hB5).trans ht6)
            have R6 := Lib.hid (hr6.mono (show _ ≤ P + 1000 by omega))
            clear bL hB5 hr6 ht6 hv61
            obtain ⟨hc, hfr, hgb⟩ := own_cells O6.out (by have := HT6.out; omega) hjl
            obtain ⟨u, hu⟩ := hc 3 (by omega)
            have HE := Lib.hid (closeSet O6.out hjl (i := 3) (by omega) (.int .i64 z6) { t[j] with yes := z6 } (fun lo B cs a1 a2 a3 a4 => by
              obtain ⟨A, c, rfl, hr⟩ := a4
              exact ⟨lo, B, a1, a2, a3, A, c, rfl, hr⟩) (by have := HT6.out; omega) SM.out (show t[j].stone.length ≤ 4 from SM.out t[j] (List.getElem_mem hjl)) R6.out T6.out HRlt.out hgb)
            clear hc
            go_wp2
            go_ret
            exact HE.out
          · skip
            go_wp2_with fail
            refine callsAt fun W5 hW5 => ?_
            have bL : Bk W5 w4.heap.size 3 (iv [0, 9, (j : Int), -1]).toArray := by rw [hW5]; exact Bk.new rfl
            have hB5 : Below w4.heap.size w4 W5 := by rw [hW5]; exact (Below.refl _ _).alloc (Nat.le_refl _) _
            clear hW5
            refine (l20Rd_pick R _ 4 _ (R4.out.low hB5 R4.out.lt) (by omega) (by omega)).mono ?_
            rintro e w6 ⟨v6, rfl, hv60, hv61, _, hr6, ht6⟩
            obtain ⟨k6, rfl⟩ := Int.eq_ofNat_of_zero_le hv60
            have hk6 : (k6 : Int) < 4 := by omega
            obtain ⟨z6, hz6⟩ := lit_at (bL.turned ht6 (by have := R4.out.lt; omega)) (k := k6) (by simp; omega)
            have O6 := Lib.hid ((O4.out.later hB5).kept (Kept.of_turned ht6 HRlt.out))
            have T6 := Lib.hid ((T4.out.then hB5).trans ht6)
            have R6 := Lib.hid (hr6.mono (show _ ≤ P + 1000 by omega))
            clear bL hB5 hr6 ht6 hv61
            obtain ⟨hc, hfr, hgb⟩ := own_cells O6.out (by have := HT6.out; omega) hjl
            obtain ⟨u, hu⟩ := hc 4 (by omega)
            have HE := Lib.hid (closeSet O6.out hjl (i := 4) (by omega) (.int .i64 z6) { t[j] with no := z6 } (fun lo B cs a1 a2 a3 a4 => by
              obtain ⟨A, c, rfl, hr⟩ := a4
              exact ⟨lo, B, a1, a2, a3, A, c, rfl, hr⟩) (by have := HT6.out; omega) SM.out (show t[j].stone.length ≤ 4 from SM.out t[j] (List.getElem_mem hjl)) R6.out T6.out HRlt.out hgb)
            clear hc
            go_wp2
            go_ret
            exact HE.out
          · skip
            go_wp2_with fail
            refine callsAt fun W5 hW5 => ?_
            have bL : Bk W5 w4.heap.size 3 (iv [-1, 3]).toArray := by rw [hW5]; exact Bk.new rfl
            have hB5 : Below w4.heap.size w4 W5 := by rw [hW5]; exact (Below.refl _ _).alloc (Nat.le_refl _) _
            clear hW5
            refine (l20Rd_pick R _ 2 _ (R4.out.low hB5 R4.out.lt) (by omega) (by omega)).mono ?_
            rintro e w6 ⟨v6, rfl, hv60, hv61, _, hr6, ht6⟩
            obtain ⟨k6, rfl⟩ := Int.eq_ofNat_of_zero_le hv60
            have hk6 : (k6 : Int) < 2 := by omega
            obtain ⟨z6, hz6⟩ := lit_at (bL.turned ht6 (by have := R4.out.lt; omega)) (k := k6) (by simp; omega)
            have O6 := Lib.hid ((O4.out.later hB5).kept (Kept.of_turned ht6 HRlt.out))
            have T6 := Lib.hid ((T4.out.then hB5).trans ht6)
            have R6 := Lib.hid (hr6.mono (show _ ≤ P + 1000 by omega))
            clear bL hB5 hr6 ht6 hv61
            obtain ⟨hc, hfr, hgb⟩ := own_cells O6.out (by have := HT6.out; omega) hjl
            obtain ⟨u, hu⟩ := hc 5 (by omega)
            have HE := Lib.hid (closeSet O6.out hjl (i := 5) (by omega) (.int .i64 z6) { t[j] with ans := z6 } (fun lo B cs a1 a2 a3 a4 => by
              obtain ⟨A, c, rfl, hr⟩ := a4
              exact ⟨lo, B, a1, a2, a3, A, c, rfl, hr⟩) (by have := HT6.out; omega) SM.out (show t[j].stone.length ≤ 4 from SM.out t[j] (List.getElem_mem hjl)) R6.out T6.out HRlt.out hgb)
            clear hc
            go_wp2
            go_ret
            exact HE.out
          · go_wp2_with fail
            refine (l20Data R _ 2 _ R4.out (by omega) (by omega)).mono ?_
            rintro e w6 ⟨A6, c6, d, rfl, hd2, hd4, hrow6, hr6, ht6⟩
            have O6 := Lib.hid (O4.out.kept (Kept.of_turned ht6 HRlt.out))
            have hgl := (O4.out.form HPOS.out)
            have T6 := Lib.hid (T4.out.trans ht6)
            have R6 := Lib.hid (hr6.mono (show _ ≤ P + 1000 by omega))
            have D6 := Lib.hid hrow6
            obtain ⟨g', c', hv, _, hgl, _⟩ := hgl
            simp only [Value.slice.injEq, Option.some.injEq, Addr.mk.injEq, and_true, true_and] at hv
            obtain ⟨rfl, rfl⟩ := hv
            clear hrow6 hr6 ht6
            obtain ⟨hc, hfr, hgb⟩ := own_cells O6.out (by have := HT6.out; omega) hjl
            obtain ⟨u, hu⟩ := hc 6 (by omega)
            have HE := Lib.hid (closeSet O6.out hjl (i := 6) (by omega) (.slice A6 d.length c6) { t[j] with stone := d } (fun lo B cs a1 a2 a3 a4 => by
              obtain ⟨A, c, rfl, hr⟩ := a4
              exact ⟨w4.heap.size, w6.heap.size, hs4, Nat.le_refl _, .inl hgl, A6, c6, rfl, D6.out⟩) (by have := HT6.out; omega) SM.out hd4 R6.out T6.out HRlt.out hgb)
            clear hc
            go_wp2
            go_ret
            exact HE.out
          · go_wp2_with fail
            refine (l20Ask R _ 2 _ R4.out (by omega) (by omega)).mono ?_
            rintro e w6 ⟨x, rfl, hr6, ht6⟩
            have O6 := Lib.hid (O4.out.kept (Kept.of_turned ht6 HRlt.out))
            have T6 := Lib.hid (T4.out.trans ht6)
            have R6 := Lib.hid (hr6.mono (show _ ≤ P + 1000 by omega))
            clear hr6 ht6
            obtain ⟨hc, hfr, hgb⟩ := own_cells O6.out (by have := HT6.out; omega) hjl
            have HC := Lib.hid (fun i (hi : i < 3) => hc i (by omega))
            have HFR := Lib.hid hfr
            have HE := Lib.hid (closeAsk O6.out hjl x (by have := HT6.out; omega) SM.out R6.out T6.out HRlt.out hgb)
            have hst : ∀ v ∈ ([.int .i64 x.op, .int .i64 x.var, .int .i64 x.k] : List Value), v.oneCell' = true := by simp [Value.oneCell']
            have HST := Lib.hid hst
            have hth : ∀ i, i < ([.int .i64 x.op, .int .i64 x.var, .int .i64 x.k] : List Value).length → (w6.cell? ⟨g, j * 7 + i, none⟩).isSome = true := fun i hi => by
              obtain ⟨u, hu⟩ := HC.out i (by simpa using hi)
              rw [hu]; rfl
            have HTH := Lib.hid hth
            clear hc hfr hst hth
            go_wp2_with (refine wpList_store_agg rfl 39 (.tmp 62) (.tmp 60) rfl g (j * 7) [.int .i64 x.op, .int .i64 x.var, .int .i64 x.k] ?_ ?_ ?_ ?_ ?_ ?_ ?_; rfl; rfl; kernel_rfl; exact HTH.out; exact HFR.out; exact HST.out)
            go_ret
            exact HE.out
end Go.Proofs.Ytnnhhmdeoedmmaa
