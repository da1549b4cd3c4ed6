/- All the ways of a task: spec.SplAll. -/
import Derived.Test.YtkkjljpokannkaaWaysI
namespace Go.Proofs.Ytkkjljpokannkaa
open Go.RowKit
set_option linter.unusedSimpArgs false
set_option linter.unusedVariables false

theorem many_pos (m : Nat) (h1 : 1 ≤ m) (h8 : m < 8) : 1 ≤ manyTo m 3 := by
  rcases (by omega : m = 1 ∨ m = 2 ∨ m = 3 ∨ m = 4 ∨ m = 5 ∨ m = 6 ∨ m = 7) with rfl | rfl | rfl | rfl | rfl | rfl | rfl <;> decide
theorem many_yes {m i : Nat} (h : bitOf m i = true) : manyTo m (i + 1) = manyTo m i + 1 := by rw [manyTo, if_pos h]
theorem many_no {m i : Nat} (h : bitOf m i = false) : manyTo m (i + 1) = manyTo m i := by rw [manyTo, if_neg (by simp [h])]
theorem half (m i : Nat) : m / 2 ^ (i + 1) = m / 2 ^ i / 2 := by rw [Nat.pow_succ, Nat.div_div_eq_div_mul]
theorem waysS_yes {t : GTask} {m : Nat} (h : decide ((rowTo t.out (m + 1) 3).length = manyTo (m + 1) 3) = true) (h2 : fitWay t (rowTo t.out (m + 1) 3) = true) : waysS t (m + 1) = waysS t m ++ [rowTo t.out (m + 1) 3] := by rw [waysS, if_pos (by rw [h, h2]; rfl)]
theorem waysS_no {t : GTask} {m : Nat} (h : decide ((rowTo t.out (m + 1) 3).length = manyTo (m + 1) 3) = false ∨ fitWay t (rowTo t.out (m + 1) 3) = false) : waysS t (m + 1) = waysS t m := by
  rw [waysS, if_neg]
  rcases h with h | h
  · rw [h]; simp
  · rw [h]; simp

set_option maxRecDepth 100000 in
set_option maxHeartbeats 4000000 in
theorem spec_l8Ways (x : GTask) (A1 : Option Addr) (c1 : Nat) (A2 : Option Addr) (c2 : Nat) (A3 : Option Addr) (c3 : Nat) (mo : Option Nat) (w : World)
    (hx : Rows flowC mo w w.heap.size A2 x.out) (h3 : x.out.length ≤ 3) :
    Calls Try.prog 111 #[.agg (taskV x A1 c1 A2 c2 A3 c3)] w (GivesSS (waysS x 7) w) := by
  have hxl := hx.1
  have HX := Lib.hid hx
  clear hx
  obtain ⟨sp, hsp⟩ : ∃ sp, sp = x.split := ⟨_, rfl⟩
  have HSP : Hid (x.split = sp) := hsp.symm
  unfold taskV
  rw [← hsp]
  clear hsp
  go_enter Try.func111, Try.ntmps111
  go_wp2
  generalize hW : World.alloc (World.alloc w _) _ = W
  have P0 : Hid (Bk W w.heap.size 42 #[.int .i64 x.join, .int .i64 sp, .slice A1 x.inn.length c1, .slice A2 x.out.length c2, .slice A3 x.clear.length c3, .int .i64 x.role, .int .i64 x.apart, .int .i64 x.all, .int .i64 x.need]) := by show Bk _ _ _ _; rw [← hW]; exact (Bk.new rfl).alloc _
  have B : Hid (Below w.heap.size w W) := by show Below _ _ _; rw [← hW]; go_grown
  have O0 : Hid (OwnC rowC 23 W (w.heap.size + 1) (.slice (some ⟨w.heap.size + 1, 0, none⟩) 0 0) []) := by
    show OwnC _ _ _ _ _ _
    rw [← hW]
    have h := OwnC.made (C := rowC) (e := 23) (base := w.heap.size + 1) (w := w.alloc (.cells #[.int .i64 x.join, .int .i64 sp, .slice A1 x.inn.length c1, .slice A2 x.out.length c2, .slice A3 x.clear.length c3, .int .i64 x.role, .int .i64 x.apart, .int .i64 x.all, .int .i64 x.need] 42)) (by simp) 0 #[] (by decide) rfl
    simpa using h
  clear hW
  go_loopg [3, 4, 5, 6, 7, 8, 9] 8 (fun gg s3 s4 _ _ _ _ _ wr => ∃ (m : Nat) (l : List (List Int × Nat)), m < 8 ∧ 8 - m ≤ gg ∧ s4 = .int .i64 ((m : Int) + 1) ∧ Aside (Below w.heap.size w wr) ∧ Aside (Bk wr w.heap.size 42 #[.int .i64 x.join, .int .i64 sp, .slice A1 x.inn.length c1, .slice A2 x.out.length c2, .slice A3 x.clear.length c3, .int .i64 x.role, .int .i64 x.apart, .int .i64 x.all, .int .i64 x.need]) ∧ Aside (SoFar (w.heap.size + 1) s3 l (waysS x m) wr))
  case atStart => exact ⟨0, [], by omega, by omega, rfl, B.out, P0.out, O0.out, rfl, List.Pairwise.nil, fun p hp => by cases hp⟩
  case round =>
    obtain ⟨m, l, hm, hg, rfl, BW, PW, OW⟩ := hrel
    obtain ⟨wr0, hwr0⟩ : ∃ V, V = wr := ⟨_, rfl⟩
    subst hwr0
    have LN : Hid (l.length ≤ m) := by show _ ≤ _; have h1 := waysS_len x m; rw [← OW.out.map, List.length_map] at h1; exact h1
    by_cases hlt : m + 1 < 8
    · have hltz : (m : Int) + 1 < 8 := by omega
      go_wp2
      generalize hV : World.alloc wr0 _ = V
      have hBV : Below wr0.heap.size wr0 V := by rw [← hV]; exact (Below.refl _ _).alloc (Nat.le_refl _) _
      have RO : Hid (OwnV V wr0.heap.size (.slice (some ⟨wr0.heap.size, 0, none⟩) 0 0) []) := by
        show OwnV _ _ _ _
        rw [← hV]
        have h := OwnV.made' (w := wr0) (base := wr0.heap.size) (Nat.le_refl _)
        simpa using h
      have BV0 := Lib.hid hBV
      clear hV hBV
      go_loopg [5, 6, 7, 8] 3 (fun gg s5 s6 s7 s8 wr => ∃ i : Nat, i ≤ 3 ∧ 3 - i ≤ gg ∧ s8 = .int .i64 i ∧ s6 = .int .i64 (((m + 1) / 2 ^ i : Nat) : Int) ∧ s7 = .int .i64 ((manyTo (m + 1) i : Nat) : Int) ∧ Aside (Below wr0.heap.size wr0 wr) ∧ Aside (OwnV wr wr0.heap.size s5 (rowTo x.out (m + 1) i)))
      case atStart => exact ⟨0, by omega, by omega, rfl, by simp, rfl, BV0.out, RO.out⟩
      case round =>
        obtain ⟨i, hi, hgi, rfl, rfl, rfl, BV, RV⟩ := hrel
        have hrl := rowTo_len x.out (m + 1) i
        have hml := manyTo_le (m + 1) i
        obtain ⟨A5, c5, hv5, _⟩ := RV.out.form
        subst hv5
        have z2 := BV.out.size
        by_cases hil : i < 3
        · have hilz : (i : Int) < 3 := by omega
          have HQ := Lib.hid (half (m + 1) i)
          have HB : Hid (bitOf (m + 1) i = ((m + 1) / 2 ^ i % 2 == 1)) := (rfl : bitOf (m + 1) i = _)
          have k0 := fun j => (PW.out.later BV.out).cell j
          obtain ⟨q, hq⟩ : ∃ q, q = (m + 1) / 2 ^ i := ⟨_, rfl⟩
          have hq8 : q ≤ 8 := by rw [hq]; exact Nat.le_trans (Nat.div_le_self _ _) (by omega)
          rw [← hq] at HQ HB ⊢
          obtain ⟨y, hy⟩ : ∃ y, y = manyTo (m + 1) i := ⟨_, rfl⟩
          have HY := Lib.hid hy
          rw [← hy] at hml ⊢
          clear hy hq
          cases hbt : bitOf (m + 1) i with
          | true =>
            have HM := Lib.hid (many_yes hbt)
            have hq2 : q % 2 = 1 := by have := HB.out; rw [hbt] at this; simpa using this.symm
            have hqz : ((q : Int) % 2 == 1) = true := by simp; omega
            by_cases hio : i < x.out.length
            · have hioz : (i : Int) < (x.out.length : Int) := by omega
              have HF1 : Hid (x.out.getD i flow0 = x.out[i]) := getD_get hio
              have HE := Lib.hid (row_yes hbt hio)
              obtain ⟨b, off, hA2, hb, hc0, hc1, hc2, hc3⟩ := flow_at (HX.out.later (BW.out.trans (BV.out.mono BW.out.size))) hio
              generalize x.out[i] = f at HF1 hc0 hc1 hc2 hc3
              obtain ⟨fto, fop, fvar, fk⟩ := f
              subst hA2
              clear hbt HB hc1 hc2 hc3
              go_wp2_with (at_builtin; refine append_int rfl (.tmp 31) (.tmp 38) rfl wr0.heap.size _ _ rfl (RV.out.alloc _) wr.heap.size fto rfl (by simp) (by omega) (by simp; omega) ?_; intro v' w2 hown2 hb2; have HO2 := Lib.hid hown2; have HB2 := Lib.hid hb2; clear hown2 hb2)
              go_roundg (3 - (i + 1))
              case measure => omega
              case rel => exact ⟨i + 1, by omega, by omega, by go_num, by rw [HQ.out]; go_num, by rw [HM.out, ← HY.out]; go_num, (BV.out.alloc BV.out.size _).trans HB2.out, by show OwnV _ _ _ _; rw [HE.out, HF1.out]; exact HO2.out⟩
            · have hioz : ¬ (i : Int) < (x.out.length : Int) := by omega
              have HE := Lib.hid (row_no (fs := x.out) (m := m + 1) (i := i) (.inr (by omega)))
              clear hbt HB
              go_wp2
              go_roundg (3 - (i + 1))
              case measure => omega
              case rel => exact ⟨i + 1, by omega, by omega, by go_num, by rw [HQ.out]; go_num, by rw [HM.out, ← HY.out]; go_num, BV.out, by show OwnV _ _ _ _; rw [HE.out]; exact RV.out⟩
          | false =>
            have HM := Lib.hid (many_no hbt)
            have HE := Lib.hid (row_no (fs := x.out) (.inl hbt))
            have hq2 : ¬ q % 2 = 1 := by have := HB.out; rw [hbt] at this; simpa using this.symm
            have hqz : ((q : Int) % 2 == 1) = false := by rw [beq_eq_false_iff_ne]; omega
            clear hbt HB
            go_wp2
            go_roundg (3 - (i + 1))
            case measure => omega
            case rel => exact ⟨i + 1, by omega, by omega, by go_num, by rw [HQ.out]; go_num, by rw [HM.out, ← HY.out], BV.out, by show OwnV _ _ _ _; rw [HE.out]; exact RV.out⟩
        · have hilz : ¬ (i : Int) < 3 := by omega
          obtain rfl : i = 3 := by omega
          have hmp := many_pos (m + 1) (by omega) (by omega)
          obtain ⟨r, hr⟩ : ∃ r, r = rowTo x.out (m + 1) 3 := ⟨_, rfl⟩
          have HR : Hid (rowTo x.out (m + 1) 3 = r) := hr.symm
          rw [← hr] at hrl RV ⊢
          clear hr
          obtain ⟨q, hq⟩ : ∃ q, q = (m + 1) / 2 ^ 3 := ⟨_, rfl⟩
          rw [← hq]
          clear hq
          obtain ⟨y, hy⟩ : ∃ y, y = manyTo (m + 1) 3 := ⟨_, rfl⟩
          have HY : Hid (manyTo (m + 1) 3 = y) := hy.symm
          rw [← hy] at hmp hml ⊢
          clear hy
          have B4 := Lib.hid BV.out
          obtain ⟨w4, hw4⟩ : ∃ V, V = wr := ⟨_, rfl⟩
          subst hw4
          have k0 := fun i => (PW.out.later B4.out).cell i
          by_cases hq : r.length = y
          · obtain ⟨A5', c5', hv5, hcap, hA5⟩ := RV.out.form'
            simp only [Value.slice.injEq] at hv5
            obtain ⟨rfl, _, rfl⟩ := hv5
            obtain ⟨g5, hg5, hg5b, hw5⟩ := (hA5 : OwnI w4 wr0.heap.size A5 r) (by omega)
            subst hg5
            have W5 := Lib.hid hw5
            have G5 := Lib.hid hg5b
            have K5 : Hid (okB (some wr0.heap.size) w4 w4.heap.size g5) := by
              have h9 := hw5.lt
              obtain ⟨cur, h1, _⟩ := hw5
              exact ⟨h9, fun lo hl => ⟨by cases hl; exact hg5b, cur, _, h1⟩⟩
            have hde : decide ((rowTo x.out (m + 1) 3).length = manyTo (m + 1) 3) = true := by rw [HR.out, HY.out, hq]; simp
            have HD := Lib.hid hde
            have hq0 : ((r.length : Int) == (y : Int)) = true := by rw [hq]; simp
            have HRY := Lib.hid hq
            clear hA5 hw5 RV BV hde hq
            by_cases hsp : sp = 1
            · by_cases hq : y = x.out.length
              · have hs1 : (sp == 1) = true := by simp [hsp]
                have hs2 : (sp == 2) = false := by simp [hsp]
                have hs3 : (sp == 3) = false := by simp [hsp]
                have hq1 : ((y : Int) == (x.out.length : Int)) = true := by rw [hq]; simp
                have hft : fitWay x r = true := by unfold fitWay; rw [HSP.out, hsp, HRY.out, hq]; simp
                have HE := Lib.hid (waysS_yes (t := x) (m := m) HD.out (by rw [HR.out]; exact hft))
                rw [HR.out] at HE
                clear hft
                try clear hq
                try clear hsp
                try clear hsp2
                try clear hsp3
                go_wp2_with (at_builtin; refine append_C5 rfl (.tmp 73) (.tmp 75) 47 rfl rowC 23 _ 24 Try.underlying47 info_row rfl (by decide) (by decide) (w.heap.size + 1) _ l rfl ((OW.out.own.later B4.out).later ((Below.refl _ _).alloc (Nat.le_refl _) _)) (r, g5) [.slice (some ⟨g5, 0, none⟩) r.length c5] wr0.heap.size w4.heap.size ⟨c5, rfl, W5.out.alloc _, K5.out.keep (Agree.of_below ((Below.refl _ _).alloc (Nat.le_refl _) _))⟩ (by have := PW.out.lt; omega) (by simp) (fun g hg => .inl (OW.out.own.lt g hg).2) w4.heap.size rfl (fun j u hu => by rw [Bk.cell (Bk.new rfl)]; simpa using hu) (by simp [Value.oneCell']) (by have := LN.out; omega) (by have := PW.out.lt; have := B4.out.size; simp; omega) ?_; intro v' w7 hown7 hg7 hb7 h57; have O7 := Lib.hid hown7; have B7 := Lib.hid hb7; clear hown7 hg7 hb7 h57)
                go_roundg (8 - (m + 1))
                case measure => omega
                case rel =>
                  refine ⟨m + 1, l ++ [(r, g5)], by omega, by omega, by go_num, ?_, ?_, ?_⟩
                  · exact BW.out.trans ((B4.out.mono (by have := PW.out.lt; omega)).trans ((((Below.refl _ _).alloc (Nat.le_refl _) _).mono (by have := PW.out.lt; have := B4.out.size; omega)).trans (B7.out.mono (by omega))))
                  · exact (B7.out.block w.heap.size (by omega)).trans ((PW.out.later B4.out).alloc _)
                  · refine ⟨O7.out, by rw [List.map_append, OW.out.map, HE.out]; rfl, List.pairwise_append.2 ⟨OW.out.lt, List.pairwise_singleton _ _, fun p hp q hq => ?_⟩, fun p hp => ?_⟩
                    · rw [List.mem_singleton] at hq
                      subst hq
                      exact Nat.lt_of_lt_of_le (OW.out.hi p hp) G5.out
                    · have s7 := B7.out.size
                      have s4 := B4.out.size
                      have k5 := K5.out.1
                      simp only [World.size_alloc] at s7
                      rcases List.mem_append.1 hp with hp | hp
                      · have := OW.out.hi p hp
                        omega
                      · rw [List.mem_singleton] at hp
                        subst hp
                        show g5 < _
                        omega
              · have hs1 : (sp == 1) = true := by simp [hsp]
                have hs2 : (sp == 2) = false := by simp [hsp]
                have hs3 : (sp == 3) = false := by simp [hsp]
                have hq1 : ((y : Int) == (x.out.length : Int)) = false := by rw [beq_eq_false_iff_ne]; omega
                have hft : fitWay x r = false := by unfold fitWay; rw [HSP.out, hsp, HRY.out]; simp [hq]
                have HE := Lib.hid (waysS_no (t := x) (m := m) (.inr (by rw [HR.out]; exact hft)))
                clear hft
                try clear hq
                try clear hsp
                try clear hsp2
                try clear hsp3
                go_wp2
                go_roundg (8 - (m + 1))
                case measure => omega
                case rel =>
                  exact ⟨m + 1, l, by omega, by omega, by go_num, BW.out.trans (B4.out.mono (by have := PW.out.lt; omega)), PW.out.later B4.out, by rw [HE.out]; exact OW.out.later B4.out⟩
            · by_cases hsp2 : sp = 2
              · by_cases hq : y = 1
                · have hs1 : (sp == 1) = false := by simp [hsp2]
                  have hs2 : (sp == 2) = true := by simp [hsp2]
                  have hs3 : (sp == 3) = false := by simp [hsp2]
                  have hq1 : ((y : Int) == 1) = true := by rw [hq]; simp
                  have hft : fitWay x r = true := by unfold fitWay; rw [HSP.out, hsp2, HRY.out, hq]; simp
                  have HE := Lib.hid (waysS_yes (t := x) (m := m) HD.out (by rw [HR.out]; exact hft))
                  rw [HR.out] at HE
                  clear hft
                  try clear hq
                  try clear hsp
                  try clear hsp2
                  try clear hsp3
                  go_wp2_with (at_builtin; refine append_C5 rfl (.tmp 73) (.tmp 75) 47 rfl rowC 23 _ 24 Try.underlying47 info_row rfl (by decide) (by decide) (w.heap.size + 1) _ l rfl ((OW.out.own.later B4.out).later ((Below.refl _ _).alloc (Nat.le_refl _) _)) (r, g5) [.slice (some ⟨g5, 0, none⟩) r.length c5] wr0.heap.size w4.heap.size ⟨c5, rfl, W5.out.alloc _, K5.out.keep (Agree.of_below ((Below.refl _ _).alloc (Nat.le_refl _) _))⟩ (by have := PW.out.lt; omega) (by simp) (fun g hg => .inl (OW.out.own.lt g hg).2) w4.heap.size rfl (fun j u hu => by rw [Bk.cell (Bk.new rfl)]; simpa using hu) (by simp [Value.oneCell']) (by have := LN.out; omega) (by have := PW.out.lt; have := B4.out.size; simp; omega) ?_; intro v' w7 hown7 hg7 hb7 h57; have O7 := Lib.hid hown7; have B7 := Lib.hid hb7; clear hown7 hg7 hb7 h57)
                  go_roundg (8 - (m + 1))
                  case measure => omega
                  case rel =>
                    refine ⟨m + 1, l ++ [(r, g5)], by omega, by omega, by go_num, ?_, ?_, ?_⟩
                    · exact BW.out.trans ((B4.out.mono (by have := PW.out.lt; omega)).trans ((((Below.refl _ _).alloc (Nat.le_refl _) _).mono (by have := PW.out.lt; have := B4.out.size; omega)).trans (B7.out.mono (by omega))))
                    · exact (B7.out.block w.heap.size (by omega)).trans ((PW.out.later B4.out).alloc _)
                    · refine ⟨O7.out, by rw [List.map_append, OW.out.map, HE.out]; rfl, List.pairwise_append.2 ⟨OW.out.lt, List.pairwise_singleton _ _, fun p hp q hq => ?_⟩, fun p hp => ?_⟩
                      · rw [List.mem_singleton] at hq
                        subst hq
                        exact Nat.lt_of_lt_of_le (OW.out.hi p hp) G5.out
                      · have s7 := B7.out.size
                        have s4 := B4.out.size
                        have k5 := K5.out.1
                        simp only [World.size_alloc] at s7
                        rcases List.mem_append.1 hp with hp | hp
                        · have := OW.out.hi p hp
                          omega
                        · rw [List.mem_singleton] at hp
                          subst hp
                          show g5 < _
                          omega
                · have hs1 : (sp == 1) = false := by simp [hsp2]
                  have hs2 : (sp == 2) = true := by simp [hsp2]
                  have hs3 : (sp == 3) = false := by simp [hsp2]
                  have hq1 : ((y : Int) == 1) = false := by rw [beq_eq_false_iff_ne]; omega
                  have hft : fitWay x r = false := by unfold fitWay; rw [HSP.out, hsp2, HRY.out]; simp [hq]
                  have HE := Lib.hid (waysS_no (t := x) (m := m) (.inr (by rw [HR.out]; exact hft)))
                  clear hft
                  try clear hq
                  try clear hsp
                  try clear hsp2
                  try clear hsp3
                  go_wp2
                  go_roundg (8 - (m + 1))
                  case measure => omega
                  case rel =>
                    exact ⟨m + 1, l, by omega, by omega, by go_num, BW.out.trans (B4.out.mono (by have := PW.out.lt; omega)), PW.out.later B4.out, by rw [HE.out]; exact OW.out.later B4.out⟩
              · by_cases hsp3 : sp = 3
                · have hs1 : (sp == 1) = false := by simp [hsp3]
                  have hs2 : (sp == 2) = false := by simp [hsp3]
                  have hs3 : (sp == 3) = true := by simp [hsp3]
                  have hft : fitWay x r = true := by unfold fitWay; rw [HSP.out, hsp3]; simp
                  have HE := Lib.hid (waysS_yes (t := x) (m := m) HD.out (by rw [HR.out]; exact hft))
                  rw [HR.out] at HE
                  clear hft
                  try clear hq
                  try clear hsp
                  try clear hsp2
                  try clear hsp3
                  go_wp2_with (at_builtin; refine append_C5 rfl (.tmp 73) (.tmp 75) 47 rfl rowC 23 _ 24 Try.underlying47 info_row rfl (by decide) (by decide) (w.heap.size + 1) _ l rfl ((OW.out.own.later B4.out).later ((Below.refl _ _).alloc (Nat.le_refl _) _)) (r, g5) [.slice (some ⟨g5, 0, none⟩) r.length c5] wr0.heap.size w4.heap.size ⟨c5, rfl, W5.out.alloc _, K5.out.keep (Agree.of_below ((Below.refl _ _).alloc (Nat.le_refl _) _))⟩ (by have := PW.out.lt; omega) (by simp) (fun g hg => .inl (OW.out.own.lt g hg).2) w4.heap.size rfl (fun j u hu => by rw [Bk.cell (Bk.new rfl)]; simpa using hu) (by simp [Value.oneCell']) (by have := LN.out; omega) (by have := PW.out.lt; have := B4.out.size; simp; omega) ?_; intro v' w7 hown7 hg7 hb7 h57; have O7 := Lib.hid hown7; have B7 := Lib.hid hb7; clear hown7 hg7 hb7 h57)
                  go_roundg (8 - (m + 1))
                  case measure => omega
                  case rel =>
                    refine ⟨m + 1, l ++ [(r, g5)], by omega, by omega, by go_num, ?_, ?_, ?_⟩
                    · exact BW.out.trans ((B4.out.mono (by have := PW.out.lt; omega)).trans ((((Below.refl _ _).alloc (Nat.le_refl _) _).mono (by have := PW.out.lt; have := B4.out.size; omega)).trans (B7.out.mono (by omega))))
                    · exact (B7.out.block w.heap.size (by omega)).trans ((PW.out.later B4.out).alloc _)
                    · refine ⟨O7.out, by rw [List.map_append, OW.out.map, HE.out]; rfl, List.pairwise_append.2 ⟨OW.out.lt, List.pairwise_singleton _ _, fun p hp q hq => ?_⟩, fun p hp => ?_⟩
                      · rw [List.mem_singleton] at hq
                        subst hq
                        exact Nat.lt_of_lt_of_le (OW.out.hi p hp) G5.out
                      · have s7 := B7.out.size
                        have s4 := B4.out.size
                        have k5 := K5.out.1
                        simp only [World.size_alloc] at s7
                        rcases List.mem_append.1 hp with hp | hp
                        · have := OW.out.hi p hp
                          omega
                        · rw [List.mem_singleton] at hp
                          subst hp
                          show g5 < _
                          omega
                · have hs1 : (sp == 1) = false := by simp [hsp]
                  have hs2 : (sp == 2) = false := by simp [hsp2]
                  have hs3 : (sp == 3) = false := by simp [hsp3]
                  have hft : fitWay x r = false := by unfold fitWay; rw [HSP.out]; simp [hsp, hsp2, hsp3]
                  have HE := Lib.hid (waysS_no (t := x) (m := m) (.inr (by rw [HR.out]; exact hft)))
                  clear hft
                  try clear hq
                  try clear hsp
                  try clear hsp2
                  try clear hsp3
                  go_wp2
                  go_roundg (8 - (m + 1))
                  case measure => omega
                  case rel =>
                    exact ⟨m + 1, l, by omega, by omega, by go_num, BW.out.trans (B4.out.mono (by have := PW.out.lt; omega)), PW.out.later B4.out, by rw [HE.out]; exact OW.out.later B4.out⟩
          · have hde : decide ((rowTo x.out (m + 1) 3).length = manyTo (m + 1) 3) = false := by rw [HR.out, HY.out]; simp [hq]
            have hq0 : ((r.length : Int) == (y : Int)) = false := by rw [beq_eq_false_iff_ne]; omega
            have HE := Lib.hid (waysS_no (t := x) (m := m) (.inl hde))
            clear hde hq
            go_wp2
            go_roundg (8 - (m + 1))
            case measure => omega
            case rel =>
              exact ⟨m + 1, l, by omega, by omega, by go_num, BW.out.trans (B4.out.mono (by have := PW.out.lt; omega)), PW.out.later B4.out, by rw [HE.out]; exact OW.out.later B4.out⟩
    · have hltz : ¬ (m : Int) + 1 < 8 := by omega
      obtain rfl : m = 7 := by omega
      have LN8 := LN.out
      go_wp2
      go_ret
      exact OW.out.gives (by omega) (by omega) BW.out

set_option maxHeartbeats 4000000 in
theorem spec_SplAll (x : GTask) (A1 : Option Addr) (c1 : Nat) (A2 : Option Addr) (c2 : Nat) (A3 : Option Addr) (c3 : Nat) (mo : Option Nat) (w : World)
    (hx : Rows flowC mo w w.heap.size A2 x.out) :
    Calls Try.prog 29 #[.agg (taskV x A1 c1 A2 c2 A3 c3)] w (GivesSS (waysOf x) w) := by
  have hxl := hx.1
  have HX := Lib.hid hx
  clear hx
  unfold taskV
  by_cases h3 : 3 < x.out.length
  · have HF : Hid (waysOf x = []) := by show _ = _; rw [waysOf, if_neg (by omega)]
    have h3z : (3 : Int) < (x.out.length : Int) := by omega
    go_enter Try.func29, Try.ntmps29
    go_wp2
    go_ret
    exact ⟨_, 0, [], rfl, HF.out.symm, by
      have h := OwnC.made (C := rowC) (e := 23) (base := w.heap.size) (w := w.alloc (.cells (taskV x A1 c1 A2 c2 A3 c3) 42)) (by simp) 0 #[] (by decide) rfl
      simpa using h, List.Pairwise.nil, by go_grown⟩
  have h3z : ¬ (3 : Int) < (x.out.length : Int) := by omega
  have HF := Lib.hid (waysS_of x (by omega))
  go_enter Try.func29, Try.ntmps29
  go_wp2_with fail
  refine callsAt fun W hW => ?_
  have B : Hid (Below w.heap.size w W) := by show Below _ _ _; rw [hW]; go_grown
  clear hW
  refine (spec_l8Ways x A1 c1 A2 c2 A3 c3 mo W (HX.out.later B.out) (by omega)).mono ?_
  rintro e w1 ⟨A, c, l, rfl, h1, h2, h4, h5⟩
  rw [HF.out] at h1
  go_wp2
  go_ret
  exact ⟨A, c, l, rfl, h1, own_low h2 B.out.size, h4, B.out.trans (h5.mono B.out.size)⟩
end Go.Proofs.Ytkkjljpokannkaa
