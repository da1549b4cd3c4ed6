/- The reference's ExpOk, l2Flows, l2Task, NetOk compute the plain functions. -/
import Derived.Test.YtkkjljpokannkaaNet
import Derived.Laws.StructEq
import Derived.StillTailTactics
import Derived.Deep.Cut
import Derived.Deep.CutRange
namespace Go.Proofs.Ytkkjljpokannkaa
open Go.RowKit


set_option maxRecDepth 100000 in
set_option maxHeartbeats 2000000 in
theorem l2Flows (x : GTask) (A1 : Option Addr) (c1 : Nat) (A2 : Option Addr) (c2 : Nat) (A3 : Option Addr) (c3 : Nat) (m : Option Nat) (places : Int) (w : World) (hx : Rows flowC m w w.heap.size A2 x.out) (hp : 2 ≤ places ∧ places ≤ 8) :
    Calls Try.prog 191 #[.agg #[.int .i64 x.join, .int .i64 x.split, .slice A1 x.inn.length c1, .slice A2 x.out.length c2, .slice A3 x.clear.length c3, .int .i64 x.role, .int .i64 x.apart, .int .i64 x.all, .int .i64 x.need], .int .i64 places] w (Says (.bool (flowsOk x places)) w) := by
  have hlen := hx.1
  have HX := Lib.hid hx
  clear hx
  cases h : inB x.out.length 1 3 with
  | false =>
    have HF : Hid (flowsOk x places = false) := by show _ = _; simp [flowsOk, h]
    go_enter Try.func191, Try.ntmps191
    go_wp2_with (go_at_call 103; refine (l1In _ _ _ _).mono ?_; rintro e w' ⟨rfl, rfl⟩)
    go_ret
    exact ⟨by rw [HF.out]; rfl, by go_grown⟩
  | true =>
    have hl3 := (inB_iff.1 h).2
    have HF : Hid (flowsOk x places = allTo (flowAt x places) x.out.length) := by show _ = _; simp [flowsOk, h]
    go_enter Try.func191, Try.ntmps191
    go_wp2_with fail
    refine callsAt fun W hW => ?_
    have b0 : Bk W w.heap.size 42 #[.int .i64 x.join, .int .i64 x.split, .slice A1 x.inn.length c1, .slice A2 x.out.length c2, .slice A3 x.clear.length c3, .int .i64 x.role, .int .i64 x.apart, .int .i64 x.all, .int .i64 x.need] := by rw [hW]; exact Bk.new rfl
    have hB : Below w.heap.size w W := by rw [hW]; go_grown
    clear hW
    refine (l1In _ _ _ _).mono ?_; rintro e w' ⟨rfl, rfl⟩
    have B0 := Lib.hid b0
    have HB := Lib.hid hB
    have X0 := Lib.hid (HX.out.later hB)
    clear b0 hB
    go_wp2
    clear h
    go_loopg [5, 6, 7, 8] x.out.length (fun gg s5 _ _ _ wr => ∃ k : Nat, k ≤ x.out.length ∧ x.out.length - k ≤ gg ∧ s5 = .int .i64 k ∧ Aside (Below W.heap.size W wr) ∧ Aside (allTo (flowAt x places) k = true))
    case atStart => exact ⟨0, Nat.zero_le _, by omega, rfl, Below.refl _ _, rfl⟩
    case round =>
      obtain ⟨k, hk, hg, rfl, EW, AN⟩ := hrel
      have k0 := fun i => (B0.out.later EW.out).cell i
      by_cases hlt : k < x.out.length
      · have hltz : (k : Int) < (x.out.length : Int) := by omega
        obtain ⟨b, off, rfl, hb, hc0, hc1, hc2, hc3⟩ := flow_at (X0.out.later EW.out) hlt
        have HAt : Hid (flowAt x places k = (inB x.out[k].to 1 (places - 1) && (askOk x.out[k].ask && (((decide (k + 1 = x.out.length) || decide (x.split = 1)) == (x.out[k].ask.op == 0)) && !(x.out.take k).any fun g => decide (g.to = x.out[k].to))))) := by
          show _ = _
          unfold flowAt
          rw [getD_get hlt]
          rfl
        generalize x.out[k] = f at hc0 hc1 hc2 hc3 HAt
        obtain ⟨fto, fop, fvar, fk⟩ := f
        go_upto_region 7 with fail
        generalize hV : wr.alloc _ = V
        have bV : Bk V w.heap.size 42 #[.int .i64 x.join, .int .i64 x.split, .slice A1 x.inn.length c1, .slice (some ⟨b, off, none⟩) x.out.length c2, .slice A3 x.clear.length c3, .int .i64 x.role, .int .i64 x.apart, .int .i64 x.all, .int .i64 x.need] := by rw [← hV]; exact (B0.out.later EW.out).alloc _
        have fV : Bk V wr.heap.size 142 #[.int .i64 fto, .int .i64 fop, .int .i64 fvar, .int .i64 fk] := by rw [← hV]; exact Bk.new rfl
        have EV := Lib.hid (EW.out.trans (by rw [← hV]; exact ((Below.refl _ _).alloc EW.out.size _)) : Below W.heap.size W V)
        clear hV k0 hc0 hc1 hc2 hc3
        have BV := Lib.hid bV
        have FV := Lib.hid fV
        have kV := fun i => bV.cell i
        have kF := fun i => fV.cell i
        clear bV fV
        generalize hL : (decide (k + 1 = x.out.length) || decide (x.split = 1)) = last at HAt
        have HL := Lib.hid hL
        clear hL
        go_cut [7] from 14 to 70 (fun s7 wx => s7 = .bool last ∧ wx = V)
        case first =>
          by_cases hl : k + 1 = x.out.length
          · have b1 : ((k : Int) == (x.out.length : Int) - 1) = true := by simp; omega
            have HL2 : Hid (last = true) := by show _ = _; rw [← HL.out]; simp [hl]
            clear hl
            go_wp2
            go_meet
            case rel => exact ⟨by rw [HL2.out], rfl⟩
          · have b1 : ((k : Int) == (x.out.length : Int) - 1) = false := by simp; omega
            have HL2 : Hid (last = (x.split == 1)) := by show _ = _; rw [← HL.out]; simp [hl]; rfl
            clear hl
            go_wp2
            go_meet
            case rel => exact ⟨by rw [HL2.out], rfl⟩
        case rest =>
          obtain ⟨rfl, hwc⟩ := hcut
          have hwc' := hwc.symm
          clear hwc
          subst hwc'
          cases q1 : inB fto 1 (places - 1) with
          | false =>
            have HS : Hid (allTo (flowAt x places) x.out.length = false) := allTo_fail hlt (by rw [HAt.out]; simp [q1])
            go_wp2_with (go_at_call 103; refine (l1In _ _ _ _).mono ?_; rintro e w' ⟨rfl, rfl⟩)
            go_ret
            exact ⟨by rw [HF.out, HS.out]; rfl, HB.out.trans (EV.out.mono HB.out.size)⟩
          | true =>
            go_wp2_with (go_at_call 103; refine (l1In _ _ _ _).mono ?_; rintro e w' ⟨rfl, rfl⟩)
            refine (spec_ExpOk ⟨fop, fvar, fk⟩ V).mono ?_
            rintro e V2 ⟨rfl, hb2⟩
            have BV2 := Lib.hid (BV.out.later hb2)
            have FV2 := Lib.hid (FV.out.later hb2)
            have EV2 := Lib.hid (EV.out.trans (hb2.mono EV.out.size))
            have kV := fun i => BV2.out.cell i
            have kF := fun i => FV2.out.cell i
            clear hb2
            cases q2 : askOk ⟨fop, fvar, fk⟩ with
            | false =>
              have HS : Hid (allTo (flowAt x places) x.out.length = false) := allTo_fail hlt (by rw [HAt.out]; simp [q2])
              go_wp2
              go_ret
              exact ⟨by rw [HF.out, HS.out]; rfl, HB.out.trans (EV2.out.mono HB.out.size)⟩
            | true =>
              by_cases q3 : last = (fop == 0)
              · have b3 : (last != (fop == 0)) = false := by rw [q3]; simp
                have HA2 : Hid (flowAt x places k = !((x.out.take k).any fun g => decide (g.to = fto))) := by
                  show _ = _
                  rw [HAt.out, q1, q2, q3]; simp
                subst q3
                go_wp2
                clear q1 q2
                have X2 := Lib.hid (X0.out.later EV2.out)
                go_loopg [8] k (fun gg s8 wr2 => ∃ j : Nat, j ≤ k ∧ k - j ≤ gg ∧ s8 = .int .i64 j ∧ Aside (Below V2.heap.size V2 wr2) ∧ Aside (((x.out.take j).any fun g => decide (g.to = fto)) = false))
                case atStart => exact ⟨0, Nat.zero_le _, by omega, rfl, Below.refl _ _, by show (List.any (x.out.take 0) _) = false; simp⟩
                case round =>
                  obtain ⟨j, hj, hgj, rfl, EJ, AJ⟩ := hrel
                  clear kV kF
                  have kV := fun i => (BV2.out.later EJ.out).cell i
                  have kF := fun i => (FV2.out.later EJ.out).cell i
                  by_cases hjk : j < k
                  · have hjkz : (j : Int) < (k : Int) := by omega
                    have hjl : j < x.out.length := by omega
                    have hjlz : (j : Int) < (x.out.length : Int) := by omega
                    obtain ⟨b', off', hA', hb', hd0, hd1, hd2, hd3⟩ := flow_at (X2.out.later EJ.out) hjl
                    cases hA'
                    have HM := Lib.hid (any_split (fun g : GFlow => decide (g.to = fto)) x.out j hjl AJ.out)
                    have HH : Hid (x.out[j].to = fto → ((x.out.take k).any fun g => decide (g.to = fto)) = true) := fun h => List.any_eq_true.2 ⟨x.out[j], by
                      rw [List.mem_take_iff_getElem]
                      exact ⟨j, by omega, rfl⟩, by simpa using h⟩
                    generalize x.out[j] = y at hd0 hd1 hd2 hd3 HM HH
                    clear hd1 hd2 hd3
                    by_cases hq : y.to = fto
                    · have hqb : (y.to == fto) = true := by simp [hq]
                      have HS : Hid (allTo (flowAt x places) x.out.length = false) := allTo_fail hlt (by rw [HA2.out, HH.out hq]; rfl)
                      clear hq
                      go_wp2
                      go_quiet (fail)
                      go_wp2
                      go_ret
                      exact ⟨by rw [HF.out, HS.out]; rfl, HB.out.trans (bdN (EV2.out.trans (EJ.out.mono EV2.out.size)) _ |>.mono HB.out.size)⟩
                    · have hqb : (y.to == fto) = false := by simp [hq]
                      have HS : Hid (((x.out.take (j + 1)).any fun g => decide (g.to = fto)) = false) := HM.out.trans (by simp [hq])
                      clear hq
                      go_wp2
                      go_quiet (fail)
                      go_wp2
                      go_roundg (k - (j + 1))
                      case measure => omega
                      case rel => exact ⟨j + 1, by omega, by omega, by go_num, bdN EJ.out _, HS.out⟩
                  · have hjkz : ¬ (j : Int) < (k : Int) := by omega
                    have hej : j = k := by omega
                    have HS : Hid (allTo (flowAt x places) (k + 1) = true) := allTo_step AN.out (by rw [HA2.out, ← hej, AJ.out]; rfl)
                    clear hej
                    go_wp2
                    go_roundg (x.out.length - (k + 1))
                    case measure => omega
                    case rel => exact ⟨k + 1, by omega, by omega, by go_num, EV2.out.trans (EJ.out.mono EV2.out.size), HS.out⟩
              · have b3 : (last != (fop == 0)) = true := by
                  exact bne_ne q3
                have HS : Hid (allTo (flowAt x places) x.out.length = false) := allTo_fail hlt (by
                  rw [HAt.out]
                  have : (last == (fop == 0)) = false := beq_ne q3
                  simp only [this]; simp)
                have q4 : last = !(fop == 0) := bool_ne q3
                clear q3 b3
                cases q5 : (fop == 0) with
                | true =>
                  rw [q5] at q4
                  subst q4
                  go_wp2
                  go_ret
                  exact ⟨by rw [HF.out, HS.out]; rfl, HB.out.trans (EV2.out.mono HB.out.size)⟩
                | false =>
                  rw [q5] at q4
                  subst q4
                  go_wp2
                  go_ret
                  exact ⟨by rw [HF.out, HS.out]; rfl, HB.out.trans (EV2.out.mono HB.out.size)⟩
      · have hltz : ¬ (k : Int) < (x.out.length : Int) := by omega
        have he : k = x.out.length := by omega
        have HE := Lib.hid he
        clear he
        go_wp2
        go_ret
        refine ⟨?_, HB.out.trans (EW.out.mono HB.out.size)⟩
        have h1 := AN.out
        rw [HE.out] at h1
        rw [HF.out, h1]; rfl

set_option maxRecDepth 100000 in
set_option maxHeartbeats 2000000 in
theorem l2Task (x : GTask) (cs : List Value) (m : Option Nat) (places tasks : Int) (w : World) (hx : taskC.R m w w.heap.size x cs) (hp : 2 ≤ places ∧ places ≤ 8) (ht : 1 ≤ tasks ∧ tasks ≤ 6) :
    Calls Try.prog 108 #[.agg cs.toArray, .int .i64 places, .int .i64 tasks] w (Says (.bool (taskOk x places tasks)) w) := by
  obtain ⟨A1, c1, A2, c2, A3, c3, rfl, h1, h2, h3⟩ := hx
  have n1 := h1.1
  have n2 := h2.1
  have n3 := h3.1
  have H1 := Lib.hid h1.ints
  have H2 := Lib.hid h2
  have H3 := Lib.hid h3.ints
  clear h1 h2 h3
  generalize hT : taskOk x places tasks = T
  have HT := Lib.hid hT
  clear hT
  unfold taskOk at HT
  have bad : ∀ w', Below w.heap.size w w' → T = false → Says (.bool T) w (.returned (.bool false)) w' := fun w' hb h => ⟨by rw [h], hb⟩
  have BAD := Lib.hid bad
  clear bad
  go_enter Try.func108, Try.ntmps108
  go_wp2_with fail
  refine callsAt fun W hW => ?_
  have b0 : Bk W w.heap.size 42 #[.int .i64 x.join, .int .i64 x.split, .slice A1 x.inn.length c1, .slice A2 x.out.length c2, .slice A3 x.clear.length c3, .int .i64 x.role, .int .i64 x.apart, .int .i64 x.all, .int .i64 x.need] := by rw [hW]; exact Bk.new rfl
  have hB : Below w.heap.size w W := by rw [hW]; go_grown
  clear hW
  have B0 := Lib.hid b0
  have HB := Lib.hid hB
  have k0 := fun i => b0.cell i
  clear hB b0
  refine (l1In _ _ _ _).mono ?_; rintro e w' ⟨rfl, rfl⟩
  cases q1 : inB x.join 1 3 with
  | false =>
    go_wp2
    go_ret
    exact BAD.out _ HB.out (by rw [← HT.out, q1]; rfl)
  | true =>
  go_wp2_with fail
  refine (l1In _ _ _ _).mono ?_; rintro e w' ⟨rfl, rfl⟩
  cases q2 : inB x.split 1 3 with
  | false =>
    go_wp2
    go_ret
    exact BAD.out _ HB.out (by rw [← HT.out, q1, q2]; rfl)
  | true =>
  go_wp2_with fail
  refine (l2Rises _ _ x.inn _ _ _ _ _ (H1.out.later HB.out)).mono ?_; rintro e w2 ⟨rfl, hb2⟩
  have B2 := Lib.hid (B0.out.later hb2)
  have HB2 := Lib.hid (HB.out.trans (hb2.mono HB.out.size))
  clear hb2 k0
  have k0 := fun i => B2.out.cell i
  cases q3 : rises x.inn 1 3 0 (places - 1) with
  | false =>
    go_wp2
    go_ret
    exact BAD.out _ HB2.out (by rw [← HT.out, q1, q2, q3]; rfl)
  | true =>
  go_wp2_with fail
  refine (l2Has _ _ x.inn _ _ _ (H1.out.later HB2.out)).mono ?_; rintro e w' ⟨rfl, rfl⟩
  cases q4 : (x.inn.any fun y => decide (y = 1)) with
  | true =>
    go_wp2
    go_ret
    exact BAD.out _ HB2.out (by rw [← HT.out, q1, q2, q3, q4]; rfl)
  | false =>
  go_wp2_with fail
  refine (l2Flows x A1 c1 A2 c2 A3 c3 m places _ (H2.out.later HB2.out) hp).mono ?_; rintro e w3 ⟨rfl, hb3⟩
  have B3 := Lib.hid (B2.out.later hb3)
  have HB3 := Lib.hid (HB2.out.trans (hb3.mono HB2.out.size))
  clear hb3 k0
  have k0 := fun i => B3.out.cell i
  cases q5 : flowsOk x places with
  | false =>
    go_wp2
    go_ret
    exact BAD.out _ HB3.out (by rw [← HT.out, q1, q2, q3, q4, q5]; rfl)
  | true =>
  go_wp2_with fail
  refine (l2Rises _ _ x.clear _ _ _ _ _ (H3.out.later HB3.out)).mono ?_; rintro e w4 ⟨rfl, hb4⟩
  have B4 := Lib.hid (B3.out.later hb4)
  have HB4 := Lib.hid (HB3.out.trans (hb4.mono HB3.out.size))
  clear hb4 k0
  have k0 := fun i => B4.out.cell i
  cases q6 : rises x.clear 0 places 2 (places - 1) with
  | false =>
    go_wp2
    go_ret
    exact BAD.out _ HB4.out (by rw [← HT.out, q1, q2, q3, q4, q5, q6]; rfl)
  | true =>
  go_wp2_with fail
  refine (l1In _ _ _ _).mono ?_; rintro e w' ⟨rfl, rfl⟩
  cases q7 : inB x.role 1 3 with
  | false =>
    go_wp2
    go_ret
    exact BAD.out _ HB4.out (by rw [← HT.out, q1, q2, q3, q4, q5, q6, q7]; rfl)
  | true =>
  go_wp2_with fail
  refine (l1In _ _ _ _).mono ?_; rintro e w' ⟨rfl, rfl⟩
  cases q8 : inB x.apart (-1) (tasks - 1) with
  | false =>
    go_wp2
    go_ret
    exact BAD.out _ HB4.out (by rw [← HT.out, q1, q2, q3, q4, q5, q6, q7, q8]; rfl)
  | true =>
  go_wp2_with fail
  refine (l1In _ _ _ _).mono ?_; rintro e w' ⟨rfl, rfl⟩
  cases q9 : inB x.all 1 3 with
  | false =>
    go_wp2
    go_ret
    exact BAD.out _ HB4.out (by rw [← HT.out, q1, q2, q3, q4, q5, q6, q7, q8, q9]; rfl)
  | true =>
  go_wp2_with fail
  refine (l1In _ _ _ _).mono ?_; rintro e w' ⟨rfl, rfl⟩
  go_wp2
  go_ret
  exact ⟨by rw [← HT.out, q1, q2, q3, q4, q5, q6, q7, q8, q9]; rfl, HB4.out⟩

theorem all_step {α : Type} (p : α → Bool) (xs : List α) (k : Nat) (hk : k < xs.length) : (xs.take (k + 1)).all p = ((xs.take k).all p && p xs[k]) := by
  rw [List.take_succ_eq_append_getElem hk, List.all_append]; simp
theorem all_false {α : Type} (p : α → Bool) (xs : List α) (k : Nat) (hk : k < xs.length) (h : p xs[k] = false) : xs.all p = false := by
  rw [Bool.eq_false_iff]
  intro ha
  rw [List.all_eq_true] at ha
  rw [ha _ (List.getElem_mem hk)] at h
  cases h

set_option maxRecDepth 100000 in
set_option maxHeartbeats 2000000 in
theorem spec_NetOk (x : GNet) (cs : List Value) (m : Option Nat) (w : World) (hx : netC.R m w w.heap.size x cs) :
    Calls Try.prog 27 #[.agg cs.toArray] w (Says (.bool (netOk x)) w) := by
  obtain ⟨A, c, rfl, h1⟩ := hx
  have n1 := h1.1
  have H1 := Lib.hid h1
  clear h1
  cases q1 : inB x.places 2 8 with
  | false =>
    have HF : Hid (netOk x = false) := by show _ = _; simp [netOk, q1]
    go_enter Try.func27, Try.ntmps27
    go_wp2_with (go_at_call 103; refine (l1In _ _ _ _).mono ?_; rintro e w' ⟨rfl, rfl⟩)
    go_ret
    exact ⟨by rw [HF.out]; rfl, by go_grown⟩
  | true =>
    cases q2 : inB x.tasks.length 1 6 with
    | false =>
      have HF : Hid (netOk x = false) := by show _ = _; simp [netOk, q2]
      go_enter Try.func27, Try.ntmps27
      go_wp2_with (go_at_call 103; refine (l1In _ _ _ _).mono ?_; rintro e w' ⟨rfl, rfl⟩)
      go_ret
      exact ⟨by rw [HF.out]; rfl, by go_grown⟩
    | true =>
      have hp := inB_iff.1 q1
      have ht := inB_iff.1 q2
      have HF : Hid (netOk x = x.tasks.all fun t => taskOk t x.places x.tasks.length) := by show _ = _; simp [netOk, q1, q2]
      go_enter Try.func27, Try.ntmps27
      go_wp2_with fail
      refine callsAt fun W hW => ?_
      have b0 : Bk W w.heap.size 37 #[.int .i64 x.places, .slice A x.tasks.length c] := by rw [hW]; exact Bk.new rfl
      have hB : Below w.heap.size w W := by rw [hW]; go_grown
      clear hW
      have B0 := Lib.hid b0
      have HB := Lib.hid hB
      have k0 := fun i => b0.cell i
      have X0 := Lib.hid (H1.out.later hB)
      clear b0 hB
      refine (l1In _ _ _ _).mono ?_; rintro e w' ⟨rfl, rfl⟩
      go_wp2_with (go_at_call 103; refine (l1In _ _ _ _).mono ?_; rintro e w' ⟨rfl, rfl⟩)
      clear q1 q2
      go_loopg [3] x.tasks.length (fun gg s3 wr => ∃ k : Nat, k ≤ x.tasks.length ∧ x.tasks.length - k ≤ gg ∧ s3 = .int .i64 k ∧ Aside (Below W.heap.size W wr) ∧ Aside ((x.tasks.take k).all (fun t => taskOk t x.places x.tasks.length) = true))
      case atStart => exact ⟨0, Nat.zero_le _, by omega, rfl, Below.refl _ _, by show List.all (x.tasks.take 0) _ = true; simp⟩
      case round =>
        obtain ⟨k, hk, hg, rfl, EW, AN⟩ := hrel
        clear k0
        have k0 := fun i => (B0.out.later EW.out).cell i
        by_cases hlt : k < x.tasks.length
        · have hltz : (k : Int) < (x.tasks.length : Int) := by omega
          obtain ⟨b, off, A1, c1, A2, c2, A3, c3, rfl, hb, hR, d0, d1, d2, d3, d4, d5, d6, d7, d8⟩ := task_at (X0.out.later EW.out) hlt
          have HR := Lib.hid hR
          clear hR
          have HM := Lib.hid (all_step (fun t => taskOk t x.places x.tasks.length) x.tasks k hlt)
          have HM2 : Hid (taskOk x.tasks[k] x.places x.tasks.length = false → (x.tasks.all fun t => taskOk t x.places x.tasks.length) = false) := fun h => all_false _ _ k hlt h
          generalize x.tasks[k] = t at d0 d1 d2 d3 d4 d5 d6 d7 d8 HR HM HM2
          go_wp2
          go_still_tail 10, (by kernel_rfl)
          change wpList _ _ _ _ _ wr.drew
          have EW1 := Lib.hid (EW.out.drew)
          have HR1 : Hid (Rows intC m wr.drew wr.drew.heap.size A1 t.inn ∧ Rows flowC m wr.drew wr.drew.heap.size A2 t.out ∧ Rows intC m wr.drew wr.drew.heap.size A3 t.clear) :=
            ⟨HR.out.1.below ((Below.refl _ _).drew), HR.out.2.1.below ((Below.refl _ _).drew), HR.out.2.2.below ((Below.refl _ _).drew)⟩
          clear k0 d0 d1 d2 d3 d4 d5 d6 d7 d8
          generalize wr.drew = w2 at EW1 HR1 ⊢
          go_wp2_with fail
          refine (l2Task t _ m x.places x.tasks.length w2 ⟨A1, c1, A2, c2, A3, c3, rfl, HR1.out.1, HR1.out.2.1, HR1.out.2.2⟩ hp ht).mono ?_
          rintro e w3 ⟨rfl, hb3⟩
          have EW3 := Lib.hid (EW1.out.trans (hb3.mono EW1.out.size))
          clear hb3
          cases q : taskOk t x.places x.tasks.length with
          | false =>
            have HS := Lib.hid (HM2.out q)
            go_wp2
            go_ret
            exact ⟨by rw [HF.out, HS.out]; rfl, HB.out.trans (EW3.out.mono HB.out.size)⟩
          | true =>
            have HS : Hid ((x.tasks.take (k + 1)).all (fun t => taskOk t x.places x.tasks.length) = true) := HM.out.trans (by rw [AN.out, q]; rfl)
            go_wp2
            go_roundg (x.tasks.length - (k + 1))
            case measure => omega
            case rel => exact ⟨k + 1, by omega, by omega, by go_num, EW3.out, HS.out⟩
        · have hltz : ¬ (k : Int) < (x.tasks.length : Int) := by omega
          have he : k = x.tasks.length := by omega
          have HE := Lib.hid he
          clear he
          go_wp2
          go_ret
          refine ⟨?_, HB.out.trans (EW.out.mono HB.out.size)⟩
          have h1 := AN.out
          rw [HE.out, List.take_length] at h1
          rw [HF.out, h1]; rfl
end Go.Proofs.Ytkkjljpokannkaa
