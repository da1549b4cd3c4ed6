/- The program's outOk computes what the reference's l2Flows does. -/
import Derived.Test.YtkkjljpokannkaaNetImpl
namespace Go.Proofs.Ytkkjljpokannkaa
open Go.RowKit

theorem Bk.grown {w w' : World} {g b : Nat} {t : TypeId} {cs : Array Value} (h : Bk w g t cs) (hg : w.grownBy w' (some b)) (hne : g ≠ b) : Bk w' g t cs :=
  (hg.block g h.lt (by simpa using hne)).trans h

/-- What was seen ahead of flow k. -/
def seenTo (x : GTask) (k : Nat) : List Int := [0] ++ (x.out.take k).map GFlow.to
theorem seenTo_succ (x : GTask) (k : Nat) (hk : k < x.out.length) : seenTo x (k + 1) = seenTo x k ++ [x.out[k].to] := by
  unfold seenTo
  rw [List.take_succ_eq_append_getElem hk, List.map_append, ← List.append_assoc]; rfl
theorem flow_seen (x : GTask) (places : Int) (k : Nat) (hk : k < x.out.length) :
    flowAt x places k = (inB x.out[k].to 0 (places - 1) && (!(seenTo x k).contains x.out[k].to && (askOk x.out[k].ask && ((decide (x.split = 1) || decide (k + 1 = x.out.length)) == (x.out[k].ask.op == 0))))) := by
  unfold flowAt
  rw [getD_get hk]
  have e1 : (seenTo x k).contains x.out[k].to = (decide (x.out[k].to = 0) || (x.out.take k).any fun g => decide (g.to = x.out[k].to)) := by
    unfold seenTo
    rw [Bool.eq_iff_iff]
    simp only [List.contains_iff_mem, List.cons_append, List.nil_append, List.mem_cons, List.mem_map, Bool.or_eq_true, decide_eq_true_eq, List.any_eq_true]
  have e2 : inB x.out[k].to 1 (places - 1) = (inB x.out[k].to 0 (places - 1) && !decide (x.out[k].to = 0)) := by
    rw [Bool.eq_iff_iff, Bool.and_eq_true, inB_iff, inB_iff, Bool.not_eq_true', decide_eq_false_iff_not]
    omega
  have e3 : (x.out[k].ask.op == 0) = decide (x.out[k].ask.op = 0) := rfl
  rw [e1, e2, e3, Bool.or_comm (decide (x.split = 1))]
  cases inB x.out[k].to 0 (places - 1) <;> cases decide (x.out[k].to = 0) <;> cases askOk x.out[k].ask <;> cases (decide (k + 1 = x.out.length) || decide (x.split = 1)) == decide (x.out[k].ask.op = 0) <;> simp

theorem nodup_len : ∀ (m : Nat) (l : List Int), l.Nodup → (∀ x ∈ l, 1 ≤ x ∧ x ≤ m) → l.length ≤ m
  | 0, l, _, h => by
    cases l with
    | nil => simp
    | cons a l => have := h a (by simp); omega
  | m + 1, l, hn, h => by
    by_cases hm : ((m : Int) + 1) ∈ l
    · have h1 := nodup_len m (l.erase ((m : Int) + 1)) (hn.erase _) (fun x hx => by
        rw [hn.mem_erase_iff] at hx
        have := h x hx.2
        have hx1 := hx.1
        omega)
      rw [List.length_erase_of_mem hm] at h1
      omega
    · have h1 := nodup_len m l hn (fun x hx => by
        have h2 := h x hx
        have : x ≠ (m : Int) + 1 := fun e => hm (e ▸ hx)
        omega)
      omega
theorem flow_few (x : GTask) (places : Int) (hp : places ≤ 8) : ∀ k, k ≤ x.out.length → allTo (flowAt x places) k = true → ((x.out.take k).map GFlow.to).Nodup ∧ ∀ y ∈ (x.out.take k).map GFlow.to, 1 ≤ y ∧ y ≤ (7 : Nat)
  | 0, _, _ => by simp
  | k + 1, hk, h => by
    rw [allTo_succ, Bool.and_eq_true] at h
    obtain ⟨h1, h2⟩ := flow_few x places hp k (by omega) h.1
    have hf := h.2
    unfold flowAt at hf
    rw [getD_get (by omega : k < x.out.length), Bool.and_eq_true, Bool.and_eq_true, Bool.and_eq_true, inB_iff, Bool.not_eq_true', List.any_eq_false] at hf
    rw [List.take_succ_eq_append_getElem (by omega : k < x.out.length), List.map_append]
    refine ⟨List.nodup_append.2 ⟨h1, by simp, fun a ha b hb => ?_⟩, fun y hy => ?_⟩
    · simp only [List.map_cons, List.map_nil, List.mem_singleton] at hb
      subst hb
      rw [List.mem_map] at ha
      obtain ⟨g, hg, rfl⟩ := ha
      intro e
      exact hf.2.2.2 g hg (by simpa using e)
    · rw [List.mem_append] at hy
      rcases hy with hy | hy
      · exact h2 y hy
      · simp only [List.map_cons, List.map_nil, List.mem_singleton] at hy
        subst hy
        have := hf.1
        omega
theorem flow_le (x : GTask) (places : Int) (hp : places ≤ 8) (k : Nat) (hk : k ≤ x.out.length) (h : allTo (flowAt x places) k = true) : k ≤ 7 := by
  obtain ⟨h1, h2⟩ := flow_few x places hp k hk h
  have := nodup_len 7 _ h1 h2
  rw [List.length_map, List.length_take] at this
  omega

set_option maxRecDepth 100000 in
set_option maxHeartbeats 2000000 in
theorem impl_outOk (x : GTask) (A1 : Option Addr) (c1 : Nat) (A2 : Option Addr) (c2 : Nat) (A3 : Option Addr) (c3 : Nat) (m : Option Nat) (places : Int) (w : World) (hx : Rows flowC m w w.heap.size A2 x.out) (hp : 2 ≤ places ∧ places ≤ 8) :
    Calls Try.prog 196 #[.agg #[.int .i64 x.join, .int .i64 x.split, .slice A1 x.inn.length c1, .slice A2 x.out.length c2, .slice A3 x.clear.length c3, .int .i64 x.role, .int .i64 x.apart, .int .i64 x.all, .int .i64 x.need], .int .i64 places] w (Says (.bool (flowsOk x places)) w) := by
  have hlen := hx.1
  have HX := Lib.hid hx
  clear hx
  have hmm := @run_makeMap Try.prog
  go_enter Try.func196, Try.ntmps196
  go_wp2_with (refine wpList_seen0 rfl _ _ _ rfl _ [] 0 rfl (by have h := SeenB.made (w.alloc (.cells #[.int .i64 x.join, .int .i64 x.split, .slice A1 x.inn.length c1, .slice A2 x.out.length c2, .slice A3 x.clear.length c3, .int .i64 x.role, .int .i64 x.apart, .int .i64 x.all, .int .i64 x.need] 42)); simpa using h) (by simp) rfl rfl (by omega) (by omega) ?_; intro W hs hg; have b0 : Bk W w.heap.size 42 #[.int .i64 x.join, .int .i64 x.split, .slice A1 x.inn.length c1, .slice A2 x.out.length c2, .slice A3 x.clear.length c3, .int .i64 x.role, .int .i64 x.apart, .int .i64 x.all, .int .i64 x.need] := ((Bk.new rfl).alloc _).grown hg (by omega); have k0 := fun i => b0.cell i; have B0 := Lib.hid b0; have S0 := Lib.hid hs; have E0 : Hid (Below w.heap.size w W) := (((Below.refl w.heap.size w).alloc (Nat.le_refl _) _).alloc (by simp) _).grown hg (by simp; omega) (fun k hk => by cases hk; omega); clear b0 hs hg)
  go_loopg [6, 7, 8, 14] x.out.length (fun gg _ _ _ s14 wr => ∃ k : Nat, k ≤ x.out.length ∧ x.out.length - k ≤ gg ∧ s14 = .int .i64 k ∧ Aside (Below w.heap.size w wr) ∧ Aside (SeenB wr (w.heap.size + 1) (seenTo x k)) ∧ Aside (Bk wr w.heap.size 42 #[.int .i64 x.join, .int .i64 x.split, .slice A1 x.inn.length c1, .slice A2 x.out.length c2, .slice A3 x.clear.length c3, .int .i64 x.role, .int .i64 x.apart, .int .i64 x.all, .int .i64 x.need]) ∧ Aside (allTo (flowAt x places) k = true))
  case atStart => exact ⟨0, Nat.zero_le _, by omega, rfl, E0.out, S0.out, B0.out, rfl⟩
  case round =>
    obtain ⟨k, hk, hgg, rfl, EW, SW, BW, AN⟩ := hrel
    clear k0 B0 S0 E0
    have k0 := fun i => BW.out.cell i
    by_cases hlt : k < x.out.length
    · have hltz : (k : Int) < (x.out.length : Int) := by omega
      obtain ⟨b, off, rfl, hb, hc0, hc1, hc2, hc3⟩ := flow_at (HX.out.later EW.out) hlt
      have HAt := Lib.hid (flow_seen x places k hlt)
      have HSe := Lib.hid (seenTo_succ x k hlt)
      generalize x.out[k] = f at hc0 hc1 hc2 hc3 HAt HSe
      obtain ⟨fto, fop, fvar, fk⟩ := f
      go_upto_region 5 with fail
      generalize hV : wr.alloc _ = V
      have bV : Bk V w.heap.size 42 #[.int .i64 x.join, .int .i64 x.split, .slice A1 x.inn.length c1, .slice (some ⟨b, off, none⟩) x.out.length c2, .slice A3 x.clear.length c3, .int .i64 x.role, .int .i64 x.apart, .int .i64 x.all, .int .i64 x.need] := by rw [← hV]; exact BW.out.alloc _
      have fV : Bk V wr.heap.size 142 #[.int .i64 fto, .int .i64 fop, .int .i64 fvar, .int .i64 fk] := by rw [← hV]; exact Bk.new rfl
      have EV := Lib.hid (EW.out.trans (by rw [← hV]; exact ((Below.refl _ _).alloc EW.out.size _)) : Below w.heap.size w V)
      have SV := Lib.hid (SW.out.kept (by rw [← hV]; exact ((Below.refl _ _).alloc (Nat.le_refl _) _)) : SeenB V (w.heap.size + 1) (seenTo x k))
      clear hV k0 hc0 hc1 hc2 hc3
      have BV := Lib.hid bV
      have FV := Lib.hid fV
      have kV := fun i => bV.cell i
      have kF := fun i => fV.cell i
      clear bV fV
      generalize hL : (decide (x.split = 1) || decide (k + 1 = x.out.length)) = last at HAt
      have HL := Lib.hid hL
      clear hL
      go_cut [8] from 15 to 59 (fun s8 wx => s8 = .bool last ∧ wx = V)
      case first =>
        by_cases hl : x.split = 1
        · have b1 : (x.split == 1) = true := by simp [hl]
          have HL2 : Hid (last = true) := by show _ = _; rw [← HL.out]; simp [hl]
          clear hl
          go_wp2
          go_meet
          case rel => exact ⟨by rw [HL2.out], rfl⟩
        · have b1 : (x.split == 1) = false := by simp [hl]
          have HL2 : Hid (last = ((k : Int) == (x.out.length : Int) - 1)) := by
            show _ = _
            rw [← HL.out]
            simp only [hl, decide_false, Bool.false_or]
            rw [Bool.eq_iff_iff, decide_eq_true_eq, beq_iff_eq]
            omega
          clear hl
          go_wp2
          go_meet
          case rel => exact ⟨by rw [HL2.out], rfl⟩
      case rest =>
        obtain ⟨rfl, hwc⟩ := hcut
        have hwc' := hwc.symm
        clear hwc
        subst hwc'
        have hk7 := flow_le x places hp.2 k hk AN.out
        have hsl : (seenTo x k).length ≤ 1000 := by simp [seenTo]; omega
        cases q1 : inB fto 0 (places - 1) with
        | false =>
          have HS : Hid (flowsOk x places = false) := by show _ = _; rw [flowsOk, allTo_fail hlt (by rw [HAt.out, q1]; rfl), Bool.and_false]
          go_wp2_with (go_at_call 135; refine (impl_in _ _ _ _).mono ?_; rintro e w' ⟨rfl, rfl⟩)
          go_ret
          exact ⟨by rw [HS.out]; rfl, EV.out⟩
        | true =>
          have hfb := inB_iff.1 q1
          have hlook := SV.out.look (z := fto) (by omega) (by omega)
          generalize hq2 : (seenTo x k).contains fto = c at hlook HAt
          clear hq2
          cases c with
          | true =>
            have HS : Hid (flowsOk x places = false) := by show _ = _; rw [flowsOk, allTo_fail hlt (by rw [HAt.out, q1]; rfl), Bool.and_false]
            go_wp2_with (go_at_call 135; refine (impl_in _ _ _ _).mono ?_; rintro e w' ⟨rfl, rfl⟩)
            go_ret
            exact ⟨by rw [HS.out]; rfl, EV.out⟩
          | false =>
            go_wp2_with (go_at_call 135; refine (impl_in _ _ _ _).mono ?_; rintro e w' ⟨rfl, rfl⟩)
            refine (impl_ExpOk ⟨fop, fvar, fk⟩ V).mono ?_
            rintro e V2 ⟨rfl, hb2⟩
            have BV2 := Lib.hid (BV.out.later hb2)
            have FV2 := Lib.hid (FV.out.later hb2)
            have SV2 := Lib.hid (SV.out.kept hb2)
            have EV2 := Lib.hid (EV.out.trans (hb2.mono EV.out.size))
            clear hb2 hlook kV kF
            have kV := fun i => BV2.out.cell i
            have kF := fun i => FV2.out.cell i
            cases q2 : askOk ⟨fop, fvar, fk⟩ with
            | false =>
              have HS : Hid (flowsOk x places = false) := by show _ = _; rw [flowsOk, allTo_fail hlt (by rw [HAt.out, q1, q2]; rfl), Bool.and_false]
              go_wp2
              go_ret
              exact ⟨by rw [HS.out]; rfl, EV2.out⟩
            | true =>
              by_cases q3 : last = (fop == 0)
              · have HS : Hid (allTo (flowAt x places) (k + 1) = true) := allTo_step AN.out (by rw [HAt.out, q1, q2, q3]; simp)
                subst q3
                go_wp2_with (refine wpList_seen rfl (.tmp 56) (.tmp 58) _ rfl _ (seenTo x k) fto rfl SV2.out hsl rfl rfl (by omega) (by omega) ?_; intro V3 hs3 hg3; have S3 := Lib.hid hs3; have G3 := Lib.hid hg3; clear hs3 hg3)
                go_roundg (x.out.length - (k + 1))
                case measure => omega
                case rel => exact ⟨k + 1, by omega, by omega, by go_num, EV2.out.grown G3.out EV2.out.size (fun j hj => by cases hj; omega), by rw [HSe.out]; exact S3.out, BV2.out.grown G3.out (by omega), HS.out⟩
              · have HS : Hid (flowsOk x places = false) := by
                  show _ = _
                  rw [flowsOk, allTo_fail hlt (by rw [HAt.out, q1, q2, beq_ne q3]; rfl), Bool.and_false]
                have q4 : last = !(fop == 0) := bool_ne q3
                clear q3
                cases q5 : (fop == 0) with
                | true =>
                  rw [q5] at q4
                  subst q4
                  go_wp2
                  go_ret
                  exact ⟨by rw [HS.out]; rfl, EV2.out⟩
                | false =>
                  rw [q5] at q4
                  subst q4
                  go_wp2
                  go_ret
                  exact ⟨by rw [HS.out]; rfl, EV2.out⟩
    · have hltz : ¬ (k : Int) < (x.out.length : Int) := by omega
      have he : k = x.out.length := by omega
      have HE := Lib.hid he
      clear he
      go_wp2_with (go_at_call 135; refine (impl_in _ _ _ _).mono ?_; rintro e w' ⟨rfl, rfl⟩)
      go_ret
      have h1 := AN.out
      rw [HE.out] at h1
      exact ⟨by rw [flowsOk, h1, Bool.and_true]; rfl, EW.out⟩
end Go.Proofs.Ytkkjljpokannkaa
