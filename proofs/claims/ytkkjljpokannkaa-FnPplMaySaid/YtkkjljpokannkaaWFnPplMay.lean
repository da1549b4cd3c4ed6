/- The walk of FnPplMay: it returns true. -/
import Derived.Test.YtkkjljpokannkaaDrawMay
import Derived.Test.YtkkjljpokannkaaMay
import Derived.Test.YtkkjljpokannkaaDat
import Derived.BigQuiet
namespace Go.Proofs.Ytkkjljpokannkaa
open Go.RowKit
set_option linter.unusedSimpArgs false
set_option linter.unusedVariables false

theorem may_any {ps : List Int} {ds : List GDid} {bs : List GItem} {t : GTask} (h : pplOk ps = true) (who : Int) : ((personsOf ps (mayP ps ds bs t)).any fun x => decide (x = who)) = mayP ps ds bs t who := by
  rw [Bool.eq_iff_iff, List.any_eq_true, personsOf, h, if_pos rfl]
  unfold personsTo
  constructor
  · rintro ⟨x, hx, he⟩
    rw [decide_eq_true_eq] at he
    subst he
    exact (List.mem_filter.1 hx).2
  · intro hp
    have hin : inB who 1 ps.length = true := by
      unfold mayP pplHas at hp
      simp only [Bool.and_eq_true] at hp
      exact hp.1.2.1
    rw [inB_iff] at hin
    obtain ⟨k, hk⟩ : ∃ k : Nat, who = (k : Int) + 1 := ⟨(who - 1).toNat, by omega⟩
    subst hk
    exact ⟨(k : Int) + 1, List.mem_filter.2 ⟨List.mem_map.2 ⟨k, List.mem_range.2 (by omega), rfl⟩, hp⟩, by simp⟩
theorem onIt_take (bs : List GItem) (a who : Int) (i : Nat) (hi : i < bs.length) : (bs.take (i + 1)).any (onIt a who) = ((bs.take i).any (onIt a who) || ((bs[i].who == who) && (bs[i].task == a))) := by
  rw [List.take_succ_eq_append_getElem hi, List.any_append]
  simp only [List.any_cons, List.any_nil, Bool.or_false, onIt]
  rw [Bool.and_comm (bs[i].task == a)]

set_option maxRecDepth 100000 in
set_option maxHeartbeats 2000000 in
theorem walk_FnPplMay_of (HBL : BusyLaw) (A : Option Addr) (c : Nat) (xs : List Int) (w : World) (h : Code w w.heap.size A c xs) :
    Calls Try.prog 8 #[.slice A xs.length c] w fun e w' => e = .returned (.bool true) ∧ Below w.heap.size w w' := by
  have hlen := h.1.1
  have HC := Lib.hid h
  have HBLH := Lib.hid HBL
  clear h HBL
  by_cases hl : 1048576 < xs.length
  · have hlz : (1048576 : Int) < (xs.length : Int) := by omega
    go_enter Try.func8, Try.ntmps8
    go_wp2
    go_ret
    exact ⟨rfl, Below.refl _ _⟩
  have hlz : ¬ (1048576 : Int) < (xs.length : Int) := by omega
  go_enter Try.func8, Try.ntmps8
  go_wp2_with fail
  refine (spec_DrawPplMay HBLH.out A c xs w HC.out).mono ?_
  rintro e w1 ⟨x, g, c0, A1, c1, ps, A2, c2, ds, A3, c3, bs, t, rfl, hrow, hok, hps, hp5, hds, hd4, hbs, hb3, ht0, ht7, hb⟩
  have X := Lib.hid hrow
  have P := Lib.hid hps
  have D := Lib.hid hds
  have Q := Lib.hid hbs
  have B := Lib.hid hb
  have hx6 := hok.2.1
  clear hrow hok hps hds hbs hb
  go_wp2_with fail
  refine callsAt fun V hV => ?_
  have N : Hid (Bk V w1.heap.size 37 #[.int .i64 x.places, .slice (some ⟨g, 0, none⟩) x.tasks.length c0]) := by show Bk _ _ _ _; rw [hV]; exact Bk.new rfl
  have hb : Below w1.heap.size w1 V := by rw [hV]; exact (Below.refl _ _).alloc (Nat.le_refl _) _
  have X := Lib.hid (X.out.later hb)
  have P := Lib.hid ((P.out.below hb).more hb.size)
  have D := Lib.hid (D.out.later hb)
  have Q := Lib.hid (Q.out.later hb)
  have B := Lib.hid (B.out.trans (hb.mono B.out.size))
  have zV := hb.size
  clear hV hb
  refine (impl_PplMay x (some ⟨g, 0, none⟩) c0 A1 c1 ps A2 c2 ds A3 c3 bs t none none none V X.out P.out D.out Q.out).mono ?_
  rintro e w2 ⟨v2, rfl, hv2, hb⟩
  obtain ⟨G0, cg, rfl, og⟩ := OwnI.of_v hv2
  have hol := mayOf_len x ps ds bs t
  have N := Lib.hid (N.out.later hb)
  have X := Lib.hid (X.out.later hb)
  have P := Lib.hid ((P.out.below hb).more hb.size)
  have D := Lib.hid (D.out.later hb)
  have Q := Lib.hid (Q.out.later hb)
  have B := Lib.hid (B.out.trans (hb.mono B.out.size))
  have G := Lib.hid (og.ints (by omega))
  have z2 := hb.size
  clear hb hv2 og
  obtain ⟨F, hF⟩ : ∃ F, F = mayOf x ps ds bs t := ⟨_, rfl⟩
  have HF := Lib.hid hF
  rw [← hF] at hol G ⊢
  clear hF
  have kN := fun i => N.out.cell i
  go_wp2_with fail
  clear kN
  refine (spec_PplMay x (some ⟨g, 0, none⟩) c0 A1 c1 ps A2 c2 ds A3 c3 bs t none none none w2 X.out P.out D.out Q.out).mono ?_
  rintro e w3 ⟨v3, rfl, hv3, hb⟩
  rw [← HF.out] at hv3
  obtain ⟨G', cg', rfl, og⟩ := OwnI.of_v hv3
  have N := Lib.hid (N.out.later hb)
  have X := Lib.hid (X.out.later hb)
  have P := Lib.hid ((P.out.below hb).more hb.size)
  have D := Lib.hid (D.out.later hb)
  have Q := Lib.hid (Q.out.later hb)
  have B := Lib.hid (B.out.trans (hb.mono B.out.size))
  have G := Lib.hid (G.out.later hb)
  have H3 := Lib.hid (og.ints (by omega))
  have z3 := hb.size
  clear hb hv3 og
  go_wp2_with fail
  refine (laws_guInts _ _ _ _ F F w3 w3.heap.size G.out H3.out).mono ?_
  rintro e _ ⟨rfl, q1, rfl⟩
  have hd1 : decide (F = F) = true := by simp
  rw [hd1]
  clear hd1 H3
  have hb : Below w3.heap.size w3 (w3.drewN q1) := bdN (Below.refl _ _) _
  generalize w3.drewN q1 = w4 at hb ⊢
  have N := Lib.hid (N.out.later hb)
  have X := Lib.hid (X.out.later hb)
  have P := Lib.hid ((P.out.below hb).more hb.size)
  have D := Lib.hid (D.out.later hb)
  have Q := Lib.hid (Q.out.later hb)
  have B := Lib.hid (B.out.trans (hb.mono B.out.size))
  have G := Lib.hid (G.out.later hb)
  have z4 := hb.size
  clear hb
  have kN := fun i => N.out.cell i
  go_wp2_with fail
  clear kN
  refine (spec_NetOk x _ _ _ ⟨_, c0, rfl, X.out⟩).mono ?_
  rintro e w5 ⟨rfl, hb⟩
  have N := Lib.hid (N.out.later hb)
  have X := Lib.hid (X.out.later hb)
  have P := Lib.hid ((P.out.below hb).more hb.size)
  have D := Lib.hid (D.out.later hb)
  have Q := Lib.hid (Q.out.later hb)
  have B := Lib.hid (B.out.trans (hb.mono B.out.size))
  have G := Lib.hid (G.out.later hb)
  have z5 := hb.size
  clear hb
  cases hnk : netOk x with
  | false =>
    have hF0 : F = [] := by rw [HF.out]; exact mayOf_no (.inl hnk)
    clear HF hnk
    subst hF0
    go_wp2_with (go_at_call 22; refine (laws_guOk _).mono ?_; rintro e w10 ⟨rfl, hb⟩; have B := Lib.hid (B.out.trans (hb.mono B.out.size)); clear hb)
    go_ret
    exact ⟨rfl, B.out⟩
  | true =>
  go_wp2_with fail
  refine (spec_PplOk A1 c1 ps w5 _ P.out).mono ?_
  rintro e w' ⟨rfl, rfl⟩
  cases hok : pplOk ps with
  | false =>
    have hF0 : F = [] := by rw [HF.out]; exact mayOf_no (.inr (.inr hok))
    clear HF hok hnk
    subst hF0
    go_wp2_with (go_at_call 22; refine (laws_guOk _).mono ?_; rintro e w10 ⟨rfl, hb⟩; have B := Lib.hid (B.out.trans (hb.mono B.out.size)); clear hb)
    go_ret
    exact ⟨rfl, B.out⟩
  | true =>
  by_cases htn : t < 0
  · have hF0 : F = [] := by rw [HF.out]; exact mayOf_no (.inr (.inl (inB_not.2 (.inl htn))))
    clear HF hok hnk
    subst hF0
    go_wp2_with (go_at_call 22; refine (laws_guOk _).mono ?_; rintro e w10 ⟨rfl, hb⟩; have B := Lib.hid (B.out.trans (hb.mono B.out.size)); clear hb)
    go_ret
    exact ⟨rfl, B.out⟩
  by_cases htl : (x.tasks.length : Int) ≤ t
  · have hF0 : F = [] := by rw [HF.out]; exact mayOf_no (.inr (.inl (inB_not.2 (.inr (by omega)))))
    have kN := fun i => N.out.cell i
    clear HF hok hnk
    subst hF0
    go_wp2_with (go_at_call 22; refine (laws_guOk _).mono ?_; rintro e w10 ⟨rfl, hb⟩; have B := Lib.hid (B.out.trans (hb.mono B.out.size)); clear hb)
    go_ret
    exact ⟨rfl, B.out⟩
  obtain ⟨j, rfl⟩ := Int.eq_ofNat_of_zero_le (by omega : 0 ≤ t)
  have hj : j < x.tasks.length := by omega
  have hjz : (j : Int) < (x.tasks.length : Int) := by omega
  have hj0 : ¬ (j : Int) < 0 := by omega
  have hjn : ¬ x.tasks.length ≤ j := by omega
  have hjd : decide (x.tasks.length ≤ j) = false := by simp [hjn]
  have hj0d : decide ((j : Int) < 0) = false := by simp
  obtain ⟨b, off, C1, e1, C2, e2, C3, e3, hA, _, _, _, _, _, _, _, t5, t6, _, _⟩ := task_at X.out hj
  cases hA
  simp only [Nat.zero_add] at t5 t6
  have HAS : Hid (∀ who : Int, (F.any fun x => decide (x = who)) = mayP ps ds bs x.tasks[j] who) := fun who => by
    have hin : inB (j : Int) 0 ((x.tasks.length : Int) - 1) = true := inB_iff.2 ⟨by omega, by omega⟩
    rw [HF.out, mayOf, if_pos hnk, if_pos hin, Int.toNat_natCast, getD_get hj]
    exact may_any hok who
  clear HF hnk hok htn htl
  generalize x.tasks[j] = y at t5 t6 HAS
  obtain ⟨ro, hro⟩ : ∃ ro, ro = y.role := ⟨_, rfl⟩
  obtain ⟨ap, hap⟩ : ∃ ap, ap = y.apart := ⟨_, rfl⟩
  have HAS : Hid (∀ who : Int, (F.any fun x => decide (x = who)) = (pplHas ps who ro && (!(bs.any (onIt ap who)) && !pplDid ds who ap))) := by rw [hro, hap]; exact HAS
  rw [← hro] at t5
  rw [← hap] at t6
  clear hro hap
  have T5 := Lib.hid t5
  have T6 := Lib.hid t6
  have hgl : g < w5.heap.size := World.block_lt_of_cell? _ _ t5
  clear t5 t6
  have kN := fun i => N.out.cell i
  go_wp2
  clear kN
  go_loopg [9] (ps.length + 2) (fun gg s9 wr => ∃ k : Nat, k ≤ ps.length + 2 ∧ ps.length + 2 - k ≤ gg ∧ s9 = .int .i64 k ∧ Aside (Below w5.heap.size w5 wr))
  case atStart => exact ⟨0, Nat.zero_le _, by omega, rfl, Below.refl _ _⟩
  case round =>
    obtain ⟨k, hk, hg, rfl, EW⟩ := hrel
    by_cases hlt : k < ps.length + 2
    · have hltz : (k : Int) ≤ (ps.length : Int) + 1 := by omega
      have HK := Lib.hid (HAS.out k)
      go_wp2
      go_loopg [10, 11] bs.length (fun gg s10 s11 wr => ∃ i : Nat, i ≤ bs.length ∧ bs.length - i ≤ gg ∧ s10 = .bool ((bs.take i).any (onIt ap k)) ∧ s11 = .int .i64 i ∧ Aside (Below w5.heap.size w5 wr))
      case atStart => exact ⟨0, Nat.zero_le _, by omega, by simp, rfl, EW.out⟩
      case round =>
        obtain ⟨i, hi, hgi, rfl, rfl, EV⟩ := hrel
        by_cases hil : i < bs.length
        · have hilz : (i : Int) < (bs.length : Int) := by omega
          have HD := Lib.hid (onIt_take bs ap k i hil)
          have QV := Q.out.later EV.out
          obtain ⟨b, off, rfl, hbb, hc0, hc1, hc2⟩ := item_at QV hil
          clear QV
          generalize bs[i] = y at hc0 hc1 hc2 HD
          obtain ⟨yt, yw, yd⟩ := y
          simp only at hc0 hc1 hc2 HD
          clear hc2
          have kN := fun i => (N.out.later EV.out).cell i
          have t6 := (EV.out.cell (p := ⟨g, j * 9 + 6, none⟩) hgl).trans T6.out
          cases hq : (bs.take i).any (onIt ap k) with
          | true =>
            rw [hq] at HD
            go_wp2
            go_quiet (fail)
            go_wp2
            go_roundg (bs.length - (i + 1))
            case measure => omega
            case rel => exact ⟨i + 1, by omega, by omega, by rw [HD.out]; rfl, by go_num, bdN EV.out _⟩
          | false =>
            rw [hq] at HD
            cases hw : yw == (k : Int) with
            | false =>
              rw [hw] at HD
              have hwd : decide (yw = (k : Int)) = false := by rw [decide_eq_false_iff_not]; exact beq_eq_false_iff_ne.1 hw
              go_wp2
              go_quiet (fail)
              go_wp2
              go_roundg (bs.length - (i + 1))
              case measure => omega
              case rel => exact ⟨i + 1, by omega, by omega, by rw [HD.out]; rfl, by go_num, bdN EV.out _⟩
            | true =>
              rw [hw] at HD
              have hwd : decide (yw = (k : Int)) = true := by rw [decide_eq_true_eq]; exact beq_iff_eq.1 hw
              go_wp2
              go_quiet (fail)
              go_wp2
              go_roundg (bs.length - (i + 1))
              case measure => omega
              case rel => exact ⟨i + 1, by omega, by omega, by rw [HD.out]; rfl, by go_num, bdN EV.out _⟩
        · have hilz : ¬ (i : Int) < (bs.length : Int) := by omega
          have he : i = bs.length := by omega
          subst he
          rw [List.take_length]
          have kN := fun i => (N.out.later EV.out).cell i
          have t5 := (EV.out.cell (p := ⟨g, j * 9 + 5, none⟩) hgl).trans T5.out
          have t6 := (EV.out.cell (p := ⟨g, j * 9 + 6, none⟩) hgl).trans T6.out
          generalize bs.any (onIt ap k) = fl at HK ⊢
          go_wp2_with fail
          clear kN t5 t6
          refine (impl_PplHas A1 c1 ps k ro _ ((P.out.below EV.out).more EV.out.size)).mono ?_
          rintro e w6 ⟨rfl, hb6⟩
          have EV := Lib.hid (EV.out.trans (hb6.mono EV.out.size))
          clear hb6
          have kN := fun i => (N.out.later EV.out).cell i
          have t6 := (EV.out.cell (p := ⟨g, j * 9 + 6, none⟩) hgl).trans T6.out
          cases hh : pplHas ps k ro with
          | false =>
            rw [hh] at HK
            go_wp2_with fail
            refine (laws_guHas G0 cg F k _ _ (G.out.later EV.out)).mono ?_
            rintro e w' ⟨rfl, rfl⟩
            rw [HK.out]
            go_wp2
            go_roundg (ps.length + 2 - (k + 1))
            case measure => omega
            case rel => exact ⟨k + 1, by omega, by omega, by go_num, EV.out⟩
          | true =>
            rw [hh] at HK
            go_wp2_with fail
            clear kN t6
            refine (impl_PplDid A2 c2 ds k ap _ none (D.out.later EV.out)).mono ?_
            rintro e w7 ⟨rfl, hb7⟩
            have EV := Lib.hid (EV.out.trans (hb7.mono EV.out.size))
            clear hb7
            generalize pplDid ds k ap = dd at HK ⊢
            cases dd <;> cases fl
            all_goals
              go_wp2_with fail
              refine (laws_guHas G0 cg F k _ _ (G.out.later EV.out)).mono ?_
              rintro e w' ⟨rfl, rfl⟩
              rw [HK.out]
              go_wp2
              go_roundg (ps.length + 2 - (k + 1))
              case measure => omega
              case rel => exact ⟨k + 1, by omega, by omega, by go_num, EV.out⟩
    · have hltz : ¬ (k : Int) ≤ (ps.length : Int) + 1 := by omega
      have BB := Lib.hid (B.out.trans (EW.out.mono B.out.size))
      go_wp2_with (go_at_call 22; refine (laws_guOk _).mono ?_; rintro e w10 ⟨rfl, hb⟩; have BB := Lib.hid (BB.out.trans (hb.mono BB.out.size)); clear hb)
      go_ret
      exact ⟨rfl, BB.out⟩
theorem walk_FnPplMay (A : Option Addr) (c : Nat) (xs : List Int) (w : World) (h : Code w w.heap.size A c xs) :
    Calls Try.prog 8 #[.slice A xs.length c] w fun e w' => e = .returned (.bool true) ∧ Below w.heap.size w w' := walk_FnPplMay_of busyLaw A c xs w h
end Go.Proofs.Ytkkjljpokannkaa
