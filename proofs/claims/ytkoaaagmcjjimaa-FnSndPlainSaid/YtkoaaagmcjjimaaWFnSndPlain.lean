/- The walk of FnSndPlain: it returns true. -/
import Derived.Test.YtkoaaagmcjjimaaDrawSnd
import Derived.Test.YtkoaaagmcjjimaaPlain
namespace Go.Proofs.Ytkoaaagmcjjimaa
open Go.RowKit
set_option linter.unusedSimpArgs false
set_option linter.unusedVariables false

theorem all_snoc {α : Type} (p : α → Bool) (xs : List α) (k : Nat) (hk : k < xs.length) : (xs.take (k + 1)).all p = ((xs.take k).all p && p xs[k]) := by
  rw [List.take_succ_eq_append_getElem hk, List.all_append]; simp
theorem plain_all (x : GNet) (h : netOk x = true) : plainOk x = x.tasks.all (fun t => !bent t) := by
  rw [plainOk, h, Bool.true_and, List.not_any_eq_all_not]

set_option maxRecDepth 100000 in
set_option maxHeartbeats 2000000 in
theorem walk_FnSndPlain (A : Option Addr) (c : Nat) (xs : List Int) (w : World) (h : Code w w.heap.size A c xs) :
    Calls Try.prog 4 #[.slice A xs.length c] w fun e w' => e = .returned (.bool true) ∧ Below w.heap.size w w' := by
  have hlen := h.1.1
  have HC := Lib.hid h
  clear h
  by_cases hl : 1048576 < xs.length
  · have hlz : (1048576 : Int) < (xs.length : Int) := by omega
    go_enter Try.func4, Try.ntmps4
    go_wp2
    go_ret
    exact ⟨rfl, Below.refl _ _⟩
  have hlz : ¬ (1048576 : Int) < (xs.length : Int) := by omega
  go_enter Try.func4, Try.ntmps4
  go_wp2_with fail
  refine (spec_DrawSndPlain A c xs w HC.out).mono ?_
  rintro e w1 ⟨x, g, c2, rfl, hrow, hok, hb1⟩
  have hx6 := hok.2.1
  have X1 := Lib.hid hrow
  have B1 := Lib.hid hb1
  clear hrow hb1 hok
  go_wp2_with fail
  refine callsAt fun V hV => ?_
  have P : Hid (Bk V w1.heap.size 37 #[.int .i64 x.places, .slice (some ⟨g, 0, none⟩) x.tasks.length c2]) := by show Bk _ _ _ _; rw [hV]; exact Bk.new rfl
  have hbV : Below w1.heap.size w1 V := by rw [hV]; exact (Below.refl _ _).alloc (Nat.le_refl _) _
  have X := Lib.hid (X1.out.later hbV)
  have B := Lib.hid (B1.out.trans (hbV.mono B1.out.size))
  clear hV hbV X1 B1
  refine (impl_SndPlain x _ _ _ _ X.out).mono ?_
  rintro e w2 ⟨rfl, hb⟩
  have P := Lib.hid (P.out.later hb)
  have X := Lib.hid (X.out.later hb)
  have B := Lib.hid (B.out.trans (hb.mono B.out.size))
  clear hb
  have kP := fun i => P.out.cell i
  obtain ⟨p, hp⟩ : ∃ p, p = plainOk x := ⟨_, rfl⟩
  have HP := Lib.hid hp
  rw [← hp]
  clear hp
  go_wp2_with fail
  clear kP
  refine (spec_SndPlain x _ _ _ _ X.out).mono ?_
  rintro e w3 ⟨rfl, hb⟩
  rw [← HP.out]
  have P := Lib.hid (P.out.later hb)
  have X := Lib.hid (X.out.later hb)
  have B := Lib.hid (B.out.trans (hb.mono B.out.size))
  clear hb
  have kP := fun i => P.out.cell i
  have hpp : (p != p) = false := by simp
  go_wp2_with fail
  clear kP hpp
  refine (spec_NetOk x _ _ _ ⟨_, c2, rfl, X.out⟩).mono ?_
  rintro e w4 ⟨rfl, hb⟩
  have P := Lib.hid (P.out.later hb)
  have X := Lib.hid (X.out.later hb)
  have B := Lib.hid (B.out.trans (hb.mono B.out.size))
  clear hb
  cases q : netOk x with
  | false =>
    obtain rfl : p = false := by rw [HP.out, plainOk, q]; rfl
    go_wp2_with (go_at_call 22; refine (laws_guOk _).mono ?_; rintro e w5 ⟨rfl, hb⟩; have B := Lib.hid (B.out.trans (hb.mono B.out.size)); clear hb)
    go_ret
    exact ⟨rfl, B.out⟩
  | true =>
    have HPA : Hid (p = x.tasks.all (fun t => !bent t)) := HP.out.trans (plain_all x q)
    clear q
    have kP := fun i => P.out.cell i
    go_wp2
    clear kP
    go_loopg [5, 6] x.tasks.length (fun gg s5 s6 wr => ∃ k : Nat, k ≤ x.tasks.length ∧ x.tasks.length - k ≤ gg ∧ s6 = .int .i64 k ∧ s5 = .bool ((x.tasks.take k).all (fun t => !bent t)) ∧ Aside (Below w4.heap.size w4 wr))
    case atStart => exact ⟨0, Nat.zero_le _, by omega, rfl, by simp, Below.refl _ _⟩
    case round =>
      obtain ⟨k, hk, hg, rfl, rfl, EW⟩ := hrel
      have kP := fun i => (P.out.later EW.out).cell i
      have BB := Lib.hid (B.out.trans (EW.out.mono B.out.size))
      by_cases hlt : k < x.tasks.length
      · have hltz : (k : Int) < (x.tasks.length : Int) := by omega
        obtain ⟨b, off, a1, d1, a2, d2, a3, d3, hA, hbb, _, e0, e1, e2, e3, e4, e5, e6, e7, e8⟩ := task_at (X.out.later EW.out) hlt
        have HM := Lib.hid (all_snoc (fun t => !bent t) x.tasks k hlt)
        cases hA
        simp only [Nat.zero_add] at e0 e1 e2 e3 e4 e5 e6 e7 e8
        generalize x.tasks[k] = y at e0 e1 e2 e3 e4 e5 e6 e7 e8 HM
        cases hd : (x.tasks.take k).all (fun t => !bent t) with
        | false =>
          rw [hd, Bool.false_and] at HM
          go_wp2
          go_roundg (x.tasks.length - (k + 1))
          case measure => omega
          case rel => exact ⟨k + 1, by omega, by omega, by go_num, by rw [HM.out], EW.out⟩
        | true =>
          rw [hd, Bool.true_and] at HM
          by_cases h3 : y.join = 3
          · have hb1 : (y.join != 3) = false := by simp [h3]
            have HM2 : Hid ((x.tasks.take (k + 1)).all (fun t => !bent t) = false) := by show _ = _; rw [HM.out]; simp [bent, h3]
            clear h3
            go_wp2
            go_roundg (x.tasks.length - (k + 1))
            case measure => omega
            case rel => exact ⟨k + 1, by omega, by omega, by go_num, by rw [HM2.out], EW.out⟩
          · have hb1 : (y.join != 3) = true := by simp [h3]
            by_cases hc : y.clear.length = 0
            · have hb2 : ((y.clear.length : Int) == 0) = true := by simp [hc]
              have HM2 : Hid ((x.tasks.take (k + 1)).all (fun t => !bent t) = true) := by show _ = _; rw [HM.out]; simp [bent, h3, hc]
              have HCL := Lib.hid hc
              clear h3 hc
              go_wp2
              go_roundg (x.tasks.length - (k + 1))
              case measure => omega
              case rel => exact ⟨k + 1, by omega, by omega, by go_num, by rw [HM2.out], EW.out⟩
            · have hb2 : ((y.clear.length : Int) == 0) = false := by rw [beq_eq_false_iff_ne]; omega
              have HM2 : Hid ((x.tasks.take (k + 1)).all (fun t => !bent t) = false) := by show _ = _; rw [HM.out]; simp [bent, h3]; omega
              clear h3 hc
              go_wp2
              go_roundg (x.tasks.length - (k + 1))
              case measure => omega
              case rel => exact ⟨k + 1, by omega, by omega, by go_num, by rw [HM2.out], EW.out⟩
      · have hltz : ¬ (k : Int) < (x.tasks.length : Int) := by omega
        have he : k = x.tasks.length := by omega
        subst he
        rw [List.take_length, ← HPA.out]
        have hpp : (p == p) = true := by simp
        go_wp2_with (go_at_call 22; refine (laws_guOk _).mono ?_; rintro e w5 ⟨rfl, hb⟩; have BB := Lib.hid (BB.out.trans (hb.mono BB.out.size)); clear hb)
        go_ret
        exact ⟨rfl, BB.out⟩
end Go.Proofs.Ytkoaaagmcjjimaa
