/- The reference's RdrOk. -/
import Derived.Test.YtjieilicjdoaaaaExp
namespace Go.Proofs.Ytjieilicjdoaaaa
open Go.RowKit

/-- The cells of a rule. -/
def GRule.cells (y : GRule) (A : Option Addr) (c : Nat) : Array Value := #[.int .i64 y.ask.op, .int .i64 y.ask.var, .int .i64 y.ask.k, .int .i64 y.yes, .int .i64 y.no, .int .i64 y.ans, .slice A y.stone.length c]

theorem nextOk_split (y : Int) (i n : Nat) : (y = -1 ∧ nextOk y i n = true) ∨ (y ≠ -1 ∧ nextOk y i n = inB y (i + 1) (n - 1)) := by
  by_cases h : y = -1
  · exact .inl ⟨h, by simp [nextOk, h]⟩
  · exact .inr ⟨h, by simp [nextOk, h]⟩

set_option maxRecDepth 100000 in
set_option maxHeartbeats 4000000 in
theorem spec_RdrOk (A : Option Addr) (c : Nat) (t : List GRule) (m : Option Nat) (w : World) (hx : Rows ruleC m w w.heap.size A t) :
    Calls Try.prog 29 #[.slice A t.length c] w (Says (.bool (treeOk t)) w) := by
  have hlen := hx.1
  have HX := Lib.hid hx
  clear hx
  by_cases h12 : t.length ≤ 12
  · have HF : Hid (treeOk t = allTo (fun i => ruleAt t i && onceAt t i) t.length) := by show _ = _; simp [treeOk, h12]
    have hz : ¬ (12 : Int) < (t.length : Int) := by omega
    go_enter Try.func29, Try.ntmps29
    go_wp2
    clear hz
    go_loopg [3, 4, 5, 6] t.length (fun gg s3 _ _ _ wr => ∃ k : Nat, k ≤ t.length ∧ t.length - k ≤ gg ∧ s3 = .int .i64 k ∧ Aside (Below w.heap.size w wr) ∧ Aside (allTo (fun i => ruleAt t i && onceAt t i) k = true))
    case atStart => exact ⟨0, Nat.zero_le _, by omega, rfl, Below.refl _ _, rfl⟩
    case round =>
      obtain ⟨k, hk, hg, rfl, BW, AN⟩ := hrel
      by_cases hlt : k < t.length
      · have hltz : (k : Int) < (t.length : Int) := by omega
        obtain ⟨b, off, A1, c1, rfl, hb, hr, hd0, hd1, hd2, hd3, hd4, hd5, hd6⟩ := rule_at (HX.out.below BW.out) hlt
        have HR := Lib.hid (hr.more BW.out.size)
        have HAt : Hid (ruleAt t k = ((holds t[k].ask t[k].stone && inB t[k].ans 0 2) && (nextOk t[k].yes k t.length && nextOk t[k].no k t.length))) := by
          show _ = _
          unfold ruleAt
          rw [getD_get hlt]
        clear hr
        generalize t[k] = y at hd0 hd1 hd2 hd3 hd4 hd5 hd6 HR HAt
        go_upto_region 7 with fail
        generalize hV : wr.alloc _ = V
        have bV : Hid (Bk V wr.heap.size 65 #[.int .i64 y.ask.op, .int .i64 y.ask.var, .int .i64 y.ask.k, .int .i64 y.yes, .int .i64 y.no, .int .i64 y.ans, .slice A1 y.stone.length c1]) := by show Bk _ _ _ _; rw [← hV]; exact Bk.new rfl
        have EV := Lib.hid (BW.out.trans (by rw [← hV]; exact (Below.refl _ _).alloc BW.out.size _) : Below w.heap.size w V)
        have RV := Lib.hid (HR.out.later (by rw [← hV]; exact (Below.refl _ _).alloc (Nat.le_refl _) _) : Rows intC m V V.heap.size A1 y.stone)
        clear hV hd0 hd1 hd2 hd3 hd4 hd5 hd6 HR
        go_cut [43] from 20 to 106 (fun s43 wx => s43 = .bool (!(holds y.ask y.stone && inB y.ans 0 2)) ∧ Aside (Below V.heap.size V wx))
        case first =>
          have kV := fun i => bV.out.cell i
          go_wp2_with fail
          refine (spec_ExpOk y.ask V).mono ?_
          rintro e V1 ⟨rfl, hb1⟩
          have B1 := Lib.hid hb1
          have b1 := bV.out.later hb1
          clear kV
          have k1 := fun i => b1.cell i
          clear hb1
          cases q1 : askOk y.ask with
          | false =>
            have HH : Hid ((holds y.ask y.stone && inB y.ans 0 2) = false) := by show _ = _; rw [holds_no (.inl q1)]; rfl
            clear b1
            go_wp2
            go_meet
            case rel => exact ⟨by rw [HH.out]; rfl, B1.out⟩
          | true =>
            cases q2 : inB y.ans 0 2 with
            | false =>
              have HH : Hid ((holds y.ask y.stone && inB y.ans 0 2) = false) := by show _ = _; rw [q2]; simp
              clear b1
              go_wp2_with (go_at_call 32; refine (l1In _ _ _ _).mono ?_; rintro e w' ⟨rfl, rfl⟩)
              go_meet
              case rel => exact ⟨by rw [HH.out]; rfl, B1.out⟩
            | true =>
              cases q3 : datOk y.stone with
              | false =>
                have HH : Hid ((holds y.ask y.stone && inB y.ans 0 2) = false) := by show _ = _; rw [holds_no (.inr q3)]; rfl
                clear b1
                have D1 := Lib.hid ((RV.out.later B1.out).ints)
                go_wp2_with (first | (go_at_call 32; refine (l1In _ _ _ _).mono ?_; rintro e w' ⟨rfl, rfl⟩) | (go_at_call 30; refine (spec_DatOk _ _ _ _ _ D1.out).mono ?_; rintro e w' ⟨rfl, rfl⟩))
                go_meet
                case rel => exact ⟨by rw [HH.out]; rfl, B1.out⟩
              | true =>
                clear b1
                have HQ := Lib.hid q2
                have D1 := Lib.hid ((RV.out.later B1.out).ints)
                go_wp2_with (first | (go_at_call 32; refine (l1In _ _ _ _).mono ?_; rintro e w' ⟨rfl, rfl⟩) | (go_at_call 30; refine (spec_DatOk _ _ _ _ _ D1.out).mono ?_; rintro e w' ⟨rfl, rfl⟩) | (go_at_call 31; refine (spec_ExpHolds y.ask _ _ _ _ D1.out).mono ?_; rintro e w' ⟨rfl, hb2⟩; have B2 := Lib.hid hb2; clear hb2))
                go_meet
                case rel => exact ⟨by rw [HQ.out, Bool.and_true], B1.out.trans (B2.out.mono B1.out.size)⟩
        case rest =>
          obtain ⟨rfl, BC⟩ := hcut
          have bC := Lib.hid (bV.out.later BC.out)
          have EC := Lib.hid (EV.out.trans (BC.out.mono EV.out.size))
          clear bV EV RV BC
          have kC := fun i => bC.out.cell i
          cases q : (holds y.ask y.stone && inB y.ans 0 2) with
          | false =>
            have HS : Hid (allTo (fun i => ruleAt t i && onceAt t i) t.length = false) := allTo_fail hlt (by rw [HAt.out, q]; rfl)
            go_wp2
            go_ret
            exact ⟨by rw [HF.out, HS.out]; rfl, EC.out⟩
          | true =>
            rw [q] at HAt
            go_upto_region 9 with fail
            go_cut [73] from 44 to 106 (fun s73 wx => s73 = .bool (!(nextOk y.yes k t.length && nextOk y.no k t.length)) ∧ wx = wc)
            case first =>
              rcases nextOk_split y.yes k t.length with ⟨hy, hy2⟩ | ⟨hy, hy2⟩
              · have b1 : (y.yes != -1) = false := by simp [hy]
                have HY := Lib.hid hy2
                clear hy hy2
                rcases nextOk_split y.no k t.length with ⟨hn, hn2⟩ | ⟨hn, hn2⟩
                · have b2 : (y.no != -1) = false := by simp [hn]
                  have HN := Lib.hid hn2
                  clear hn hn2
                  go_wp2
                  go_meet
                  case rel => exact ⟨by rw [HY.out, HN.out]; rfl, rfl⟩
                · have b2 : (y.no != -1) = true := by simp [hn]
                  have HN := Lib.hid hn2
                  clear hn hn2
                  go_wp2_with (go_at_call 32; refine (l1In _ _ _ _).mono ?_; rintro e w' ⟨rfl, rfl⟩)
                  go_meet
                  case rel => exact ⟨by rw [HY.out, HN.out]; rfl, rfl⟩
              · have b1 : (y.yes != -1) = true := by simp [hy]
                have HY := Lib.hid hy2
                clear hy hy2
                cases q5 : inB y.yes (k + 1) (t.length - 1) with
                | false =>
                  have HQ := Lib.hid q5
                  go_wp2_with (go_at_call 32; refine (l1In _ _ _ _).mono ?_; rintro e w' ⟨rfl, rfl⟩)
                  go_meet
                  case rel => exact ⟨by rw [HY.out, HQ.out]; rfl, rfl⟩
                | true =>
                  have HQ := Lib.hid q5
                  rcases nextOk_split y.no k t.length with ⟨hn, hn2⟩ | ⟨hn, hn2⟩
                  · have b2 : (y.no != -1) = false := by simp [hn]
                    have HN := Lib.hid hn2
                    clear hn hn2
                    go_wp2_with (go_at_call 32; refine (l1In _ _ _ _).mono ?_; rintro e w' ⟨rfl, rfl⟩)
                    go_meet
                    case rel => exact ⟨by rw [HY.out, HQ.out, HN.out]; rfl, rfl⟩
                  · have b2 : (y.no != -1) = true := by simp [hn]
                    have HN := Lib.hid hn2
                    clear hn hn2
                    go_wp2_with (go_at_call 32; refine (l1In _ _ _ _).mono ?_; rintro e w' ⟨rfl, rfl⟩)
                    go_meet
                    case rel => exact ⟨by rw [HY.out, HQ.out, HN.out]; rfl, rfl⟩
            case rest =>
              obtain ⟨rfl, hwc⟩ := hcut
              have hwc' := hwc.symm
              clear hwc
              subst hwc'
              cases q7 : (nextOk y.yes k t.length && nextOk y.no k t.length) with
              | false =>
                have HS : Hid (allTo (fun i => ruleAt t i && onceAt t i) t.length = false) := allTo_fail hlt (by rw [HAt.out, q7]; rfl)
                go_wp2
                go_ret
                exact ⟨by rw [HF.out, HS.out]; rfl, EC.out⟩
              | true =>
                rw [q7] at HAt
                clear kC bC
                go_wp2
                go_loopg [5, 6] t.length (fun gg s5 s6 wi => ∃ j : Nat, j ≤ t.length ∧ t.length - j ≤ gg ∧ s6 = .int .i64 j ∧ s5 = .int .i64 (named t j k : Nat) ∧ Aside (wc = wi))
                case atStart => exact ⟨0, Nat.zero_le _, by omega, rfl, by rw [named_zero]; rfl, rfl⟩
                case round =>
                  obtain ⟨j, hj, hg2, rfl, rfl, EW⟩ := hrel
                  obtain rfl := EW.out
                  by_cases hjl : j < t.length
                  · have hjz : (j : Int) < (t.length : Int) := by omega
                    obtain ⟨b', off', A2, c2, hA', hb', hr', he0, he1, he2, he3, he4, he5, he6⟩ := rule_at (HX.out.below EC.out) hjl
                    cases hA'
                    have HN := Lib.hid (named_succ t j k hjl)
                    have hnl := named_le t k j (by omega)
                    clear hr' he0 he1 he2 he5 he6
                    generalize t[j] = z at he3 he4 HN
                    by_cases z1 : z.yes = (k : Int)
                    · have e1 : (z.yes == (k : Int)) = true := by simp [z1]
                      have H1 : Hid (hit z.yes k = 1) := if_pos z1
                      clear z1
                      by_cases z2 : z.no = (k : Int)
                      · have e2 : (z.no == (k : Int)) = true := by simp [z2]
                        have H2 : Hid (hit z.no k = 1) := if_pos z2
                        clear z2
                        go_wp2
                        go_roundg (t.length - (j + 1))
                        case measure => omega
                        case rel => exact ⟨j + 1, by omega, by omega, by go_num, by rw [HN.out, H1.out, H2.out]; go_num, rfl⟩
                      · have e2 : (z.no == (k : Int)) = false := by simp [z2]
                        have H2 : Hid (hit z.no k = 0) := if_neg z2
                        clear z2
                        go_wp2
                        go_roundg (t.length - (j + 1))
                        case measure => omega
                        case rel => exact ⟨j + 1, by omega, by omega, by go_num, by rw [HN.out, H1.out, H2.out]; go_num, rfl⟩
                    · have e1 : (z.yes == (k : Int)) = false := by simp [z1]
                      have H1 : Hid (hit z.yes k = 0) := if_neg z1
                      clear z1
                      by_cases z2 : z.no = (k : Int)
                      · have e2 : (z.no == (k : Int)) = true := by simp [z2]
                        have H2 : Hid (hit z.no k = 1) := if_pos z2
                        clear z2
                        go_wp2
                        go_roundg (t.length - (j + 1))
                        case measure => omega
                        case rel => exact ⟨j + 1, by omega, by omega, by go_num, by rw [HN.out, H1.out, H2.out]; go_num, rfl⟩
                      · have e2 : (z.no == (k : Int)) = false := by simp [z2]
                        have H2 : Hid (hit z.no k = 0) := if_neg z2
                        clear z2
                        go_wp2
                        go_roundg (t.length - (j + 1))
                        case measure => omega
                        case rel => exact ⟨j + 1, by omega, by omega, by go_num, by rw [HN.out, H1.out, H2.out]; go_num, rfl⟩
                  · have hjz : ¬ (j : Int) < (t.length : Int) := by omega
                    have he : j = t.length := by omega
                    have HO : Hid (onceAt t k = decide (named t j k = if k = 0 then 0 else 1)) := by show _ = _; rw [he]; rfl
                    clear he
                    generalize named t j k = n at HO
                    by_cases ok : n = if k = 0 then 0 else 1
                    · have HS : Hid (allTo (fun i => ruleAt t i && onceAt t i) (k + 1) = true) := allTo_step AN.out (by rw [HAt.out, HO.out, decide_eq_true ok]; rfl)
                      by_cases k0 : k = 0
                      · rw [if_pos k0] at ok
                        subst ok k0
                        go_wp2
                        go_roundg (t.length - (0 + 1))
                        case measure => omega
                        case rel => exact ⟨0 + 1, by omega, by omega, by go_num, EC.out, HS.out⟩
                      · rw [if_neg k0] at ok
                        subst ok
                        have g1 : ((k : Int) == 0) = false := by simp; omega
                        clear k0
                        go_wp2
                        go_roundg (t.length - (k + 1))
                        case measure => omega
                        case rel => exact ⟨k + 1, by omega, by omega, by go_num, EC.out, HS.out⟩
                    · have HS : Hid (allTo (fun i => ruleAt t i && onceAt t i) t.length = false) := allTo_fail hlt (by rw [HAt.out, HO.out, decide_eq_false ok]; rfl)
                      by_cases k0 : k = 0
                      · rw [if_pos k0] at ok
                        subst k0
                        have g2 : ((n : Int) == 0) = false := by simp; omega
                        clear ok
                        go_wp2
                        go_ret
                        exact ⟨by rw [HF.out, HS.out]; rfl, EC.out⟩
                      · rw [if_neg k0] at ok
                        have g1 : ((k : Int) == 0) = false := by simp; omega
                        clear k0
                        by_cases n0 : n = 0
                        · subst n0
                          clear ok
                          go_wp2
                          go_ret
                          exact ⟨by rw [HF.out, HS.out]; rfl, EC.out⟩
                        · have g2 : ((n : Int) == 0) = false := by simp; omega
                          have g3 : (1 : Int) < (n : Int) := by omega
                          clear n0 ok
                          go_wp2
                          go_ret
                          exact ⟨by rw [HF.out, HS.out]; rfl, EC.out⟩
      · have hltz : ¬ (k : Int) < (t.length : Int) := by omega
        have he : k = t.length := by omega
        have HE := Lib.hid he
        clear he
        go_wp2
        go_ret
        have h1 := AN.out
        rw [HE.out] at h1
        exact ⟨by rw [HF.out, h1]; rfl, BW.out⟩
  · have HF : Hid (treeOk t = false) := by show _ = _; simp [treeOk, h12]
    have hz : (12 : Int) < (t.length : Int) := by omega
    go_enter Try.func29, Try.ntmps29
    go_wp2
    go_ret
    exact ⟨by rw [HF.out]; rfl, Below.refl _ _⟩
end Go.Proofs.Ytjieilicjdoaaaa
