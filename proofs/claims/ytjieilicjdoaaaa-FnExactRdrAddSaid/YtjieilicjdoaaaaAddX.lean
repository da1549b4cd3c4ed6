/- The program's RdrAdd, each rule's data in a block of its own. -/
import Derived.Test.YtjieilicjdoaaaaCloneX
namespace Go.Proofs.Ytjieilicjdoaaaa
open Go.RowKit
set_option linter.unusedSimpArgs false
set_option linter.unusedVariables false

theorem fst_at {tz : List (GRule × Nat)} {t : List GRule} (h : tz.map Prod.fst = t) {i : Nat} (hj : i < tz.length) (hi : i < t.length) : tz[i].1 = t[i] := by
  subst h
  simp
theorem fst_set {tz : List (GRule × Nat)} {t : List GRule} (h : tz.map Prod.fst = t) {i : Nat} {r : GRule} {p : Nat} : (tz.set i (r, p)).map Prod.fst = t.set i r := by
  subst h
  simp [List.map_set]

set_option maxRecDepth 100000 in
set_option maxHeartbeats 8000000 in
theorem impl_RdrAddX (A A1 : Option Addr) (c c1 : Nat) (t : List GRule) (d : List Int) (x : GAsk) (a : Int) (m : Option Nat) (w : World) (hx : Rows ruleC m w w.heap.size A t) (hd : Ints w w.heap.size A1 d) (hl : t.length ≤ 1048576) (hs : ∀ r ∈ t, r.stone.length ≤ 1048576) (hld : d.length ≤ 1048576) :
    Calls Try.prog 11 #[.slice A t.length c, .slice A1 d.length c1, .agg #[.int .i64 x.op, .int .i64 x.var, .int .i64 x.k], .int .i64 a] w (AddedX t d x a w) := by
  have HX := Lib.hid hx
  have HD := Lib.hid hd
  have HSM := Lib.hid hs
  clear hx hd hs
  go_enter Try.func11, Try.ntmps11
  go_wp2_with fail
  refine callsAt fun W hW => ?_
  have bE : Bk W w.heap.size 32 #[.int .i64 x.op, .int .i64 x.var, .int .i64 x.k] := by rw [hW]; exact Bk.new rfl
  have hB0 : Below w.heap.size w W := by rw [hW]; exact (Below.refl _ _).alloc (Nat.le_refl _) _
  have hWs : W.heap.size = w.heap.size + 1 := by rw [hW]; simp
  have HWS := Lib.hid hWs
  have B0 := Lib.hid hB0
  have E0 := Lib.hid bE
  clear hW bE hB0 hWs
  refine (impl_cloneRulesX A c t m W (HX.out.later B0.out) hl HSM.out).mono ?_
  rintro e w1 ⟨v, tz, rfl, hz, hv, hk, hb1⟩
  have HZ := Lib.hid hz
  have KZ := Lib.hid hk
  have ZL : Hid (tz.length = t.length) := by show _ = _; rw [← hz, List.length_map]
  have ZS : Hid (∀ p ∈ tz, p.1.stone.length ≤ 1048576) := fun p hp => HSM.out p.1 (by rw [← hz]; exact List.mem_map_of_mem hp)
  clear hz hk
  have O1 := Lib.hid hv
  have E1 := Lib.hid (E0.out.later hb1)
  have s1 := hb1.size
  have B1 := Lib.hid (B0.out.trans (hb1.mono B0.out.size))
  clear hv hb1 E0
  go_wp2_with fail
  refine (impl_RdrOk A c t m w1 (HX.out.later B1.out) hl).mono ?_
  rintro e w2 ⟨rfl, hb2⟩
  have O2 := Lib.hid (O1.out.later hb2)
  have E2 := Lib.hid (E1.out.later hb2)
  have s2 := hb2.size
  have B2 := Lib.hid (B1.out.trans (hb2.mono B1.out.size))
  clear hb2 O1 E1 B1
  have HNO : Hid (∀ (V : World), OwnC ruleX 65 V W.heap.size v tz → (addOk t d x a = false ∨ clash t d x = true) → Below w.heap.size w V → w1.heap.size ≤ V.heap.size → AddedX t d x a w (.returned (.tuple #[v, .bool false])) V) := fun V h1 h2 h3 h4 => by
    obtain ⟨e1, e2⟩ := canAdd_no h2
    exact ⟨v, tz, by rw [e1], by rw [e2, HZ.out], h1.low (by have := HWS.out; omega), (KZ.out.more h4).low (by have := HWS.out; omega), h3⟩
  cases q1 : treeOk t with
  | false =>
    have HN := Lib.hid (HNO.out w2 O2.out (.inl (by unfold addOk; rw [q1]; rfl)) B2.out (by omega))
    go_wp2
    refine bodyPost_ret (v := .tuple #[v, .bool false]) (by simp [results, Try.results11, go_sem]) rfl ?_
    exact HN.out
  | true =>
    go_wp2_with fail
    refine (impl_DatOk A1 c1 d w2 (HD.out.later B2.out)).mono ?_
    rintro e w2' ⟨rfl, hb2'⟩
    have O2' := Lib.hid (O2.out.later hb2')
    have E2' := Lib.hid (E2.out.later hb2')
    have s2' := hb2'.size
    have B2' := Lib.hid (B2.out.trans (hb2'.mono B2.out.size))
    clear hb2' O2 E2 B2
    cases q2 : datOk d with
    | false =>
      have HN := Lib.hid (HNO.out w2' O2'.out (.inl (by unfold addOk; rw [q2]; simp)) B2'.out (by omega))
      go_wp2
      refine bodyPost_ret (v := .tuple #[v, .bool false]) (by simp [results, Try.results11, go_sem]) rfl ?_
      exact HN.out
    | true =>
      cases q4 : inB a 0 2 with
      | false =>
        have HN := Lib.hid (HNO.out w2' O2'.out (.inl (by unfold addOk; rw [q4]; simp)) B2'.out (by omega))
        go_wp2_with (go_at_call 39; refine (impl_isAnswer _ _).mono ?_; rintro e w' ⟨rfl, rfl⟩)
        refine bodyPost_ret (v := .tuple #[v, .bool false]) (by simp [results, Try.results11, go_sem]) rfl ?_
        exact HN.out
      | true =>
        have k2 := fun i => E2'.out.cell i
        have HD2 := Lib.hid (HD.out.later B2'.out)
        go_wp2_with (first | (go_at_call 39; refine (impl_isAnswer _ _).mono ?_; rintro e w' ⟨rfl, rfl⟩) | fail)
        refine (impl_ExpHolds x A1 c1 d w2' HD2.out).mono ?_
        rintro e w3 ⟨rfl, hb3⟩
        have O3 := Lib.hid (O2'.out.later hb3)
        have E3 := Lib.hid (E2'.out.later hb3)
        have s3 := hb3.size
        have B3 := Lib.hid (B2'.out.trans (hb3.mono B2'.out.size))
        clear hb3 k2 O2' E2' B2' HD2
        cases q3 : holds x d with
        | false =>
          have HN := Lib.hid (HNO.out w3 O3.out (.inl (by unfold addOk; rw [q3]; simp)) B3.out (by omega))
          go_wp2
          refine bodyPost_ret (v := .tuple #[v, .bool false]) (by simp [results, Try.results11, go_sem]) rfl ?_
          exact HN.out
        | true =>
          by_cases h12 : t.length = 12
          · have HN := Lib.hid (HNO.out w3 O3.out (.inl (by unfold addOk; rw [h12]; simp)) B3.out (by omega))
            have hz : ((t.length : Int) == 12) = true := by simp [h12]
            clear h12
            go_wp2
            refine bodyPost_ret (v := .tuple #[v, .bool false]) (by simp [results, Try.results11, go_sem]) rfl ?_
            exact HN.out
          · have hz : ((t.length : Int) == 12) = false := by rw [beq_eq_false_iff_ne]; omega
            have HAOK : Hid (addOk t d x a = true) := by show _ = _; unfold addOk; rw [q1, q2, q3, q4]; simp [h12]
            have HOK := Lib.hid q1
            have HDK := Lib.hid q2
            have H12 := Lib.hid (treeOk_len q1)
            have HEND : Hid (∀ (V : World) (u : Value) (uz : List (GRule × Nat)), uz.map Prod.fst = patched t d ++ [⟨x, -1, -1, a, d⟩] → OwnC ruleX 65 V W.heap.size u uz → BlkOk W.heap.size V.heap.size uz → clash t d x = false → Below w.heap.size w V → AddedX t d x a w (.returned (.tuple #[u, .bool true])) V) := fun V u uz h0 h1 hk h2 h3 => by
              obtain ⟨e1, e2⟩ := canAdd_yes HAOK.out h2
              exact ⟨u, uz, by rw [e1], by rw [e2]; exact h0, h1.low (by have := HWS.out; omega), hk.low (by have := HWS.out; omega), h3⟩
            clear q1 q2 q3 q4 h12
            go_upto_if 46 with fail
            clear hz
            go_cut [11, 12, 14, 15, 16] from 46 to 94 (fun _ _ _ _ _ wx => ∃ pz : List (GRule × Nat), Aside (pz.map Prod.fst = patched t d) ∧ Aside (OwnC ruleX 65 wx W.heap.size v pz) ∧ Aside (BlkOk W.heap.size wx.heap.size pz) ∧ Aside (clash t d x = false) ∧ Aside (AskS w.heap.size x wx) ∧ Aside (Below w.heap.size w wx) ∧ Aside (W.heap.size ≤ wx.heap.size))
            case first =>
              by_cases h0 : 0 < t.length
              · have h0z : (0 : Int) < (t.length : Int) := by omega
                obtain ⟨i, hi, hil⟩ := asked_some HOK.out h0 d
                have HI := Lib.hid hi
                go_wp2_with fail
                refine (impl_last A A1 c c1 t d m w3 (HX.out.later B3.out) (HD.out.later B3.out) HOK.out h0).mono ?_
                intro e w4 hL
                unfold LastD at hL
                rw [hi] at hL
                obtain ⟨rfl, hb4⟩ := hL
                have O4 := Lib.hid (O3.out.later hb4)
                have E4 := Lib.hid (E3.out.later hb4)
                have B4 := Lib.hid (B3.out.trans (hb4.mono B3.out.size))
                have s4 := hb4.size
                clear hb4 O3 E3 B3 hi h0z
                generalize hLD : lastHolds t d = ld
                have HLD := Lib.hid hLD
                clear hLD
                go_wp2
                go_loopg [14, 15, 16, 55] t.length (fun gg _ _ _ s55 wr => ∃ k : Nat, k ≤ t.length ∧ t.length - k ≤ gg ∧ s55 = .int .i64 k ∧ Aside (Below w4.heap.size w4 wr) ∧ Aside ((t.take k).any (fun r => sameL t r.stone d && holds x r.stone) = false))
                case atStart => exact ⟨0, Nat.zero_le _, by omega, rfl, Below.refl _ _, by show (t.take 0).any _ = false; simp⟩
                case round =>
                  obtain ⟨k, hk, hg, rfl, BW, AN⟩ := hrel
                  have BR := Lib.hid (B4.out.trans (BW.out.mono B4.out.size))
                  by_cases hlt : k < t.length
                  · have hltz : (k : Int) < (t.length : Int) := by omega
                    obtain ⟨b, off, A3, c3, rfl, hb, hr, hd0, hd1, hd2, hd3, hd4, hd5, hd6⟩ := rule_at (HX.out.below BR.out) hlt
                    have HR := Lib.hid (hr.more BR.out.size)
                    have HMISS := Lib.hid (fun h => any_miss (fun r : GRule => sameL t r.stone d && holds x r.stone) t k hlt AN.out h)
                    have HHIT := Lib.hid (fun h => any_hit (fun r : GRule => sameL t r.stone d && holds x r.stone) t k hlt h)
                    clear hr
                    generalize t[k] = y at hd0 hd1 hd2 hd3 hd4 hd5 hd6 HR HMISS HHIT
                    go_upto_region 9 with fail
                    generalize hV : wr.alloc _ = V
                    have bV : Hid (Bk V wr.heap.size 65 #[.int .i64 y.ask.op, .int .i64 y.ask.var, .int .i64 y.ask.k, .int .i64 y.yes, .int .i64 y.no, .int .i64 y.ans, .slice A3 y.stone.length c3]) := by show Bk _ _ _ _; rw [← hV]; exact Bk.new rfl
                    have hBV : Below wr.heap.size wr V := by rw [← hV]; exact (Below.refl _ _).alloc (Nat.le_refl _) _
                    have QV := Lib.hid hBV
                    have RV := Lib.hid (HR.out.later hBV).ints
                    clear hV hd0 hd1 hd2 hd3 hd4 hd5 hd6 HR hBV
                    have kV := fun i => bV.out.cell i
                    have BRV := Lib.hid (BR.out.trans (QV.out.mono BR.out.size))
                    obtain ⟨j, hj, hjl⟩ := asked_some HOK.out h0 y.stone
                    go_wp2_with fail
                    refine (impl_last _ A3 c c3 t y.stone m V (HX.out.later BRV.out) RV.out HOK.out h0).mono ?_
                    intro e w5 hL
                    unfold LastD at hL
                    rw [hj] at hL
                    obtain ⟨rfl, hb5⟩ := hL
                    have Q5 := Lib.hid (QV.out.trans (hb5.mono QV.out.size))
                    have b5 := Lib.hid (bV.out.later hb5)
                    have E5 := Lib.hid (E4.out.later (BW.out.trans ((QV.out.trans (hb5.mono QV.out.size)).mono BW.out.size)))
                    have R5 := Lib.hid (RV.out.later hb5)
                    clear hb5 kV bV RV
                    have k5 := fun i => b5.out.cell i
                    have kE := fun i => E5.out.cell i
                    have HSL : Hid (sameL t y.stone d = (decide ((j : Int) = (i : Int)) && (lastHolds t y.stone == ld))) := by show _ = _; rw [sameL_some (by rw [hj]; omega), hj, HI.out, HLD.out]
                    have BW5 := Lib.hid (BW.out.trans (Q5.out.mono BW.out.size))
                    have HGO : Hid (∀ V' : World, Below w5.heap.size w5 V' → Below w4.heap.size w4 V') := fun V' h => BW5.out.trans (h.mono BW5.out.size)
                    generalize lastHolds t y.stone = ly at HSL ⊢
                    clear hj
                    by_cases hji : (j : Int) = (i : Int)
                    · have e1 : ((j : Int) == (i : Int)) = true := by simp [hji]
                      by_cases hll : ly = ld
                      · have e2 : (ly == ld) = true := by simp [hll]
                        have HSL2 : Hid (sameL t y.stone d = true) := by show _ = _; rw [HSL.out, decide_eq_true hji, hll]; simp
                        subst hll
                        clear hji
                        go_wp2_with fail
                        refine (impl_ExpHolds x A3 c3 y.stone w5 R5.out).mono ?_
                        rintro e w6 ⟨rfl, hb6⟩
                        have BW6 := Lib.hid (HGO.out w6 hb6)
                        clear k5 kE
                        cases qq : holds x y.stone with
                        | true =>
                          have HN := Lib.hid (HNO.out w6 (O4.out.later BW6.out) (.inr (HHIT.out (by rw [HSL2.out, qq]; rfl))) (B4.out.trans (BW6.out.mono B4.out.size)) (by have := BW6.out.size; omega))
                          go_wp2
                          refine bodyPost_ret (v := .tuple #[v, .bool false]) (by simp [results, Try.results11, go_sem]) rfl ?_
                          exact HN.out
                        | false =>
                          have HS := Lib.hid (HMISS.out (by rw [qq]; simp))
                          go_wp2
                          go_roundg (t.length - (k + 1))
                          case measure => omega
                          case rel => exact ⟨k + 1, by omega, by omega, by go_num, BW6.out, HS.out⟩
                      · have HS := Lib.hid (HMISS.out (by rw [HSL.out]; simp [hll]))
                        have e2 : ld = !ly := by revert hll; cases ly <;> cases ld <;> decide
                        subst e2
                        clear hll hji k5 kE
                        cases ly with
                        | true =>
                          go_wp2
                          go_roundg (t.length - (k + 1))
                          case measure => omega
                          case rel => exact ⟨k + 1, by omega, by omega, by go_num, BW5.out, HS.out⟩
                        | false =>
                          go_wp2
                          go_roundg (t.length - (k + 1))
                          case measure => omega
                          case rel => exact ⟨k + 1, by omega, by omega, by go_num, BW5.out, HS.out⟩
                    · have HS := Lib.hid (HMISS.out (by rw [HSL.out]; simp [hji]))
                      have e1 : ((j : Int) == (i : Int)) = false := by simp [hji]
                      clear hji k5 kE
                      go_wp2
                      go_roundg (t.length - (k + 1))
                      case measure => omega
                      case rel => exact ⟨k + 1, by omega, by omega, by go_num, BW5.out, HS.out⟩
                  · have hltz : ¬ (k : Int) < (t.length : Int) := by omega
                    have he : k = t.length := by omega
                    have HCL : Hid (clash t d x = false) := by
                      show _ = _
                      have h := AN.out
                      rw [he, List.take_length] at h
                      exact h
                    have HP : Hid (patched t d = t.set i (pointed t[i] ld t.length)) := by
                      show _ = _
                      unfold patched
                      rw [HI.out, if_neg (by omega), rule_get hil, Int.toNat_natCast, HLD.out]
                    have O5 := Lib.hid (O4.out.later BW.out)
                    have E5 := Lib.hid (E4.out.later BW.out)
                    have hiz : (i : Int) < (t.length : Int) := by omega
                    clear he AN
                    have hO5c : OwnC ruleC 65 wr W.heap.size v t := by
                      have h := ownX_own O5.out ZS.out
                      rw [HZ.out] at h
                      exact h
                    have O5c := Lib.hid hO5c
                    clear hO5c
                    obtain ⟨g, cg, rfl, hgb, hgl, hfr⟩ := O5c.out.form h0
                    obtain ⟨Ao, co, hv, hrow⟩ := O5c.out.rows (by omega)
                    have hiz' : i < tz.length := by rw [ZL.out]; exact hil
                    have O5z : Hid (OwnC ruleX 65 wr W.heap.size (.slice (some ⟨g, 0, none⟩) tz.length cg) tz) := by show OwnC _ _ _ _ _ _; rw [ZL.out]; exact O5.out
                    have K5 : Hid (BlkOk W.heap.size wr.heap.size tz) := KZ.out.more (by have := BW.out.size; omega)
                    simp only [Value.slice.injEq, true_and] at hv
                    obtain ⟨rfl, rfl⟩ := hv
                    obtain ⟨b', off', A3', c3', hA', hb', hr', e0, e1, e2, e3, e4, e5, e6⟩ := rule_at hrow hil
                    simp only [Option.some.injEq, Addr.mk.injEq, and_true] at hA'
                    obtain ⟨rfl, rfl⟩ := hA'
                    rw [Nat.zero_add] at e3 e4
                    have hgw : w.heap.size ≤ g := by have := HWS.out; omega
                    have hgne : w.heap.size ≠ g := by have := HWS.out; omega
                    have hwc : W.heap.size ≤ wr.heap.size := by have := BW.out.size; omega
                    clear hr' e0 e1 e2 e5 e6 hrow
                    cases ld with
                    | true =>
                      have HS := Lib.hid (O5z.out.set hiz' (i := 3) (by decide) (.int .i64 t.length) (pointed tz[i].1 true t.length, tz[i].2) (fun lo B cs h1 h2 h3 h4 => by
                        obtain ⟨Aq, cq, rfl, hrq⟩ := h4
                        exact ⟨lo, B, h1, h2, h3, Aq, cq, rfl, hrq⟩)).1
                      have HM : Hid ((tz.set i (pointed tz[i].1 true t.length, tz[i].2)).map Prod.fst = patched t d) := by show _ = _; rw [HP.out, fst_set HZ.out, fst_at HZ.out hiz' hil]
                      have HKS := Lib.hid (K5.out.set hiz' (pointed tz[i].1 true t.length))
                      have HE := Lib.hid (AskS.of (E5.out.far (p := ⟨g, i * 7 + 3, none⟩) hgne (.int .i64 t.length)))
                      have HBW := Lib.hid (BR.out.setCell (p := ⟨g, i * 7 + 3, none⟩) hgw (.int .i64 t.length))
                      clear e4
                      go_wp2
                      go_meet
                      case rel => exact ⟨_, HM.out, by show OwnC _ _ _ _ _ _; have h := HS.out; rw [ZL.out] at h; exact h, by show BlkOk _ _ _; have h := HKS.out; simpa [World.setCell] using h, HCL.out, HE.out, HBW.out, by show _ ≤ _; simpa [World.setCell] using hwc⟩
                    | false =>
                      have HS := Lib.hid (O5z.out.set hiz' (i := 4) (by decide) (.int .i64 t.length) (pointed tz[i].1 false t.length, tz[i].2) (fun lo B cs h1 h2 h3 h4 => by
                        obtain ⟨Aq, cq, rfl, hrq⟩ := h4
                        exact ⟨lo, B, h1, h2, h3, Aq, cq, rfl, hrq⟩)).1
                      have HM : Hid ((tz.set i (pointed tz[i].1 false t.length, tz[i].2)).map Prod.fst = patched t d) := by show _ = _; rw [HP.out, fst_set HZ.out, fst_at HZ.out hiz' hil]
                      have HKS := Lib.hid (K5.out.set hiz' (pointed tz[i].1 false t.length))
                      have HE := Lib.hid (AskS.of (E5.out.far (p := ⟨g, i * 7 + 4, none⟩) hgne (.int .i64 t.length)))
                      have HBW := Lib.hid (BR.out.setCell (p := ⟨g, i * 7 + 4, none⟩) hgw (.int .i64 t.length))
                      clear e3
                      go_wp2
                      go_meet
                      case rel => exact ⟨_, HM.out, by show OwnC _ _ _ _ _ _; have h := HS.out; rw [ZL.out] at h; exact h, by show BlkOk _ _ _; have h := HKS.out; simpa [World.setCell] using h, HCL.out, HE.out, HBW.out, by show _ ≤ _; simpa [World.setCell] using hwc⟩
              · have h0z : ¬ (0 : Int) < (t.length : Int) := by omega
                have ht : t = [] := List.eq_nil_of_length_eq_zero (by omega)
                subst ht
                go_wp2
                go_meet
                case rel => exact ⟨tz, HZ.out, O3.out, KZ.out.more (by omega), rfl, AskS.of E3.out, B3.out, by show _ ≤ _; omega⟩
            case rest =>
              obtain ⟨pz, PM, OC, KC, CL, EC, BC, WC⟩ := hcut
              have hpl : pz.length = t.length := by rw [← List.length_map (f := Prod.fst), PM.out]; unfold patched; split <;> simp
              have HWS' := HWS.out
              have hWc := WC.out
              have s4 := BC.out.size
              have HS : Hid (AskS w.heap.size x wc.drew) := EC.out
              have HDd : Hid (Ints wc.drew wc.drew.heap.size A1 d) := (HD.out.later BC.out : Ints wc wc.heap.size A1 d)
              have OCd : Hid (OwnC ruleX 65 wc.drew W.heap.size v pz) := OC.out
              have HLT := Lib.hid (OC.out.lt)
              have HPL := Lib.hid hpl
              clear hpl
              go_upto_region 16 with fail
              go_region_held3 (fun V : World => V.cell? ⟨w.heap.size, 0, none⟩ = some (.int .i64 x.op) ∧ V.cell? ⟨w.heap.size, 1, none⟩ = some (.int .i64 x.var) ∧ V.cell? ⟨w.heap.size, 2, none⟩ = some (.int .i64 x.k)) (first | exact HS.out | exact HS6.out | exact HS6A.out | exact HS7.out)
                (first
                  | (go_at_call 42; refine (impl_cloneInts A1 c1 d _ HDd.out hld).mono ?_; rintro e w6 ⟨v6, rfl, hown, hb6⟩; obtain ⟨A2, c2, p6, rfl, hq1, hq2, hq3, hrow6⟩ := hown.block; have HRW : Hid (0 < d.length → A2 = some ⟨p6, 0, none⟩ ∧ Wr w6 p6 3 (iv d)) := hrow6; have HQ : Hid (wc.heap.size ≤ p6 ∧ (0 < d.length → p6 < w6.heap.size) ∧ (p6 = wc.heap.size ∨ p6 < w6.heap.size)) := ⟨hq1, hq2, hq3⟩; have HB6 : Hid (Below wc.heap.size wc.drew w6) := hb6; have HS6 := Lib.hid (HS.out.low HB6.out (by omega)); have HS6A := Lib.hid (HS6.out.low ((Below.refl w6.heap.size w6).alloc (Nat.le_refl _) (.cells #[.int .i64 x.op, .int .i64 x.var, .int .i64 x.k, .int .i64 (-1), .int .i64 (-1), .int .i64 a, .slice A2 d.length c2] 65)) (by have h := HB6.out.size; have hq : wc.drew.heap.size = wc.heap.size := rfl; omega)); clear hown hb6 hrow6 hq1 hq2 hq3)
                  | (refine step_C rfl (.tmp 95) (.tmp 101) 27 rfl ruleX 65 _ 72 Try.underlying27 info_Rule rfl (by decide) (by decide) W.heap.size _ pz rfl ((OCd.out.later HB6.out).later ((Below.refl _ _).alloc (Nat.le_refl _) _)) ((⟨x, -1, -1, a, d⟩ : GRule), p6) [.int .i64 x.op, .int .i64 x.var, .int .i64 x.k, .int .i64 (-1), .int .i64 (-1), .int .i64 a, .slice A2 d.length c2] wc.heap.size w6.heap.size ⟨A2, c2, rfl, fun h0 => ⟨(HRW.out h0).1, (HRW.out h0).2.alloc _, wr_okB ((HRW.out h0).2.alloc _) HQ.out.1 (HQ.out.2.1 h0)⟩⟩ (by omega) (by simp) (fun g hg => .inl (HLT.out g hg).2) w6.heap.size rfl (fun j u hu => by rw [Bk.cell (Bk.new rfl)]; simpa using hu) (by simp [Value.oneCell']) (by have := HPL.out; omega) (by have h := HB6.out.size; have hq : wc.drew.heap.size = wc.heap.size := rfl; simp only [World.size_alloc]; omega) ?_; intro v7 w7 hown7 hb7; have HO7 := Lib.hid hown7; have HB7 := Lib.hid hb7; have HS7 := Lib.hid (HS6A.out.low hb7 (by omega)); clear hown7 hb7))
              all_goals go_wp2
              all_goals refine bodyPost_ret (v := .tuple #[v7, .bool true]) (by simp [results, Try.results11, go_sem]) rfl ?_
              all_goals exact HEND.out w7 v7 _ (by rw [List.map_append, PM.out]; rfl) HO7.out (KC.out.snoc _ HQ.out.1 (by have h := HB6.out.size; have hq : wc.drew.heap.size = wc.heap.size := rfl; have h7 := HB7.out.size; simp only [World.size_alloc] at h7; have := HQ.out.2.2; show p6 < _; omega) WC.out) CL.out ((((BC.out.drew).trans (HB6.out.mono s4)).alloc (by have h := HB6.out.size; have hq : wc.drew.heap.size = wc.heap.size := rfl; omega) _).trans (HB7.out.mono (by omega)))
end Go.Proofs.Ytjieilicjdoaaaa
