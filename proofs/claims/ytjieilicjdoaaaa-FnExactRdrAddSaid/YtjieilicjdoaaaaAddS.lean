/- The reference's RdrAdd. -/
import Derived.Test.YtjieilicjdoaaaaAddTools
import Derived.Test.YtjieilicjdoaaaaSameS
import Derived.Deep.RegionWith
namespace Go.Proofs.Ytjieilicjdoaaaa
open Go.RowKit

theorem OwnC.low {α : Type} {C : Cod α} {e : TypeId} {w : World} {base base' : Nat} {v : Value} {xs : List α} (h : OwnC C e w base v xs) (hb : base' ≤ base) : OwnC C e w base' v xs := by
  obtain ⟨css, c1, c2, c3⟩ := h
  refine ⟨css, c1, fun j cs hj => ?_, c3.1, ?_⟩
  · obtain ⟨x, lo, B, a1, a2, a3, a4, a5⟩ := c2 j cs hj
    exact ⟨x, lo, B, a1, by omega, a3, a4, a5⟩
  · rcases c3.2 with hn | ⟨g, cap, cur, hv, hbb, rest⟩
    · exact .inl hn
    · exact .inr ⟨g, cap, cur, hv, by omega, rest⟩

/-- What putting a rule in leaves. -/
def AddedT (t : List GRule) (d : List Int) (x : GAsk) (a : Int) (w : World) (e : Ending) (w' : World) : Prop :=
  ∃ v, e = .returned (.tuple #[v, .bool (canAdd t d x a)]) ∧ OwnC ruleC 65 w' w.heap.size v (rdrAdd t d x a) ∧ Below w.heap.size w w'

theorem canAdd_no {t : List GRule} {d : List Int} {x : GAsk} {a : Int} (h : addOk t d x a = false ∨ clash t d x = true) : canAdd t d x a = false ∧ rdrAdd t d x a = t := by
  have h1 : canAdd t d x a = false := by
    unfold canAdd
    rcases h with h | h <;> simp [h]
  exact ⟨h1, by unfold rdrAdd; rw [h1]; rfl⟩
theorem canAdd_yes {t : List GRule} {d : List Int} {x : GAsk} {a : Int} (h : addOk t d x a = true) (h2 : clash t d x = false) : canAdd t d x a = true ∧ rdrAdd t d x a = added t d x a := by
  have h1 : canAdd t d x a = true := by
    unfold canAdd
    rw [h, h2]; rfl
  exact ⟨h1, by unfold rdrAdd; rw [h1]; rfl⟩
/-- The cells of a question in a block. -/
def AskS (b : Nat) (x : GAsk) (W : World) : Prop := W.cell? ⟨b, 0, none⟩ = some (.int .i64 x.op) ∧ W.cell? ⟨b, 1, none⟩ = some (.int .i64 x.var) ∧ W.cell? ⟨b, 2, none⟩ = some (.int .i64 x.k)
theorem AskS.of {b : Nat} {x : GAsk} {W : World} (h : Bk W b 32 #[.int .i64 x.op, .int .i64 x.var, .int .i64 x.k]) : AskS b x W := ⟨h.cell 0, h.cell 1, h.cell 2⟩
theorem AskS.low {b B : Nat} {x : GAsk} {w w' : World} (h : AskS b x w) (hb : Below B w w') (hB : b < B) : AskS b x w' :=
  ⟨(hb.cell (p := ⟨b, 0, none⟩) hB).trans h.1, (hb.cell (p := ⟨b, 1, none⟩) hB).trans h.2.1, (hb.cell (p := ⟨b, 2, none⟩) hB).trans h.2.2⟩
theorem pointed_cells (y : GRule) (h : Bool) (n : Int) : (pointed y h n).stone = y.stone ∧ (pointed y h n).ask = y.ask ∧ (pointed y h n).ans = y.ans ∧ (pointed y h n).yes = (if h then n else y.yes) ∧ (pointed y h n).no = (if h then y.no else n) := by
  cases h <;> exact ⟨rfl, rfl, rfl, rfl, rfl⟩

set_option maxRecDepth 100000 in
set_option maxHeartbeats 8000000 in
theorem spec_RdrAdd (A A1 : Option Addr) (c c1 : Nat) (t : List GRule) (d : List Int) (x : GAsk) (a : Int) (m : Option Nat) (w : World) (hx : Rows ruleC m w w.heap.size A t) (hd : Ints w w.heap.size A1 d) (hl : t.length ≤ 1048576) (hs : ∀ r ∈ t, r.stone.length ≤ 1048576) (hld : d.length ≤ 1048576) :
    Calls Try.prog 7 #[.slice A t.length c, .slice A1 d.length c1, .agg #[.int .i64 x.op, .int .i64 x.var, .int .i64 x.k], .int .i64 a] w (AddedT t d x a w) := by
  have HX := Lib.hid hx
  have HD := Lib.hid hd
  have HSM := Lib.hid hs
  clear hx hd hs
  go_enter Try.func7, Try.ntmps7
  go_wp2_with fail
  refine callsAt fun W hW => ?_
  have bE : Bk W w.heap.size 32 #[.int .i64 x.op, .int .i64 x.var, .int .i64 x.k] := by rw [hW]; exact Bk.new rfl
  have hB0 : Below w.heap.size w W := by rw [hW]; exact (Below.refl _ _).alloc (Nat.le_refl _) _
  have hWs : W.heap.size = w.heap.size + 1 := by rw [hW]; simp
  have HWS := Lib.hid hWs
  have B0 := Lib.hid hB0
  have E0 := Lib.hid bE
  clear hW bE hB0 hWs
  refine (spec_l7Copy A c t m W (HX.out.later B0.out) hl HSM.out).mono ?_
  rintro e w1 ⟨v, rfl, hv, hb1⟩
  have O1 := Lib.hid hv
  have E1 := Lib.hid (E0.out.later hb1)
  have s1 := hb1.size
  have B1 := Lib.hid (B0.out.trans (hb1.mono B0.out.size))
  clear hv hb1 E0
  go_wp2_with fail
  refine (spec_RdrOk A c t m w1 (HX.out.later B1.out)).mono ?_
  rintro e w2 ⟨rfl, hb2⟩
  have O2 := Lib.hid (O1.out.later hb2)
  have E2 := Lib.hid (E1.out.later hb2)
  have s2 := hb2.size
  have B2 := Lib.hid (B1.out.trans (hb2.mono B1.out.size))
  clear hb2 O1 E1 B1
  have HNO : Hid (∀ (V : World), OwnC ruleC 65 V W.heap.size v t → (addOk t d x a = false ∨ clash t d x = true) → Below w.heap.size w V → AddedT t d x a w (.returned (.tuple #[v, .bool false])) V) := fun V h1 h2 h3 => by
    obtain ⟨e1, e2⟩ := canAdd_no h2
    exact ⟨v, by rw [e1], by rw [e2]; exact h1.low (by have := HWS.out; omega), h3⟩
  cases q1 : treeOk t with
  | false =>
    have HN := Lib.hid (HNO.out w2 O2.out (.inl (by unfold addOk; rw [q1]; rfl)) B2.out)
    go_wp2
    refine bodyPost_ret (v := .tuple #[v, .bool false]) (by simp [results, Try.results7, go_sem]) rfl ?_
    exact HN.out
  | true =>
    go_wp2_with fail
    refine (spec_DatOk A1 c1 d w2 _ (HD.out.later B2.out)).mono ?_
    rintro e w2' ⟨rfl, rfl⟩
    cases q2 : datOk d with
    | false =>
      have HN := Lib.hid (HNO.out w2 O2.out (.inl (by unfold addOk; rw [q2]; simp)) B2.out)
      go_wp2
      refine bodyPost_ret (v := .tuple #[v, .bool false]) (by simp [results, Try.results7, go_sem]) rfl ?_
      exact HN.out
    | true =>
      have k2 := fun i => E2.out.cell i
      go_wp2_with fail
      refine (spec_ExpHolds x A1 c1 d w2 (HD.out.later B2.out)).mono ?_
      rintro e w3 ⟨rfl, hb3⟩
      have O3 := Lib.hid (O2.out.later hb3)
      have E3 := Lib.hid (E2.out.later hb3)
      have s3 := hb3.size
      have B3 := Lib.hid (B2.out.trans (hb3.mono B2.out.size))
      clear hb3 k2 O2 E2 B2
      cases q3 : holds x d with
      | false =>
        have HN := Lib.hid (HNO.out w3 O3.out (.inl (by unfold addOk; rw [q3]; simp)) B3.out)
        go_wp2
        refine bodyPost_ret (v := .tuple #[v, .bool false]) (by simp [results, Try.results7, go_sem]) rfl ?_
        exact HN.out
      | true =>
        cases q4 : inB a 0 2 with
        | false =>
          have HN := Lib.hid (HNO.out w3 O3.out (.inl (by unfold addOk; rw [q4]; simp)) B3.out)
          go_wp2_with (go_at_call 32; refine (l1In _ _ _ _).mono ?_; rintro e w' ⟨rfl, rfl⟩)
          refine bodyPost_ret (v := .tuple #[v, .bool false]) (by simp [results, Try.results7, go_sem]) rfl ?_
          exact HN.out
        | true =>
          by_cases h12 : t.length = 12
          · have HN := Lib.hid (HNO.out w3 O3.out (.inl (by unfold addOk; rw [h12]; simp)) B3.out)
            have hz : ((t.length : Int) == 12) = true := by simp [h12]
            clear h12
            go_wp2_with (go_at_call 32; refine (l1In _ _ _ _).mono ?_; rintro e w' ⟨rfl, rfl⟩)
            refine bodyPost_ret (v := .tuple #[v, .bool false]) (by simp [results, Try.results7, go_sem]) rfl ?_
            exact HN.out
          · have hz : ((t.length : Int) == 12) = false := by rw [beq_eq_false_iff_ne]; omega
            have HAOK : Hid (addOk t d x a = true) := by show _ = _; unfold addOk; rw [q1, q2, q3, q4]; simp [h12]
            have HOK := Lib.hid q1
            have HDK := Lib.hid q2
            have H12 := Lib.hid (treeOk_len q1)
            go_wp2_with (go_at_call 32; refine (l1In _ _ _ _).mono ?_; rintro e w' ⟨rfl, rfl⟩)
            clear q1 q2 q3 q4 h12 hz
            go_loopg [11] t.length (fun gg s11 wr => ∃ k : Nat, k ≤ t.length ∧ t.length - k ≤ gg ∧ s11 = .int .i64 k ∧ Aside (Below w3.heap.size w3 wr) ∧ Aside ((t.take k).any (fun r => sameL t r.stone d && holds x r.stone) = false))
            case atStart => exact ⟨0, Nat.zero_le _, by omega, rfl, Below.refl _ _, by show (t.take 0).any _ = false; simp⟩
            case round =>
              obtain ⟨k, hk, hg, rfl, BW, AN⟩ := hrel
              have BR := Lib.hid (B3.out.trans (BW.out.mono B3.out.size))
              have ER := Lib.hid (E3.out.later BW.out)
              have OR := Lib.hid (O3.out.later BW.out)
              by_cases hlt : k < t.length
              · have hltz : (k : Int) < (t.length : Int) := by omega
                obtain ⟨b, off, A3, c3, rfl, hb, hr, hd0, hd1, hd2, hd3, hd4, hd5, hd6⟩ := rule_at (HX.out.below BR.out) hlt
                have HR := Lib.hid ((hr.more BR.out.size).ints)
                have HMISS := Lib.hid (fun h => any_miss (fun r : GRule => sameL t r.stone d && holds x r.stone) t k hlt AN.out h)
                have HHIT := Lib.hid (fun h => any_hit (fun r : GRule => sameL t r.stone d && holds x r.stone) t k hlt h)
                clear hr hd0 hd1 hd2 hd3 hd4 hd5
                generalize t[k] = y at hd6 HR HMISS HHIT
                go_upto_region 7 with fail
                have kE := fun i => ER.out.cell i
                have HSAME : Hid (∀ V : World, Below wr.heap.size wr V → Calls Try.prog 33 #[.slice (some ⟨b, off, none⟩) t.length c, .slice A3 y.stone.length c3, .slice A1 d.length c1] V (Says (.bool (sameL t y.stone d)) V)) := fun V hV => spec_l7Same _ _ _ _ _ _ t y.stone d m V ((HX.out.later BR.out).later hV) (HR.out.later hV) ((HD.out.later BR.out).later hV) HOK.out
                have HEXP : Hid (∀ V : World, Below wr.heap.size wr V → Calls Try.prog 31 #[.agg #[.int .i64 x.op, .int .i64 x.var, .int .i64 x.k], .slice A3 y.stone.length c3] V (Says (.bool (holds x y.stone)) V)) := fun V hV => spec_ExpHolds x _ _ y.stone V (HR.out.later hV)
                go_cut [63] from 47 to 64 (fun s63 wx => s63 = .bool (sameL t y.stone d && holds x y.stone) ∧ Aside (Below wr.heap.size wr wx))
                case first =>
                  cases q : sameL t y.stone d with
                  | false =>
                    rw [q] at HSAME
                    first | (go_region_with (go_at_call 33; refine (HSAME.out _ ?_).mono ?_; exact (Below.refl _ _).drew; rintro e w6 ⟨rfl, hb6⟩)) | fail
                    all_goals go_wp2
                    all_goals go_meet
                    all_goals (case rel => exact ⟨by rw [q]; rfl, (Below.refl _ _).drew.trans hb6⟩)
                  | true =>
                    rw [q] at HSAME
                    first | (go_region_with (first | (go_at_call 33; refine (HSAME.out _ ?_).mono ?_; exact (Below.refl _ _).drew; rintro e w6 ⟨rfl, hb6⟩; have k6 := (fun i => (ER.out.later (((Below.refl wr.heap.size wr).drew).trans hb6)).cell i); have h6 := (hb6.cell (p := ⟨b, off + k * 7 + 6, none⟩) (by have := BR.out.size; show b < wr.heap.size; omega)).trans (show wr.drew.cell? ⟨b, off + k * 7 + 6, none⟩ = some (.slice A3 y.stone.length c3) from hd6)) | (go_at_call 31; refine (HEXP.out _ ?_).mono ?_; exact ((Below.refl _ _).drew).trans hb6; rintro e w7 ⟨rfl, hb7⟩))) | fail
                    all_goals go_wp2
                    all_goals go_meet
                    all_goals (case rel => exact ⟨by rw [q]; rfl, ((Below.refl wr.heap.size wr).drew.trans hb6).trans (hb7.mono hb6.size)⟩)
                case rest =>
                  obtain ⟨rfl, BC⟩ := hcut
                  have BW2 := Lib.hid (BW.out.trans (BC.out.mono BW.out.size))
                  cases q : (sameL t y.stone d && holds x y.stone) with
                  | true =>
                    have HN := Lib.hid (HNO.out wc (O3.out.later BW2.out) (.inr (HHIT.out q)) (B3.out.trans (BW2.out.mono B3.out.size)))
                    clear kE
                    go_wp2
                    refine bodyPost_ret (v := .tuple #[v, .bool false]) (by simp [results, Try.results7, go_sem]) rfl ?_
                    exact HN.out
                  | false =>
                    have HS := Lib.hid (HMISS.out q)
                    clear kE
                    go_wp2
                    go_roundg (t.length - (k + 1))
                    case measure => omega
                    case rel => exact ⟨k + 1, by omega, by omega, by go_num, BW2.out, HS.out⟩
              · have hltz : ¬ (k : Int) < (t.length : Int) := by omega
                have he : k = t.length := by omega
                have HCL : Hid (clash t d x = false) := by
                  show _ = _
                  have h := AN.out
                  rw [he, List.take_length] at h
                  exact h
                obtain ⟨hc1, hc2⟩ := canAdd_yes HAOK.out HCL.out
                have HC1 := Lib.hid hc1
                have HC2 := Lib.hid hc2
                clear he hc1 hc2 AN
                go_wp2_with fail
                refine (spec_l7Walk A A1 c c1 t d m wr (HX.out.later BR.out) (HD.out.later BR.out) HOK.out).mono ?_
                intro e w4 hWk
                unfold Walked at hWk
                obtain ⟨rfl, hb4⟩ := hWk
                have B4 := Lib.hid (BR.out.trans (hb4.mono BR.out.size))
                have E4 := Lib.hid (ER.out.later hb4)
                have O4 := Lib.hid (OR.out.later hb4)
                have ea : lastOf (wayL t d) = asked t d := rfl
                rw [ea]
                generalize heldOf t d (wayL t d) = hh
                have HWC : Hid (W.heap.size ≤ w4.heap.size) := by
                  show _ ≤ _
                  have := hb4.size
                  have := BW.out.size
                  omega
                clear hb4 ea BW BR ER OR O3 E3 B3
                go_upto_if 72 with fail
                go_cut [13] from 65 to 100 (fun _ wx => Aside (OwnC ruleC 65 wx W.heap.size v (patched t d)) ∧ Aside (AskS w.heap.size x wx) ∧ Aside (Below w.heap.size w wx) ∧ Aside (W.heap.size ≤ wx.heap.size))
                case first =>
                  rcases asked_in HOK.out d with hq | ⟨i, hq, hil⟩
                  · have HP : Hid (patched t d = t) := by show _ = _; unfold patched; rw [if_pos hq]
                    rw [hq]
                    clear hq
                    go_wp2
                    go_meet
                    case rel => exact ⟨by show OwnC _ _ _ _ _ _; rw [HP.out]; exact O4.out, AskS.of E4.out, B4.out, HWC.out⟩
                  · have HP : Hid (patched t d = t.set i (pointed t[i] (holds t[i].ask d) t.length)) := by
                      show _ = _
                      unfold patched lastHolds
                      rw [if_neg (by omega), hq, rule_get hil, Int.toNat_natCast]
                    have hiz : (i : Int) < (t.length : Int) := by omega
                    have b1 : ((i : Int) != -1) = true := by simp
                    rw [hq]
                    clear hq
                    obtain ⟨b, off, A3, c3, rfl, hb, hr, hd0, hd1, hd2, hd3, hd4, hd5, hd6⟩ := rule_at (HX.out.below B4.out) hil
                    clear hr hd3 hd4 hd5 hd6
                    have HTI : Hid (∃ r, r = t[i]) := ⟨_, rfl⟩
                    go_wp2_with fail
                    refine (spec_ExpHolds t[i].ask A1 c1 d w4 (HD.out.later B4.out)).mono ?_
                    rintro e w5 ⟨rfl, hb5⟩
                    have B5 := Lib.hid (B4.out.trans (hb5.mono B4.out.size))
                    have E5 := Lib.hid (E4.out.later hb5)
                    have O5 := Lib.hid (O4.out.later hb5)
                    have HWC5 : Hid (W.heap.size ≤ w5.heap.size) := Nat.le_trans HWC.out hb5.size
                    clear hb5 hd0 hd1 hd2
                    obtain ⟨g, cg, rfl, hgb, hgl, hfr⟩ := O5.out.form (by omega)
                    obtain ⟨Ao, co, hv, hrow⟩ := O5.out.rows (by omega)
                    simp only [Value.slice.injEq, true_and] at hv
                    obtain ⟨rfl, rfl⟩ := hv
                    obtain ⟨b', off', A3', c3', hA', hb', hr', e0, e1, e2, e3, e4, e5, e6⟩ := rule_at hrow hil
                    simp only [Option.some.injEq, Addr.mk.injEq, and_true] at hA'
                    obtain ⟨rfl, rfl⟩ := hA'
                    rw [Nat.zero_add] at e3 e4
                    have hgw : w.heap.size ≤ g := by have := HWS.out; omega
                    have hgne : w.heap.size ≠ g := by have := HWS.out; omega
                    clear hr' e0 e1 e2 e5 e6 hrow
                    cases q : holds t[i].ask d with
                    | true =>
                      rw [q] at HP
                      have HS := Lib.hid (O5.out.set hil (i := 3) (by decide) (.int .i64 t.length) (pointed t[i] true t.length) (fun lo B cs h1 h2 h3 h4 => by
                        obtain ⟨Aq, cq, rfl, hrq⟩ := h4
                        exact ⟨lo, B, h1, h2, h3, Aq, cq, rfl, hrq⟩)).1
                      have HE := Lib.hid (AskS.of (E5.out.far (p := ⟨g, i * 7 + 3, none⟩) hgne (.int .i64 t.length)))
                      have HBW := Lib.hid (B5.out.setCell (p := ⟨g, i * 7 + 3, none⟩) hgw (.int .i64 t.length))
                      clear e4
                      go_wp2
                      go_meet
                      case rel => exact ⟨by show OwnC _ _ _ _ _ _; rw [HP.out]; exact HS.out, HE.out, HBW.out, by show _ ≤ _; have := HWC5.out; simpa [World.setCell] using this⟩
                    | false =>
                      rw [q] at HP
                      have HS := Lib.hid (O5.out.set hil (i := 4) (by decide) (.int .i64 t.length) (pointed t[i] false t.length) (fun lo B cs h1 h2 h3 h4 => by
                        obtain ⟨Aq, cq, rfl, hrq⟩ := h4
                        exact ⟨lo, B, h1, h2, h3, Aq, cq, rfl, hrq⟩)).1
                      have HE := Lib.hid (AskS.of (E5.out.far (p := ⟨g, i * 7 + 4, none⟩) hgne (.int .i64 t.length)))
                      have HBW := Lib.hid (B5.out.setCell (p := ⟨g, i * 7 + 4, none⟩) hgw (.int .i64 t.length))
                      clear e3
                      go_wp2
                      go_meet
                      case rel => exact ⟨by show OwnC _ _ _ _ _ _; rw [HP.out]; exact HS.out, HE.out, HBW.out, by show _ ≤ _; have := HWC5.out; simpa [World.setCell] using this⟩
                case rest =>
                  obtain ⟨OC, EC, BC, WC⟩ := hcut
                  have hpl : (patched t d).length = t.length := by unfold patched; split <;> simp
                  have HWS' := HWS.out
                  have hWc := WC.out
                  have s4 := BC.out.size
                  have HS : Hid (AskS w.heap.size x wc.drew) := EC.out
                  have HSA : Hid (AskS w.heap.size x (wc.drew.alloc (.cells #[] 3))) := HS.out.low ((Below.refl wc.drew.heap.size wc.drew).alloc (Nat.le_refl _) _) (by show w.heap.size < wc.heap.size; omega)
                  have HD14 : Hid (Ints (wc.drew.alloc (.cells #[] 3)) w.heap.size A1 d) := HD.out.below (BC.out.drew.alloc s4 _)
                  have OCd : Hid (OwnC ruleC 65 wc.drew W.heap.size v (patched t d)) := OC.out
                  have HLT := Lib.hid (OC.out.lt)
                  have HPL := Lib.hid hpl
                  clear hpl
                  go_upto_region 14 with fail
                  go_region_held3 (fun V : World => V.cell? ⟨w.heap.size, 0, none⟩ = some (.int .i64 x.op) ∧ V.cell? ⟨w.heap.size, 1, none⟩ = some (.int .i64 x.var) ∧ V.cell? ⟨w.heap.size, 2, none⟩ = some (.int .i64 x.k)) (first | exact HS.out | exact HSA.out | exact HS6.out | exact HS6A.out | exact HS7.out)
                    (first
                      | (refine step_intsA rfl (.tmp 95) (.tmp 96) rfl wc.heap.size _ [] rfl (OwnV.made' (w := wc.drew) (Nat.le_refl _)) A1 c1 _ d rfl HD14.out (by rw [List.length_nil]; omega) (by simp) ?_; intro v6 w6 hown hb6; rw [List.nil_append] at hown; obtain ⟨A2, c2, rfl, hrow6⟩ := hown.rows (by omega); have HRW := Lib.hid hrow6; have HB6 := Lib.hid (((Below.refl wc.heap.size wc.drew).alloc (Nat.le_refl _) (.cells #[] 3)).trans hb6); have HS6 := Lib.hid (HS.out.low HB6.out (by omega)); have HS6A := Lib.hid (HS6.out.low ((Below.refl w6.heap.size w6).alloc (Nat.le_refl _) (.cells #[.int .i64 x.op, .int .i64 x.var, .int .i64 x.k, .int .i64 (-1), .int .i64 (-1), .int .i64 a, .slice A2 d.length c2] 65)) (by have h := HB6.out.size; have hq : wc.drew.heap.size = wc.heap.size := rfl; omega)); clear hown hb6 hrow6)
                      | (refine step_C rfl (.tmp 92) (.tmp 99) 27 rfl ruleC 65 _ 72 Try.underlying27 info_Rule rfl (by decide) (by decide) W.heap.size _ (patched t d) rfl ((OCd.out.later HB6.out).later ((Below.refl _ _).alloc (Nat.le_refl _) _)) ⟨x, -1, -1, a, d⟩ [.int .i64 x.op, .int .i64 x.var, .int .i64 x.k, .int .i64 (-1), .int .i64 (-1), .int .i64 a, .slice A2 d.length c2] wc.heap.size w6.heap.size ⟨A2, c2, rfl, HRW.out.below ((Below.refl _ _).alloc (Nat.le_refl _) _)⟩ (by omega) (by simp) (fun g hg => .inl (HLT.out g hg).2) w6.heap.size rfl (fun j u hu => by rw [Bk.cell (Bk.new rfl)]; simpa using hu) (by simp [Value.oneCell']) (by have := HPL.out; omega) (by have h := HB6.out.size; have hq : wc.drew.heap.size = wc.heap.size := rfl; simp only [World.size_alloc]; omega) ?_; intro v7 w7 hown7 hb7; have HO7 := Lib.hid hown7; have HB7 := Lib.hid hb7; have HS7 := Lib.hid (HS6A.out.low hb7 (by omega)); clear hown7 hb7))
                  all_goals go_wp2
                  refine bodyPost_ret (v := .tuple #[v7, .bool true]) (by simp [results, Try.results7, go_sem]) rfl ?_
                  exact ⟨v7, by rw [HC1.out], by rw [HC2.out]; exact HO7.out.low (by omega), (((BC.out.drew).trans (HB6.out.mono s4)).alloc (by have h := HB6.out.size; have hq : wc.drew.heap.size = wc.heap.size := rfl; omega) _).trans (HB7.out.mono (by omega))⟩
end Go.Proofs.Ytjieilicjdoaaaa
