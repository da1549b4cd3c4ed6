/- Rules copied by the program; the last rule that is asked. -/
import Derived.Test.YtjieilicjdoaaaaAddS
namespace Go.Proofs.Ytjieilicjdoaaaa
open Go.RowKit

set_option maxRecDepth 100000 in
set_option maxHeartbeats 4000000 in
theorem impl_cloneRules (A : Option Addr) (c : Nat) (t : List GRule) (m : Option Nat) (w : World) (hx : Rows ruleC m w w.heap.size A t) (hl : t.length ≤ 1048576) (hs : ∀ x ∈ t, x.stone.length ≤ 1048576) :
    Calls Try.prog 36 #[.slice A t.length c] w (GivesT t w) := by
  have HX := Lib.hid hx
  have HS := Lib.hid hs
  clear hx hs
  go_enter Try.func36, Try.ntmps36
  go_wp2
  go_loopg [3, 5, 8] t.length (fun gg s3 _ s8 wr => ∃ k : Nat, k ≤ t.length ∧ t.length - k ≤ gg ∧ s8 = .int .i64 k ∧ Aside (OwnC ruleC 65 wr w.heap.size s3 (t.take k)) ∧ Aside (Below w.heap.size w wr))
  case atStart => exact ⟨0, Nat.zero_le _, by omega, rfl, OwnC.nil _ _, Below.refl _ _⟩
  case round =>
    obtain ⟨k, hk, hg, rfl, OW, BW⟩ := hrel
    by_cases hlt : k < t.length
    · have hltz : (k : Int) < (t.length : Int) := by omega
      obtain ⟨b, off, A1, c1, rfl, hb, hr, hd0, hd1, hd2, hd3, hd4, hd5, hd6⟩ := rule_at (HX.out.below BW.out) hlt
      have HR := Lib.hid (hr.more BW.out.size)
      have hsl := HS.out t[k] (List.getElem_mem hlt)
      have HT : Hid (t.take (k + 1) = t.take k ++ [t[k]]) := List.take_succ_eq_append_getElem hlt
      have htl : (t.take k).length = k := by rw [List.length_take]; omega
      clear hr
      generalize t[k] = y at hd0 hd1 hd2 hd3 hd4 hd5 hd6 HR HT hsl
      go_upto_region 5 with fail
      generalize hV : wr.alloc _ = V
      have bV : Hid (Bk V wr.heap.size 65 #[.int .i64 y.ask.op, .int .i64 y.ask.var, .int .i64 y.ask.k, .int .i64 y.yes, .int .i64 y.no, .int .i64 y.ans, .slice A1 y.stone.length c1]) := by show Bk _ _ _ _; rw [← hV]; exact Bk.new rfl
      have hVs : Hid (V.heap.size = wr.heap.size + 1) := by show _ = _; rw [← hV]; simp
      have BV : Hid (Below wr.heap.size wr V) := by show Below _ _ _; rw [← hV]; exact (Below.refl _ _).alloc (Nat.le_refl _) _
      clear hV hd0 hd1 hd2 hd3 hd4 hd5 hd6
      have kV := fun i => bV.out.cell i
      have RV := Lib.hid (HR.out.later BV.out)
      go_upto_region 6 with (go_at_call 42; refine (impl_cloneInts A1 c1 y.stone V RV.out.ints hsl).mono ?_; rintro e w2 ⟨v', rfl, hown2, hb2⟩; obtain ⟨A2, c2, rfl, hrow2⟩ := hown2.rows (by omega); have HRW := Lib.hid hrow2; have HB2 := Lib.hid hb2; have k2 := (fun i => (bV.out.later HB2.out).cell i); have f2 := (fun i => (bV.out.later HB2.out).frozen i); clear hown2 hb2 hrow2)
      have hrow := HRW.out
      have b2 := bV.out.later HB2.out
      have hw2s := HB2.out.size
      have hVs := hVs.out
      generalize hU : w2.setCell _ _ = U
      have bU : Hid (Bk U wr.heap.size 65 #[.int .i64 y.ask.op, .int .i64 y.ask.var, .int .i64 y.ask.k, .int .i64 y.yes, .int .i64 y.no, .int .i64 y.ans, .slice A2 y.stone.length c2]) := by show Bk _ _ _ _; rw [← hU]; exact b2.set 6 _
      have BU : Hid (Below wr.heap.size wr U) := by
        show Below _ _ _
        rw [← hU]
        exact (BV.out.trans (HB2.out.mono (by omega))).setCell (p := ⟨wr.heap.size, 6, none⟩) (Nat.le_refl _) _
      have hUs : Hid (U.heap.size = w2.heap.size) := by show _ = _; rw [← hU]; simp
      have RU : Hid (Rows intC (some V.heap.size) U U.heap.size A2 y.stone) := by
        show Rows _ _ _ _ _ _
        rw [hUs.out, ← hU]
        exact hrow.keep ((Agree.refl _ _ _).set (p := ⟨wr.heap.size, 6, none⟩) (by show wr.heap.size < V.heap.size; omega) _)
      have HVS := Lib.hid hVs
      clear hVs
      clear hU b2 hrow kV k2 f2 HRW HB2 RV bV BV
      have kU := fun i => bU.out.cell i
      have OU := Lib.hid (OW.out.later BU.out)
      have hlo := BW.out.size
      go_wp2_with (at_builtin; refine append_C rfl (.tmp 16) (.tmp 18) 27 rfl ruleC 65 _ 72 Try.underlying27 info_Rule rfl (by decide) (by decide) w.heap.size _ (t.take k) rfl (OU.out.later ((Below.refl _ _).alloc (Nat.le_refl _) _)) y [.int .i64 y.ask.op, .int .i64 y.ask.var, .int .i64 y.ask.k, .int .i64 y.yes, .int .i64 y.no, .int .i64 y.ans, .slice A2 y.stone.length c2] V.heap.size U.heap.size ⟨A2, c2, rfl, RU.out.below ((Below.refl _ _).alloc (Nat.le_refl _) _)⟩ (by have := HVS.out; omega) (by simp) (fun g hg => .inl (by have := (OW.out.lt g hg).2; have := HVS.out; omega)) U.heap.size rfl (fun j u hu => by rw [Bk.cell (Bk.new rfl)]; simpa using hu) (by simp [Value.oneCell']) (by omega) (by have := HVS.out; have := hUs.out; simp only [World.size_alloc]; omega) ?_; intro v' w4 hown hg4 hb4; have OW4 := Lib.hid hown; have B4 := Lib.hid hb4; clear hown hg4 hb4)
      go_roundg (t.length - (k + 1))
      case measure => omega
      case rel => exact ⟨k + 1, by omega, by omega, by go_num, by show OwnC _ _ _ _ _ _; rw [HT.out]; exact OW4.out, ((BW.out.trans (BU.out.mono BW.out.size)).alloc (by have := HVS.out; have := hUs.out; omega) _).trans B4.out⟩
    · have hltz : ¬ (k : Int) < (t.length : Int) := by omega
      have he : k = t.length := by omega
      have HE : Hid (t.take k = t) := by show _ = _; rw [he, List.take_length]
      clear he
      go_wp2
      go_ret
      exact ⟨_, rfl, by have := OW.out; rw [HE.out] at this; exact this, BW.out⟩

/-- What asking for the last rule leaves. -/
def LastD (t : List GRule) (d : List Int) (w : World) (e : Ending) (w' : World) : Prop := e = .returned (.tuple #[.int .i64 (asked t d), .bool (lastHolds t d)]) ∧ Below w.heap.size w w'

set_option maxHeartbeats 1000000 in
theorem impl_last (A A1 : Option Addr) (c c1 : Nat) (t : List GRule) (d : List Int) (m : Option Nat) (w : World) (hx : Rows ruleC m w w.heap.size A t) (hd : Ints w w.heap.size A1 d) (hok : treeOk t = true) (h0 : 0 < t.length) :
    Calls Try.prog 41 #[.slice A t.length c, .slice A1 d.length c1] w (LastD t d w) := by
  have HX := Lib.hid hx
  have HD := Lib.hid hd
  obtain ⟨i, hi, hil⟩ := asked_some hok h0 d
  obtain ⟨N, hN, hpN, hall, hwN⟩ := wayL_is hok d
  have HLH : Hid (lastHolds t d = holds t[i].ask d) := by show _ = _; unfold lastHolds; rw [hi, rule_get hil]
  have hne : wayL t d ≠ [] := by
    intro he
    unfold asked at hi
    rw [he] at hi
    simp [lastOf] at hi
  have hwl : (wayL t d).length ≤ 12 := by
    rw [hwN, posTo_len]
    have := treeOk_len hok
    omega
  have hpos : 0 < (wayL t d).length := List.length_pos_iff.2 hne
  have hget : (wayL t d)[(wayL t d).length - 1]'(by omega) = (i : Int) := by
    have h1 := hi
    unfold asked lastOf at h1
    rw [List.getLast?_eq_getElem?, List.getElem?_eq_getElem (by omega)] at h1
    exact h1
  have HGET := Lib.hid hget
  have HI := Lib.hid hi
  clear hx hd hne hget hi hpN hall hwN
  go_enter Try.func41, Try.ntmps41
  go_wp2_with fail
  refine (impl_way A A1 c c1 t d m w HX.out HD.out hok).mono ?_
  rintro e w1 ⟨v1, rfl, hv1, hb1⟩
  obtain ⟨Aw, cw, rfl, hiw⟩ := own_ints hv1 (by omega)
  have B1 := Lib.hid hb1
  obtain ⟨bg, og, rfl, hbg, hcg⟩ := hiw.at_ (k := (wayL t d).length - 1) (by omega)
  rw [HGET.out] at hcg
  clear hv1 hb1 hiw HGET
  generalize hL : (wayL t d).length = L at *
  obtain ⟨l, rfl⟩ : ∃ l, L = l + 1 := ⟨L - 1, by omega⟩
  have e1 : ((l + 1 : Nat) : Int) - 1 = (l : Int) := by omega
  rw [Nat.add_sub_cancel] at hcg
  have hlz : (l : Int) < ((l + 1 : Nat) : Int) := by omega
  have hiz : (i : Int) < (t.length : Int) := by omega
  obtain ⟨b, off, A7, c7, rfl, hb, hr, hd0, hd1, hd2, hd3, hd4, hd5, hd6⟩ := rule_at (HX.out.later B1.out) hil
  clear hr hd3 hd4 hd5 hd6 hL
  go_wp2_with fail
  refine (impl_ExpHolds t[i].ask A1 c1 d w1 (HD.out.later B1.out)).mono ?_
  rintro e w2 ⟨rfl, hb2⟩
  have B2 := Lib.hid (B1.out.trans (hb2.mono B1.out.size))
  clear hb2
  go_wp2
  refine bodyPost_ret (v := .tuple #[.int .i64 (i : Int), .bool (holds t[i].ask d)]) (by simp [results, Try.results41, go_sem]) rfl ?_
  exact ⟨by rw [HI.out, HLH.out], B2.out⟩

theorem sameL_some {t : List GRule} {a b : List Int} (h : asked t a ≠ -1) : sameL t a b = (decide (asked t a = asked t b) && (lastHolds t a == lastHolds t b)) := by
  unfold sameL lastHolds
  by_cases he : asked t a = asked t b
  · rw [← he]
    simp [h]
  · simp [he]
end Go.Proofs.Ytjieilicjdoaaaa
