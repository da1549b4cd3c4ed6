/- Rules copied by the program, each one's data into a block of its own. -/
import Derived.Test.YtjieilicjdoaaaaRuleX
import Derived.Test.YtjieilicjdoaaaaCloneI
namespace Go.Proofs.Ytjieilicjdoaaaa
open Go.RowKit
set_option linter.unusedSimpArgs false
set_option linter.unusedVariables false

set_option maxRecDepth 100000 in
set_option maxHeartbeats 4000000 in
theorem impl_cloneRulesX (A : Option Addr) (c : Nat) (t : List GRule) (m : Option Nat) (w : World) (hx : Rows ruleC m w w.heap.size A t) (hl : t.length ≤ 1048576) (hs : ∀ x ∈ t, x.stone.length ≤ 1048576) :
    Calls Try.prog 36 #[.slice A t.length c] w (GivesX t w) := by
  have HX := Lib.hid hx
  have HS := Lib.hid hs
  clear hx hs
  go_enter Try.func36, Try.ntmps36
  go_wp2
  go_loopg [3, 5, 8] t.length (fun gg s3 _ s8 wr => ∃ (k : Nat) (tz : List (GRule × Nat)), k ≤ t.length ∧ t.length - k ≤ gg ∧ s8 = .int .i64 k ∧ tz.map Prod.fst = t.take k ∧ Aside (OwnC ruleX 65 wr w.heap.size s3 tz) ∧ Aside (BlkOk w.heap.size wr.heap.size tz) ∧ Aside (Below w.heap.size w wr))
  case atStart => exact ⟨0, [], Nat.zero_le _, by omega, rfl, rfl, OwnC.nil _ _, BlkOk.nil _ _, Below.refl _ _⟩
  case round =>
    obtain ⟨k, tz, hk, hg, rfl, hz, OW, KW, BW⟩ := hrel
    have HZ := Lib.hid hz
    have hzl : tz.length = k := by
      have := congrArg List.length hz
      rw [List.length_map, List.length_take] at this
      omega
    clear hz
    by_cases hlt : k < t.length
    · have hltz : (k : Int) < (t.length : Int) := by omega
      obtain ⟨b, off, A1, c1, rfl, hb, hr, hd0, hd1, hd2, hd3, hd4, hd5, hd6⟩ := rule_at (HX.out.below BW.out) hlt
      have HR := Lib.hid (hr.more BW.out.size)
      have hsl := HS.out t[k] (List.getElem_mem hlt)
      have HT : Hid (t.take (k + 1) = t.take k ++ [t[k]]) := List.take_succ_eq_append_getElem hlt
      have htl : (t.take k).length = k := by rw [List.length_take]; omega
      clear hr
      generalize t[k] = y at hd0 hd1 hd2 hd3 hd4 hd5 hd6 HR HT hsl
      go_upto_region 5 with fail
      generalize hV : wr.alloc _ = V
      have bV : Hid (Bk V wr.heap.size 65 #[.int .i64 y.ask.op, .int .i64 y.ask.var, .int .i64 y.ask.k, .int .i64 y.yes, .int .i64 y.no, .int .i64 y.ans, .slice A1 y.stone.length c1]) := by show Bk _ _ _ _; rw [← hV]; exact Bk.new rfl
      have hVs : Hid (V.heap.size = wr.heap.size + 1) := by show _ = _; rw [← hV]; simp
      have BV : Hid (Below wr.heap.size wr V) := by show Below _ _ _; rw [← hV]; exact (Below.refl _ _).alloc (Nat.le_refl _) _
      clear hV hd0 hd1 hd2 hd3 hd4 hd5 hd6
      have kV := fun i => bV.out.cell i
      have RV := Lib.hid (HR.out.later BV.out)
      go_upto_region 6 with (go_at_call 42; refine (impl_cloneInts A1 c1 y.stone V RV.out.ints hsl).mono ?_; rintro e w2 ⟨v', rfl, hown2, hb2⟩; obtain ⟨A2, c2, p2, rfl, hp1, hp2, hp3, hrow2⟩ := hown2.block; have HRW := Lib.hid hrow2; have HP2 := Lib.hid (And.intro hp1 (And.intro hp2 hp3)); have HB2 := Lib.hid hb2; have k2 := (fun i => (bV.out.later HB2.out).cell i); have f2 := (fun i => (bV.out.later HB2.out).frozen i); clear hown2 hb2 hrow2 hp1 hp2 hp3)
      have hrow := HRW.out
      have b2 := bV.out.later HB2.out
      have hw2s := HB2.out.size
      have hVs := hVs.out
      generalize hU : w2.setCell _ _ = U
      have bU : Hid (Bk U wr.heap.size 65 #[.int .i64 y.ask.op, .int .i64 y.ask.var, .int .i64 y.ask.k, .int .i64 y.yes, .int .i64 y.no, .int .i64 y.ans, .slice A2 y.stone.length c2]) := by show Bk _ _ _ _; rw [← hU]; exact b2.set 6 _
      have BU : Hid (Below wr.heap.size wr U) := by
        show Below _ _ _
        rw [← hU]
        exact (BV.out.trans (HB2.out.mono (by omega))).setCell (p := ⟨wr.heap.size, 6, none⟩) (Nat.le_refl _) _
      have hUs : Hid (U.heap.size = w2.heap.size) := by show _ = _; rw [← hU]; simp
      have RU : Hid (0 < y.stone.length → A2 = some ⟨p2, 0, none⟩ ∧ Wr U p2 3 (iv y.stone)) := fun h0 => ⟨(hrow h0).1, by rw [← hU]; exact (hrow h0).2.far (p := ⟨wr.heap.size, 6, none⟩) (by show p2 ≠ wr.heap.size; have := HP2.out.1; omega) _⟩
      have PB : Hid (V.heap.size ≤ p2 ∧ (0 < y.stone.length → p2 < U.heap.size) ∧ p2 ≤ U.heap.size) := ⟨HP2.out.1, fun h0 => by rw [hUs.out]; exact HP2.out.2.1 h0, by rw [hUs.out]; rcases HP2.out.2.2 with h | h <;> omega⟩
      have HVS := Lib.hid hVs
      clear hVs
      clear hU b2 hrow kV k2 f2 HRW HB2 RV bV BV
      have kU := fun i => bU.out.cell i
      have OU := Lib.hid (OW.out.later BU.out)
      have hlo := BW.out.size
      go_wp2_with (at_builtin; refine append_C rfl (.tmp 16) (.tmp 18) 27 rfl ruleX 65 _ 72 Try.underlying27 info_Rule rfl (by decide) (by decide) w.heap.size _ tz rfl (OU.out.later ((Below.refl _ _).alloc (Nat.le_refl _) _)) (y, p2) [.int .i64 y.ask.op, .int .i64 y.ask.var, .int .i64 y.ask.k, .int .i64 y.yes, .int .i64 y.no, .int .i64 y.ans, .slice A2 y.stone.length c2] V.heap.size U.heap.size ⟨A2, c2, rfl, fun h0 => ⟨(RU.out h0).1, (RU.out h0).2.alloc _, wr_okB ((RU.out h0).2.alloc _) PB.out.1 (PB.out.2.1 h0)⟩⟩ (by have := HVS.out; omega) (by simp) (fun g hg => .inl (by have := (OW.out.lt g hg).2; have := HVS.out; omega)) U.heap.size rfl (fun j u hu => by rw [Bk.cell (Bk.new rfl)]; simpa using hu) (by simp [Value.oneCell']) (by omega) (by have := HVS.out; have := hUs.out; simp only [World.size_alloc]; omega) ?_; intro v' w4 hown hg4 hb4; have OW4 := Lib.hid hown; have B4 := Lib.hid hb4; clear hown hg4 hb4)
      go_roundg (t.length - (k + 1))
      case measure => omega
      case rel => exact ⟨k + 1, tz ++ [(y, p2)], by omega, by omega, by go_num, by rw [List.map_append, HZ.out, HT.out]; rfl, OW4.out, KW.out.snoc (y, p2) (by have := HVS.out; have := PB.out.1; show _ ≤ p2; omega) (by have h := B4.out.size; simp only [World.size_alloc] at h; have := PB.out.2.2; show p2 < _; omega) BW.out.size, ((BW.out.trans (BU.out.mono BW.out.size)).alloc (by have := HVS.out; have := hUs.out; omega) _).trans B4.out⟩
    · have hltz : ¬ (k : Int) < (t.length : Int) := by omega
      have he : k = t.length := by omega
      have HE : Hid (t.take k = t) := by show _ = _; rw [he, List.take_length]
      clear he
      go_wp2
      go_ret
      exact ⟨_, tz, rfl, by rw [HZ.out, HE.out], OW.out, KW.out, BW.out⟩
end Go.Proofs.Ytjieilicjdoaaaa
