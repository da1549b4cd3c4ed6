/- Ints appended from any slice; rules copied by the program and by the reference; one cell of an owned row turned. -/
import Derived.Test.YtjieilicjdoaaaaOwn0
import Derived.Test.YtjieilicjdoaaaaRuleArg
import Derived.Maps.AppendAt
import Derived.Laws.OwnMore
namespace Go.Proofs.Ytjieilicjdoaaaa
open Go.RowKit

/-- What copying rules leaves: the same rules in memory of the call's own. -/
def GivesT (t : List GRule) (w : World) (e : Ending) (w' : World) : Prop := ∃ v, e = .returned v ∧ OwnC ruleC 65 w' w.heap.size v t ∧ Below w.heap.size w w'

theorem OwnC.stay {α : Type} {C : Cod α} {e : TypeId} {w w' : World} {base : Nat} {v : Value} {xs : List α} (h : OwnC C e w base v xs) {lo : Nat} (hb : Below lo w w') (hlo : w.heap.size ≤ lo) : OwnC C e w' base v xs := h.later (hb.mono hlo)

set_option maxRecDepth 100000 in
set_option maxHeartbeats 4000000 in
theorem spec_l7Copy (A : Option Addr) (c : Nat) (t : List GRule) (m : Option Nat) (w : World) (hx : Rows ruleC m w w.heap.size A t) (hl : t.length ≤ 1048576) (hs : ∀ x ∈ t, x.stone.length ≤ 1048576) :
    Calls Try.prog 28 #[.slice A t.length c] w (GivesT t w) := by
  have HX := Lib.hid hx
  have HS := Lib.hid hs
  clear hx hs
  go_enter Try.func28, Try.ntmps28
  go_wp2
  go_loopg [3, 4, 5] t.length (fun gg s3 s4 _ wr => ∃ k : Nat, k ≤ t.length ∧ t.length - k ≤ gg ∧ s4 = .int .i64 k ∧ Aside (OwnC ruleC 65 wr w.heap.size s3 (t.take k)) ∧ Aside (Below w.heap.size w wr))
  case atStart => exact ⟨0, Nat.zero_le _, by omega, rfl, OwnC.made (Nat.le_refl _) 0 #[] (by decide) rfl, (Below.refl _ _).alloc (Nat.le_refl _) _⟩
  case round =>
    obtain ⟨k, hk, hg, rfl, OW, BW⟩ := hrel
    by_cases hlt : k < t.length
    · have hltz : (k : Int) < (t.length : Int) := by omega
      obtain ⟨b, off, A1, c1, rfl, hb, hr, hd0, hd1, hd2, hd3, hd4, hd5, hd6⟩ := rule_at (HX.out.below BW.out) hlt
      have HR := Lib.hid (hr.more BW.out.size)
      have hsl := HS.out t[k] (List.getElem_mem hlt)
      have HT : Hid (t.take (k + 1) = t.take k ++ [t[k]]) := List.take_succ_eq_append_getElem hlt
      have htl : (t.take k).length = k := by rw [List.length_take]; omega
      clear hr
      generalize t[k] = y at hd0 hd1 hd2 hd3 hd4 hd5 hd6 HR HT hsl
      go_upto_region 6 with fail
      generalize hV : wr.alloc _ = V
      have bV : Hid (Bk V wr.heap.size 65 #[.int .i64 y.ask.op, .int .i64 y.ask.var, .int .i64 y.ask.k, .int .i64 y.yes, .int .i64 y.no, .int .i64 y.ans, .slice A1 y.stone.length c1]) := by show Bk _ _ _ _; rw [← hV]; exact Bk.new rfl
      have hVs : Hid (V.heap.size = wr.heap.size + 1) := by show _ = _; rw [← hV]; simp
      have BV : Hid (Below wr.heap.size wr V) := by show Below _ _ _; rw [← hV]; exact (Below.refl _ _).alloc (Nat.le_refl _) _
      clear hV hd0 hd1 hd2 hd3 hd4 hd5 hd6
      have kV := fun i => (bV.out.alloc (.cells #[] 3)).cell i
      have RV := Lib.hid ((HR.out.later BV.out).later ((Below.refl _ _).alloc (Nat.le_refl _) (.cells #[] 3)))
      go_upto_region 7 with (at_builtin; refine append_intsA rfl (.tmp 17) (.tmp 19) rfl V.heap.size _ [] rfl (OwnV.made' (Nat.le_refl _)) A1 c1 _ y.stone rfl RV.out.ints (by simp; omega) (by simp) ?_; intro v' w2 hown2 hg2 hb2; rw [List.nil_append] at hown2; obtain ⟨A2, c2, rfl, hrow2⟩ := hown2.rows (by omega); have HRW := Lib.hid hrow2; have HB2 := Lib.hid (((Below.refl _ V).alloc (Nat.le_refl _) (.cells #[] 3)).trans hb2); have k2 := (fun i => (bV.out.later HB2.out).cell i); have f2 := (fun i => (bV.out.later HB2.out).frozen i); clear hown2 hg2 hb2 hrow2)
      have hrow := HRW.out
      have b2 := bV.out.later HB2.out
      have hw2s := HB2.out.size
      have hVs := hVs.out
      generalize hU : w2.setCell _ _ = U
      have bU : Hid (Bk U wr.heap.size 65 #[.int .i64 y.ask.op, .int .i64 y.ask.var, .int .i64 y.ask.k, .int .i64 y.yes, .int .i64 y.no, .int .i64 y.ans, .slice A2 y.stone.length c2]) := by show Bk _ _ _ _; rw [← hU]; exact b2.set 6 _
      have BU : Hid (Below wr.heap.size wr U) := by
        show Below _ _ _
        rw [← hU]
        exact (BV.out.trans (HB2.out.mono (by omega))).setCell (p := ⟨wr.heap.size, 6, none⟩) (Nat.le_refl _) _
      have hUs : Hid (U.heap.size = w2.heap.size) := by show _ = _; rw [← hU]; simp
      have RU : Hid (Rows intC (some V.heap.size) U U.heap.size A2 y.stone) := by
        show Rows _ _ _ _ _ _
        rw [hUs.out, ← hU]
        exact hrow.keep ((Agree.refl _ _ _).set (p := ⟨wr.heap.size, 6, none⟩) (by show wr.heap.size < V.heap.size; omega) _)
      have HVS := Lib.hid hVs
      clear hVs
      clear hU b2 hrow kV k2 f2 HRW HB2 RV bV BV
      have kU := fun i => bU.out.cell i
      have OU := Lib.hid (OW.out.later BU.out)
      have hlo := BW.out.size
      go_wp2_with (at_builtin; refine append_C rfl (.tmp 22) (.tmp 24) 27 rfl ruleC 65 _ 72 Try.underlying27 info_Rule rfl (by decide) (by decide) w.heap.size _ (t.take k) rfl (OU.out.later ((Below.refl _ _).alloc (Nat.le_refl _) _)) y [.int .i64 y.ask.op, .int .i64 y.ask.var, .int .i64 y.ask.k, .int .i64 y.yes, .int .i64 y.no, .int .i64 y.ans, .slice A2 y.stone.length c2] V.heap.size U.heap.size ⟨A2, c2, rfl, RU.out.below ((Below.refl _ _).alloc (Nat.le_refl _) _)⟩ (by have := HVS.out; omega) (by simp) (fun g hg => .inl (by have := (OW.out.lt g hg).2; have := HVS.out; omega)) U.heap.size rfl (fun j u hu => by rw [Bk.cell (Bk.new rfl)]; simpa using hu) (by simp [Value.oneCell']) (by omega) (by have := HVS.out; have := hUs.out; simp only [World.size_alloc]; omega) ?_; intro v' w4 hown hg4 hb4; have OW4 := Lib.hid hown; have B4 := Lib.hid hb4; clear hown hg4 hb4)
      go_roundg (t.length - (k + 1))
      case measure => omega
      case rel => exact ⟨k + 1, by omega, by omega, by go_num, by show OwnC _ _ _ _ _ _; rw [HT.out]; exact OW4.out, ((BW.out.trans (BU.out.mono BW.out.size)).alloc (by have := HVS.out; have := hUs.out; omega) _).trans B4.out⟩
    · have hltz : ¬ (k : Int) < (t.length : Int) := by omega
      have he : k = t.length := by omega
      have HE : Hid (t.take k = t) := by show _ = _; rw [he, List.take_length]
      clear he
      go_wp2
      go_ret
      exact ⟨_, rfl, by have := OW.out; rw [HE.out] at this; exact this, BW.out⟩
end Go.Proofs.Ytjieilicjdoaaaa
