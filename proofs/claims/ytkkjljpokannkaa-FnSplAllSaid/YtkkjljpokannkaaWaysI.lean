/- All the ways of a task: impl.SplAll. -/
import Derived.Test.YtkkjljpokannkaaWays
import Derived.Test.YtkkjljpokannkaaMany
import Derived.Test.YtkkjljpokannkaaApp5
import Derived.Test.YtkkjljpokannkaaSpl
import Derived.Test.YtkkjljpokannkaaDraw1
namespace Go.Proofs.Ytkkjljpokannkaa
open Go.RowKit
set_option linter.unusedSimpArgs false
set_option linter.unusedVariables false

theorem bit_and (m i : Nat) (hm : m < 8) (hi : i < 3) : (bits BinOp.and IntKind.i64 (((m : Int) + 1) / 2 ^ i) 1 == 1) = bitOf (m + 1) i := by
  rcases (by omega : m = 0 ∨ m = 1 ∨ m = 2 ∨ m = 3 ∨ m = 4 ∨ m = 5 ∨ m = 6 ∨ m = 7) with rfl | rfl | rfl | rfl | rfl | rfl | rfl | rfl <;>
  rcases (by omega : i = 0 ∨ i = 1 ∨ i = 2) with rfl | rfl | rfl <;> decide
theorem pow_wrap (n : Nat) (h : n ≤ 3) : wrap64 ((2 : Int) ^ n) = ((2 ^ n : Nat) : Int) := by
  rcases (by omega : n = 0 ∨ n = 1 ∨ n = 2 ∨ n = 3) with rfl | rfl | rfl | rfl <;> (unfold wrap64; decide)
theorem info_row : (Try.prog.info? 23).map (fun i => (i.zero, i.size, i.bytes)) = some (some (.slice none 0 0), 1, 24) := by kernel_rfl
theorem row_yes {fs : List GFlow} {m i : Nat} (hb : bitOf m i = true) (hi : i < fs.length) : rowTo fs m (i + 1) = rowTo fs m i ++ [(fs.getD i flow0).to] := by
  rw [rowTo, if_pos (by simp [hb, hi])]
theorem row_no {fs : List GFlow} {m i : Nat} (hb : bitOf m i = false ∨ fs.length ≤ i) : rowTo fs m (i + 1) = rowTo fs m i := by
  rw [rowTo, if_neg]
  rcases hb with hb | hb
  · simp [hb]
  · simp; omega
theorem ways_yes {t : GTask} {m : Nat} (h : fitWay t (rowTo t.out (m + 1) t.out.length) = true) : waysTo t (m + 1) = waysTo t m ++ [rowTo t.out (m + 1) t.out.length] := by rw [waysTo, if_pos h]
theorem ways_no {t : GTask} {m : Nat} (h : fitWay t (rowTo t.out (m + 1) t.out.length) = false) : waysTo t (m + 1) = waysTo t m := by rw [waysTo, if_neg (by simp [h])]

/-- What a function that hands back rows of ints, each in a block of its own, leaves. -/
def GivesSS (xss : List (List Int)) (w : World) (e : Ending) (w' : World) : Prop :=
  ∃ A c l, e = .returned (.slice A (List.length (α := List Int × Nat) l) c) ∧ l.map Prod.fst = xss ∧ OwnC rowC 23 w' w.heap.size (.slice A l.length c) l ∧ (l.Pairwise fun a b => a.2 < b.2) ∧ Below w.heap.size w w'
theorem own_low {α : Type} {C : Cod α} {e : TypeId} {w : World} {base base' : Nat} {v : Value} {xs : List α} (h : OwnC C e w base v xs) (hb : base' ≤ base) : OwnC C e w base' v xs := by
  obtain ⟨css, h1, h2, h3⟩ := h
  refine ⟨css, h1, fun j cs hj => ?_, h3.1, ?_⟩
  · obtain ⟨x, lo, B, a1, a2, a3, a4, a5⟩ := h2 j cs hj
    exact ⟨x, lo, B, a1, by omega, a3, a4, a5⟩
  · rcases h3.2 with hn | ⟨g, cap, cur, hv, hb', rest⟩
    · exact .inl hn
    · exact .inr ⟨g, cap, cur, hv, by omega, rest⟩
/-- The rows so far, at the head of a round. -/
structure SoFar (base : Nat) (v : Value) (l : List (List Int × Nat)) (xss : List (List Int)) (w : World) : Prop where
  own : OwnC rowC 23 w base v l
  map : l.map Prod.fst = xss
  lt : l.Pairwise fun a b => a.2 < b.2
  hi : ∀ p ∈ l, p.2 < w.heap.size
theorem SoFar.later {base : Nat} {v : Value} {l : List (List Int × Nat)} {xss : List (List Int)} {w w' : World} (h : SoFar base v l xss w) (hb : Below w.heap.size w w') : SoFar base v l xss w' :=
  ⟨h.own.later hb, h.map, h.lt, fun p hp => Nat.lt_of_lt_of_le (h.hi p hp) hb.size⟩
theorem SoFar.gives {base : Nat} {v : Value} {l : List (List Int × Nat)} {xss : List (List Int)} {w w' : World} (h : SoFar base v l xss w') (hb : w.heap.size ≤ base) (hn : l.length ≤ 1000) (hw : Below w.heap.size w w') : GivesSS xss w (.returned v) w' := by
  obtain ⟨A, c, rfl, _⟩ := h.own.rows (by omega)
  exact ⟨A, c, l, rfl, h.map, own_low h.own hb, h.lt, hw⟩

set_option maxRecDepth 100000 in
set_option maxHeartbeats 4000000 in
theorem impl_SplAll (x : GTask) (A1 : Option Addr) (c1 : Nat) (A2 : Option Addr) (c2 : Nat) (A3 : Option Addr) (c3 : Nat) (mo : Option Nat) (w : World)
    (hx : Rows flowC mo w w.heap.size A2 x.out) :
    Calls Try.prog 31 #[.agg (taskV x A1 c1 A2 c2 A3 c3)] w (GivesSS (waysOf x) w) := by
  have hxl := hx.1
  have HX := Lib.hid hx
  clear hx
  obtain ⟨sp, hsp⟩ : ∃ sp, sp = x.split := ⟨_, rfl⟩
  have HSP : Hid (x.split = sp) := hsp.symm
  unfold taskV
  rw [← hsp]
  clear hsp
  by_cases h3 : 3 < x.out.length
  · have HF : Hid (waysOf x = []) := by show _ = _; rw [waysOf, if_neg (by omega)]
    have h3z : (3 : Int) < (x.out.length : Int) := by omega
    go_enter Try.func31, Try.ntmps31
    go_wp2
    go_ret
    exact ⟨none, 0, [], rfl, HF.out.symm, OwnC.nil _ _, List.Pairwise.nil, by go_grown⟩
  have h3z : ¬ (3 : Int) < (x.out.length : Int) := by omega
  have HF : Hid (waysOf x = waysTo x (2 ^ x.out.length - 1)) := by show _ = _; rw [waysOf, if_pos (by omega)]
  have hN : 1 ≤ 2 ^ x.out.length ∧ 2 ^ x.out.length ≤ 8 := by
    rcases (by omega : x.out.length = 0 ∨ x.out.length = 1 ∨ x.out.length = 2 ∨ x.out.length = 3) with h | h | h | h <;> rw [h] <;> decide
  obtain ⟨N, hNe⟩ : ∃ N, N = 2 ^ x.out.length := ⟨_, rfl⟩
  have HN := Lib.hid hNe
  have hsh : wrap64 ((2 : Int) ^ x.out.length) = (N : Int) := by rw [hNe]; exact pow_wrap _ (by omega)
  rw [← hNe] at HF hN
  have HSH := Lib.hid hsh
  clear hNe hsh
  go_enter Try.func31, Try.ntmps31
  go_wp2
  generalize hW : w.alloc _ = W
  have P0 : Hid (Bk W w.heap.size 42 #[.int .i64 x.join, .int .i64 sp, .slice A1 x.inn.length c1, .slice A2 x.out.length c2, .slice A3 x.clear.length c3, .int .i64 x.role, .int .i64 x.apart, .int .i64 x.all, .int .i64 x.need]) := by show Bk _ _ _ _; rw [← hW]; exact Bk.new rfl
  have B : Hid (Below w.heap.size w W) := by show Below _ _ _; rw [← hW]; go_grown
  clear hW
  go_loopg [3, 4, 5, 6, 7] N (fun gg s3 s4 _ _ _ wr => ∃ (m : Nat) (l : List (List Int × Nat)), m < N ∧ N - m ≤ gg ∧ s4 = .int .i64 ((m : Int) + 1) ∧ Aside (Below w.heap.size w wr) ∧ Aside (Bk wr w.heap.size 42 #[.int .i64 x.join, .int .i64 sp, .slice A1 x.inn.length c1, .slice A2 x.out.length c2, .slice A3 x.clear.length c3, .int .i64 x.role, .int .i64 x.apart, .int .i64 x.all, .int .i64 x.need]) ∧ Aside (SoFar (w.heap.size + 1) s3 l (waysTo x m) wr))
  case atStart => exact ⟨0, [], by omega, by omega, rfl, B.out, P0.out, OwnC.nil _ _, rfl, List.Pairwise.nil, fun p hp => by cases hp⟩
  case round =>
    obtain ⟨m, l, hm, hg, rfl, BW, PW, OW⟩ := hrel
    obtain ⟨wr0, hwr0⟩ : ∃ V, V = wr := ⟨_, rfl⟩
    subst hwr0
    have LN : Hid (l.length ≤ m) := by show _ ≤ _; have h1 := waysTo_len x m; rw [← OW.out.map, List.length_map] at h1; exact h1
    have k0 := fun i => PW.out.cell i
    have hsh := HSH.out
    by_cases hlt : m + 1 < N
    · have hltz : (m : Int) + 1 < (N : Int) := by omega
      go_wp2
      clear hsh k0
      go_loopg [5, 6, 7, 23] x.out.length (fun gg s5 _ _ s23 wr => ∃ i : Nat, i ≤ x.out.length ∧ x.out.length - i ≤ gg ∧ s23 = .int .i64 i ∧ Aside (Below wr0.heap.size wr0 wr) ∧ Aside (OwnV wr wr0.heap.size s5 (rowTo x.out (m + 1) i)))
      case atStart => exact ⟨0, by omega, by omega, rfl, Below.refl _ _, OwnV.nil _ _⟩
      case round =>
        obtain ⟨i, hi, hgi, rfl, BV, RV⟩ := hrel
        have hrl := rowTo_len x.out (m + 1) i
        by_cases hil : i < x.out.length
        · have hilz : (i : Int) < (x.out.length : Int) := by omega
          have HF1 : Hid (x.out.getD i flow0 = x.out[i]) := getD_get hil
          obtain ⟨b, off, hA2, hb, hc0, hc1, hc2, hc3⟩ := flow_at (HX.out.later (BW.out.trans (BV.out.mono BW.out.size))) hil
          generalize x.out[i] = f at HF1 hc0 hc1 hc2 hc3
          obtain ⟨fto, fop, fvar, fk⟩ := f
          subst hA2
          obtain ⟨A5, c5, hv5, _⟩ := RV.out.form
          subst hv5
          go_upto_region 11 with fail
          generalize hV : World.alloc _ _ = V
          have hBV : Below wr.heap.size wr V := by rw [← hV]; exact (Below.refl _ _).alloc (Nat.le_refl _) _
          have FV : Hid (Bk V wr.heap.size 142 #[.int .i64 fto, .int .i64 fop, .int .i64 fvar, .int .i64 fk]) := by show Bk _ _ _ _; rw [← hV]; exact Bk.new rfl
          have B2 := Lib.hid (BV.out.trans (hBV.mono BV.out.size))
          have R2 := Lib.hid (RV.out.later hBV)
          have z2 := B2.out.size
          clear hV hBV
          have kf := fun i => FV.out.cell i
          cases hbt : bitOf (m + 1) i with
          | true =>
            have hbv : (bits BinOp.and IntKind.i64 (((m : Int) + 1) / 2 ^ i) 1 == 1) = true := by rw [bit_and m i (by omega) (by omega)]; exact hbt
            have HE := Lib.hid (row_yes hbt hil)
            clear hbt
            go_wp2_with (at_builtin; refine append_int rfl (.tmp 33) (.tmp 36) rfl wr0.heap.size _ _ rfl (R2.out.alloc _) V.heap.size fto rfl (by simp) (by omega) (by simp; omega) ?_; intro v' w2 hown2 hb2; have HO2 := Lib.hid hown2; have HB2 := Lib.hid hb2; clear hown2 hb2)
            go_roundg (x.out.length - (i + 1))
            case measure => omega
            case rel => exact ⟨i + 1, by omega, by omega, by go_num, (B2.out.alloc B2.out.size _).trans HB2.out, by show OwnV _ _ _ _; rw [HE.out, HF1.out]; exact HO2.out⟩
          | false =>
            have hbv : (bits BinOp.and IntKind.i64 (((m : Int) + 1) / 2 ^ i) 1 == 1) = false := by rw [bit_and m i (by omega) (by omega)]; exact hbt
            have HE := Lib.hid (row_no (fs := x.out) (.inl hbt))
            clear hbt
            go_wp2
            go_roundg (x.out.length - (i + 1))
            case measure => omega
            case rel => exact ⟨i + 1, by omega, by omega, by go_num, B2.out, by show OwnV _ _ _ _; rw [HE.out]; exact R2.out⟩
        · have hilz : ¬ (i : Int) < (x.out.length : Int) := by omega
          have he : i = x.out.length := by omega
          subst he
          have hr1 := rowTo_pos x.out (by omega) (m + 1) (by omega) (by have := HN.out; omega)
          obtain ⟨r, hr⟩ : ∃ r, r = rowTo x.out (m + 1) x.out.length := ⟨_, rfl⟩
          have HR : Hid (rowTo x.out (m + 1) x.out.length = r) := hr.symm
          rw [← hr] at hr1 hrl RV
          clear hr
          obtain ⟨A5, c5, hv5, hcap, hA5⟩ := RV.out.form'
          obtain ⟨g5, hg5, hg5b, hw5⟩ := (hA5 : OwnI wr wr0.heap.size A5 r) hr1
          subst hg5
          subst hv5
          have W5 := Lib.hid hw5
          have G5 := Lib.hid hg5b
          have K5 : Hid (okB (some wr0.heap.size) wr wr.heap.size g5) := by
            have h9 := hw5.lt
            obtain ⟨cur, h1, _⟩ := hw5
            exact ⟨h9, fun lo hl => ⟨by cases hl; exact hg5b, cur, _, h1⟩⟩
          have B4 := Lib.hid BV.out
          obtain ⟨w4, hw4⟩ : ∃ V, V = wr := ⟨_, rfl⟩
          subst hw4
          clear hA5 hw5 RV BV
          have k0 := fun i => (PW.out.later B4.out).cell i
          by_cases hsp : sp = 1
          · by_cases hq : r.length = x.out.length
            · have hs1 : (sp == 1) = true := by simp [hsp]
              have hs2 : (sp == 2) = false := by simp [hsp]
              have hs3 : (sp == 3) = false := by simp [hsp]
              have hq1 : ((r.length : Int) == (x.out.length : Int)) = true := by rw [hq]; simp
              have hft : fitWay x r = true := by unfold fitWay; rw [HSP.out, hsp, hq]; simp
              have HE := Lib.hid (ways_yes (t := x) (m := m) (by rw [HR.out]; exact hft))
              rw [HR.out] at HE
              clear hft
              try clear hq
              try clear hsp
              try clear hsp2
              try clear hsp3
              go_wp2_with (at_builtin; refine append_C5 rfl (.tmp 65) (.tmp 67) 47 rfl rowC 23 _ 24 Try.underlying47 info_row rfl (by decide) (by decide) (w.heap.size + 1) _ l rfl ((OW.out.own.later B4.out).later ((Below.refl _ _).alloc (Nat.le_refl _) _)) (r, g5) [.slice (some ⟨g5, 0, none⟩) r.length c5] wr0.heap.size w4.heap.size ⟨c5, rfl, W5.out.alloc _, K5.out.keep (Agree.of_below ((Below.refl _ _).alloc (Nat.le_refl _) _))⟩ (by have := PW.out.lt; omega) (by simp) (fun g hg => .inl (OW.out.own.lt g hg).2) w4.heap.size rfl (fun j u hu => by rw [Bk.cell (Bk.new rfl)]; simpa using hu) (by simp [Value.oneCell']) (by have := LN.out; omega) (by have := PW.out.lt; have := B4.out.size; simp; omega) ?_; intro v' w7 hown7 hg7 hb7 h57; have O7 := Lib.hid hown7; have B7 := Lib.hid hb7; clear hown7 hg7 hb7 h57)
              go_roundg (N - (m + 1))
              case measure => omega
              case rel =>
                refine ⟨m + 1, l ++ [(r, g5)], by omega, by omega, by go_num, ?_, ?_, ?_⟩
                · exact BW.out.trans ((B4.out.mono (by have := PW.out.lt; omega)).trans ((((Below.refl _ _).alloc (Nat.le_refl _) _).mono (by have := PW.out.lt; have := B4.out.size; omega)).trans (B7.out.mono (by omega))))
                · exact (B7.out.block w.heap.size (by omega)).trans ((PW.out.later B4.out).alloc _)
                · refine ⟨O7.out, by rw [List.map_append, OW.out.map, HE.out]; rfl, List.pairwise_append.2 ⟨OW.out.lt, List.pairwise_singleton _ _, fun p hp q hq => ?_⟩, fun p hp => ?_⟩
                  · rw [List.mem_singleton] at hq
                    subst hq
                    exact Nat.lt_of_lt_of_le (OW.out.hi p hp) G5.out
                  · have s7 := B7.out.size
                    have s4 := B4.out.size
                    have k5 := K5.out.1
                    simp only [World.size_alloc] at s7
                    rcases List.mem_append.1 hp with hp | hp
                    · have := OW.out.hi p hp
                      omega
                    · rw [List.mem_singleton] at hp
                      subst hp
                      show g5 < _
                      omega
            · have hs1 : (sp == 1) = true := by simp [hsp]
              have hs2 : (sp == 2) = false := by simp [hsp]
              have hs3 : (sp == 3) = false := by simp [hsp]
              have hq1 : ((r.length : Int) == (x.out.length : Int)) = false := by rw [beq_eq_false_iff_ne]; omega
              have hft : fitWay x r = false := by unfold fitWay; rw [HSP.out, hsp]; simp [hq]
              have HE := Lib.hid (ways_no (t := x) (m := m) (by rw [HR.out]; exact hft))
              clear hft
              try clear hq
              try clear hsp
              try clear hsp2
              try clear hsp3
              go_wp2
              go_roundg (N - (m + 1))
              case measure => omega
              case rel =>
                exact ⟨m + 1, l, by omega, by omega, by go_num, BW.out.trans (B4.out.mono (by have := PW.out.lt; omega)), PW.out.later B4.out, by rw [HE.out]; exact OW.out.later B4.out⟩
          · by_cases hsp2 : sp = 2
            · by_cases hq : r.length = 1
              · have hs1 : (sp == 1) = false := by simp [hsp2]
                have hs2 : (sp == 2) = true := by simp [hsp2]
                have hs3 : (sp == 3) = false := by simp [hsp2]
                have hq1 : ((r.length : Int) == 1) = true := by rw [hq]; simp
                have hft : fitWay x r = true := by unfold fitWay; rw [HSP.out, hsp2, hq]; simp
                have HE := Lib.hid (ways_yes (t := x) (m := m) (by rw [HR.out]; exact hft))
                rw [HR.out] at HE
                clear hft
                try clear hq
                try clear hsp
                try clear hsp2
                try clear hsp3
                go_wp2_with (at_builtin; refine append_C5 rfl (.tmp 65) (.tmp 67) 47 rfl rowC 23 _ 24 Try.underlying47 info_row rfl (by decide) (by decide) (w.heap.size + 1) _ l rfl ((OW.out.own.later B4.out).later ((Below.refl _ _).alloc (Nat.le_refl _) _)) (r, g5) [.slice (some ⟨g5, 0, none⟩) r.length c5] wr0.heap.size w4.heap.size ⟨c5, rfl, W5.out.alloc _, K5.out.keep (Agree.of_below ((Below.refl _ _).alloc (Nat.le_refl _) _))⟩ (by have := PW.out.lt; omega) (by simp) (fun g hg => .inl (OW.out.own.lt g hg).2) w4.heap.size rfl (fun j u hu => by rw [Bk.cell (Bk.new rfl)]; simpa using hu) (by simp [Value.oneCell']) (by have := LN.out; omega) (by have := PW.out.lt; have := B4.out.size; simp; omega) ?_; intro v' w7 hown7 hg7 hb7 h57; have O7 := Lib.hid hown7; have B7 := Lib.hid hb7; clear hown7 hg7 hb7 h57)
                go_roundg (N - (m + 1))
                case measure => omega
                case rel =>
                  refine ⟨m + 1, l ++ [(r, g5)], by omega, by omega, by go_num, ?_, ?_, ?_⟩
                  · exact BW.out.trans ((B4.out.mono (by have := PW.out.lt; omega)).trans ((((Below.refl _ _).alloc (Nat.le_refl _) _).mono (by have := PW.out.lt; have := B4.out.size; omega)).trans (B7.out.mono (by omega))))
                  · exact (B7.out.block w.heap.size (by omega)).trans ((PW.out.later B4.out).alloc _)
                  · refine ⟨O7.out, by rw [List.map_append, OW.out.map, HE.out]; rfl, List.pairwise_append.2 ⟨OW.out.lt, List.pairwise_singleton _ _, fun p hp q hq => ?_⟩, fun p hp => ?_⟩
                    · rw [List.mem_singleton] at hq
                      subst hq
                      exact Nat.lt_of_lt_of_le (OW.out.hi p hp) G5.out
                    · have s7 := B7.out.size
                      have s4 := B4.out.size
                      have k5 := K5.out.1
                      simp only [World.size_alloc] at s7
                      rcases List.mem_append.1 hp with hp | hp
                      · have := OW.out.hi p hp
                        omega
                      · rw [List.mem_singleton] at hp
                        subst hp
                        show g5 < _
                        omega
              · have hs1 : (sp == 1) = false := by simp [hsp2]
                have hs2 : (sp == 2) = true := by simp [hsp2]
                have hs3 : (sp == 3) = false := by simp [hsp2]
                have hq1 : ((r.length : Int) == 1) = false := by rw [beq_eq_false_iff_ne]; omega
                have hft : fitWay x r = false := by unfold fitWay; rw [HSP.out, hsp2]; simp [hq]
                have HE := Lib.hid (ways_no (t := x) (m := m) (by rw [HR.out]; exact hft))
                clear hft
                try clear hq
                try clear hsp
                try clear hsp2
                try clear hsp3
                go_wp2
                go_roundg (N - (m + 1))
                case measure => omega
                case rel =>
                  exact ⟨m + 1, l, by omega, by omega, by go_num, BW.out.trans (B4.out.mono (by have := PW.out.lt; omega)), PW.out.later B4.out, by rw [HE.out]; exact OW.out.later B4.out⟩
            · by_cases hsp3 : sp = 3
              · have hs1 : (sp == 1) = false := by simp [hsp3]
                have hs2 : (sp == 2) = false := by simp [hsp3]
                have hs3 : (sp == 3) = true := by simp [hsp3]
                have hft : fitWay x r = true := by unfold fitWay; rw [HSP.out, hsp3]; simp
                have HE := Lib.hid (ways_yes (t := x) (m := m) (by rw [HR.out]; exact hft))
                rw [HR.out] at HE
                clear hft
                try clear hq
                try clear hsp
                try clear hsp2
                try clear hsp3
                go_wp2_with (at_builtin; refine append_C5 rfl (.tmp 65) (.tmp 67) 47 rfl rowC 23 _ 24 Try.underlying47 info_row rfl (by decide) (by decide) (w.heap.size + 1) _ l rfl ((OW.out.own.later B4.out).later ((Below.refl _ _).alloc (Nat.le_refl _) _)) (r, g5) [.slice (some ⟨g5, 0, none⟩) r.length c5] wr0.heap.size w4.heap.size ⟨c5, rfl, W5.out.alloc _, K5.out.keep (Agree.of_below ((Below.refl _ _).alloc (Nat.le_refl _) _))⟩ (by have := PW.out.lt; omega) (by simp) (fun g hg => .inl (OW.out.own.lt g hg).2) w4.heap.size rfl (fun j u hu => by rw [Bk.cell (Bk.new rfl)]; simpa using hu) (by simp [Value.oneCell']) (by have := LN.out; omega) (by have := PW.out.lt; have := B4.out.size; simp; omega) ?_; intro v' w7 hown7 hg7 hb7 h57; have O7 := Lib.hid hown7; have B7 := Lib.hid hb7; clear hown7 hg7 hb7 h57)
                go_roundg (N - (m + 1))
                case measure => omega
                case rel =>
                  refine ⟨m + 1, l ++ [(r, g5)], by omega, by omega, by go_num, ?_, ?_, ?_⟩
                  · exact BW.out.trans ((B4.out.mono (by have := PW.out.lt; omega)).trans ((((Below.refl _ _).alloc (Nat.le_refl _) _).mono (by have := PW.out.lt; have := B4.out.size; omega)).trans (B7.out.mono (by omega))))
                  · exact (B7.out.block w.heap.size (by omega)).trans ((PW.out.later B4.out).alloc _)
                  · refine ⟨O7.out, by rw [List.map_append, OW.out.map, HE.out]; rfl, List.pairwise_append.2 ⟨OW.out.lt, List.pairwise_singleton _ _, fun p hp q hq => ?_⟩, fun p hp => ?_⟩
                    · rw [List.mem_singleton] at hq
                      subst hq
                      exact Nat.lt_of_lt_of_le (OW.out.hi p hp) G5.out
                    · have s7 := B7.out.size
                      have s4 := B4.out.size
                      have k5 := K5.out.1
                      simp only [World.size_alloc] at s7
                      rcases List.mem_append.1 hp with hp | hp
                      · have := OW.out.hi p hp
                        omega
                      · rw [List.mem_singleton] at hp
                        subst hp
                        show g5 < _
                        omega
              · have hs1 : (sp == 1) = false := by simp [hsp]
                have hs2 : (sp == 2) = false := by simp [hsp2]
                have hs3 : (sp == 3) = false := by simp [hsp3]
                have hft : fitWay x r = false := by unfold fitWay; rw [HSP.out]; simp [hsp, hsp2, hsp3]
                have HE := Lib.hid (ways_no (t := x) (m := m) (by rw [HR.out]; exact hft))
                clear hft
                try clear hq
                try clear hsp
                try clear hsp2
                try clear hsp3
                go_wp2
                go_roundg (N - (m + 1))
                case measure => omega
                case rel =>
                  exact ⟨m + 1, l, by omega, by omega, by go_num, BW.out.trans (B4.out.mono (by have := PW.out.lt; omega)), PW.out.later B4.out, by rw [HE.out]; exact OW.out.later B4.out⟩
    · have hltz : ¬ (m : Int) + 1 < (N : Int) := by omega
      have he : m = N - 1 := by omega
      have LN8 := LN.out
      go_wp2
      go_ret
      rw [HF.out, ← he]
      exact OW.out.gives (by omega) (by omega) BW.out
end Go.Proofs.Ytkkjljpokannkaa
