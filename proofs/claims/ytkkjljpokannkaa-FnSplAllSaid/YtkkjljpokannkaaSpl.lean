/- Where a task leads to with data: SplTo of the program and of the reference. -/
import Derived.Test.YtkkjljpokannkaaAny0
import Derived.Test.YtkkjljpokannkaaOwn0
import Derived.Test.YtkkjljpokannkaaNetSpec
import Derived.Test.YtkkjljpokannkaaExp
namespace Go.Proofs.Ytkkjljpokannkaa
open Go.RowKit
set_option linter.unusedSimpArgs false
set_option linter.unusedVariables false

/-- Way i of a task is passed by, when so many have been taken. -/
def splSkip (t : GTask) (i n : Nat) : Bool := (decide (t.split = 2) && decide (0 < n)) || (decide (t.split = 3) && (decide (i + 1 = t.out.length) && decide (0 < n)))
def splStep (t : GTask) (d : List Int) (out : List Int) (i : Nat) : List Int :=
  if (holds (t.out.getD i flow0).ask d && !splSkip t i out.length) = true then out ++ [(t.out.getD i flow0).to] else out
def splTo (t : GTask) (d : List Int) : Nat → List Int
  | 0 => []
  | k + 1 => splStep t d (splTo t d k) k
theorem splTo_len (t : GTask) (d : List Int) : ∀ k, (splTo t d k).length ≤ k
  | 0 => by simp [splTo]
  | k + 1 => by
    have h := splTo_len t d k
    unfold splTo splStep
    split
    · rw [List.length_append]; simp; omega
    · omega
theorem splTo_no {t : GTask} {d : List Int} {k : Nat} (h : holds (t.out.getD k flow0).ask d = false ∨ splSkip t k (splTo t d k).length = true) : splTo t d (k + 1) = splTo t d k := by
  show splStep t d (splTo t d k) k = _
  unfold splStep
  rw [if_neg]
  rcases h with h | h
  · rw [h]; simp
  · rw [h]; simp
theorem splTo_yes {t : GTask} {d : List Int} {k : Nat} (h : holds (t.out.getD k flow0).ask d = true) (h2 : splSkip t k (splTo t d k).length = false) : splTo t d (k + 1) = splTo t d k ++ [(t.out.getD k flow0).to] := by
  show splStep t d (splTo t d k) k = _
  unfold splStep
  rw [if_pos (by rw [h, h2]; rfl)]
/-- Where one way is taken for all, the first one is the last. -/
theorem splTo_done {t : GTask} {d : List Int} (h2 : t.split = 2) {k : Nat} (hk : 0 < (splTo t d k).length) : ∀ j, splTo t d (k + j) = splTo t d k
  | 0 => rfl
  | j + 1 => by
    have ih := splTo_done h2 hk j
    rw [show k + (j + 1) = (k + j) + 1 from rfl, splTo_no (.inr ?_), ih]
    rw [ih]
    simp [splSkip, h2, hk]

abbrev taskV (x : GTask) (A1 : Option Addr) (c1 : Nat) (A2 : Option Addr) (c2 : Nat) (A3 : Option Addr) (c3 : Nat) : Array Value := #[.int .i64 x.join, .int .i64 x.split, .slice A1 x.inn.length c1, .slice A2 x.out.length c2, .slice A3 x.clear.length c3, .int .i64 x.role, .int .i64 x.apart, .int .i64 x.all, .int .i64 x.need]

set_option maxRecDepth 100000 in
set_option maxHeartbeats 4000000 in
theorem impl_SplTo (x : GTask) (A1 : Option Addr) (c1 : Nat) (A2 : Option Addr) (c2 : Nat) (A3 : Option Addr) (c3 : Nat) (A : Option Addr) (c : Nat) (d : List Int) (m : Option Nat) (w : World)
    (hx : Rows flowC m w w.heap.size A2 x.out) (hd : Ints w w.heap.size A d) (hl : x.out.length ≤ 1000) :
    Calls Try.prog 42 #[.agg (taskV x A1 c1 A2 c2 A3 c3), .slice A d.length c] w (GivesInts (splTo x d x.out.length) w) := by
  have HX := Lib.hid hx
  have HD := Lib.hid hd
  clear hx hd
  obtain ⟨sp, hsp⟩ : ∃ sp, sp = x.split := ⟨_, rfl⟩
  have HSP : Hid (x.split = sp) := hsp.symm
  unfold taskV
  rw [← hsp]
  clear hsp
  go_enter Try.func42, Try.ntmps42
  go_wp2
  generalize hW : w.alloc _ = W
  have P0 : Hid (Bk W w.heap.size 42 #[.int .i64 x.join, .int .i64 sp, .slice A1 x.inn.length c1, .slice A2 x.out.length c2, .slice A3 x.clear.length c3, .int .i64 x.role, .int .i64 x.apart, .int .i64 x.all, .int .i64 x.need]) := by show Bk _ _ _ _; rw [← hW]; exact Bk.new rfl
  have B : Hid (Below w.heap.size w W) := by show Below _ _ _; rw [← hW]; go_grown
  have O0 : Hid (OwnV W (w.heap.size + 1) (.slice none 0 0) []) := OwnV.nil _ _
  clear hW
  go_loopg [5, 6, 7, 11, 21, 27, 36] x.out.length (fun gg s5 _ _ s6 _ _ _ wr => ∃ k : Nat, k ≤ x.out.length ∧ x.out.length - k ≤ gg ∧ s6 = .int .i64 k ∧ Aside (Below w.heap.size w wr) ∧ Aside (Bk wr w.heap.size 42 #[.int .i64 x.join, .int .i64 sp, .slice A1 x.inn.length c1, .slice A2 x.out.length c2, .slice A3 x.clear.length c3, .int .i64 x.role, .int .i64 x.apart, .int .i64 x.all, .int .i64 x.need]) ∧ Aside (OwnV wr (w.heap.size + 1) s5 (splTo x d k)))
  case atStart => exact ⟨0, Nat.zero_le _, by omega, rfl, B.out, P0.out, O0.out⟩
  case round =>
    obtain ⟨k, hk, hg, rfl, BW, PW, OW⟩ := hrel
    have hsl := splTo_len x d k
    have pwl := PW.out.lt
    obtain ⟨A5, c5, hv5, _⟩ := OW.out.form
    subst hv5
    obtain ⟨n, hn⟩ : ∃ n, n = (splTo x d k).length := ⟨_, rfl⟩
    have HN := Lib.hid hn
    rw [← hn] at OW hsl ⊢
    clear hn
    have k0 := fun i => PW.out.cell i
    by_cases hlt : k < x.out.length
    · have hltz : (k : Int) < (x.out.length : Int) := by omega
      have HF : Hid (x.out.getD k flow0 = x.out[k]) := getD_get hlt
      obtain ⟨b, off, hA2, hb, hc0, hc1, hc2, hc3⟩ := flow_at (HX.out.later BW.out) hlt
      generalize x.out[k] = f at HF hc0 hc1 hc2 hc3
      obtain ⟨fto, fop, fvar, fk⟩ := f
      subst hA2
      go_upto_region 6 with fail
      generalize hV : wr.alloc _ = V
      have hBV : Below wr.heap.size wr V := by rw [← hV]; exact (Below.refl _ _).alloc (Nat.le_refl _) _
      have fV : Bk V wr.heap.size 142 #[.int .i64 fto, .int .i64 fop, .int .i64 fvar, .int .i64 fk] := by rw [← hV]; exact Bk.new rfl
      have BV := Lib.hid (BW.out.trans (hBV.mono BW.out.size))
      have PV := Lib.hid (PW.out.later hBV)
      have OV := Lib.hid (OW.out.later hBV)
      have FV := Lib.hid fV
      clear hV hBV fV k0 hc0 hc1 hc2 hc3 BW OW PW
      have kf := fun i => FV.out.cell i
      go_wp2_with fail
      refine (impl_ExpHolds ⟨fop, fvar, fk⟩ A c d V (HD.out.later BV.out)).mono ?_
      rintro e w1 ⟨rfl, hb1⟩
      have B1 := Lib.hid (BV.out.trans (hb1.mono BV.out.size))
      have P1 := Lib.hid (PV.out.later hb1)
      have O1 := Lib.hid (OV.out.later hb1)
      have F1 := Lib.hid (FV.out.later hb1)
      have pl1 := P1.out.lt
      clear hb1 kf BV PV OV FV
      have k1 := fun i => P1.out.cell i
      have kf := fun i => F1.out.cell i
      cases hh : holds ⟨fop, fvar, fk⟩ d with
      | false =>
        have HE := Lib.hid (splTo_no (t := x) (d := d) (k := k) (.inl (by rw [HF.out]; exact hh)))
        go_wp2
        go_roundg (x.out.length - (k + 1))
        case measure => omega
        case rel => exact ⟨k + 1, by omega, by omega, by go_num, B1.out, P1.out, by show OwnV _ _ _ _; rw [HE.out]; exact O1.out⟩
      | true =>
        have hh' : holds (x.out.getD k flow0).ask d = true := by rw [HF.out]; exact hh
        clear hh
        have hh := hh'
        clear hh'
        have HH := Lib.hid hh
        clear hh
        by_cases h2 : sp = 2
        · by_cases hp : 0 < n
          · have hh := HH.out
            have hsk : splSkip x k (splTo x d k).length = true := by rw [← HN.out]; simp [splSkip, HSP.out, h2, hp]
            have HE := Lib.hid (splTo_no (d := d) (.inr hsk))
            have hs2 : (sp == 2) = true := by simp [h2]
            have hs3 : (sp == 3) = false := by simp [h2]
            have hs4 : (sp != 3) = true := by simp [h2]
            have hp0 : decide (0 < n) = true := by simpa using hp
            have hp1 : ((n : Int) == 0) = false := by rw [beq_eq_false_iff_ne]; omega
            have hp2 : (0 : Int) < (n : Int) := by omega
            clear hsk h2 hp
            clear hh
            go_wp2
            go_roundg (x.out.length - (k + 1))
            case measure => omega
            case rel => exact ⟨k + 1, by omega, by omega, by go_num, B1.out, P1.out, by show OwnV _ _ _ _; rw [HE.out]; exact O1.out⟩
          · have hh := HH.out
            have hsk : splSkip x k (splTo x d k).length = false := by rw [← HN.out]; simp [splSkip, HSP.out, h2, hp]
            have HE := Lib.hid (splTo_yes hh hsk)
            have hs2 : (sp == 2) = true := by simp [h2]
            have hs3 : (sp == 3) = false := by simp [h2]
            have hs4 : (sp != 3) = true := by simp [h2]
            obtain rfl : n = 0 := by omega
            clear hsk h2 hp
            clear hh
            go_wp2_with (at_builtin; refine append_int rfl (.tmp 16) (.tmp 19) rfl (w.heap.size + 1) _ _ rfl (O1.out.alloc _) w1.heap.size fto rfl (by simp) (by have := HN.out; omega) (by simp; omega) ?_; intro v' w2 hown2 hb2; have HO2 := Lib.hid hown2; have HB2 := Lib.hid hb2; clear hown2 hb2)
            go_roundg (x.out.length - (k + 1))
            case measure => omega
            case rel => exact ⟨k + 1, by omega, by omega, by go_num, (B1.out.alloc B1.out.size _).trans (HB2.out.mono (by omega)), (HB2.out.block w.heap.size (by omega)).trans (P1.out.alloc _), by show OwnV _ _ _ _; rw [HE.out, HF.out]; exact HO2.out⟩
        · by_cases h3 : sp = 3
          · by_cases hl1 : k + 1 = x.out.length
            · by_cases hp : 0 < n
              · have hh := HH.out
                have hsk : splSkip x k (splTo x d k).length = true := by rw [← HN.out]; simp [splSkip, HSP.out, h3, hl1, hp]
                have HE := Lib.hid (splTo_no (d := d) (.inr hsk))
                have hs2 : (sp == 2) = false := by simp [h3]
                have hs3 : (sp == 3) = true := by simp [h3]
                have hs4 : (sp != 3) = false := by simp [h3]
                have hla : ((k : Int) == (x.out.length : Int) - 1) = true := by simp; omega
                have hlb : decide ((k : Int) < (x.out.length : Int) - 1) = false := by simp; omega
                have hp0 : decide (0 < n) = true := by simpa using hp
                have hp1 : ((n : Int) == 0) = false := by rw [beq_eq_false_iff_ne]; omega
                have hp2 : (0 : Int) < (n : Int) := by omega
                clear hsk h2 h3 hl1 hp
                clear hh
                go_wp2
                go_roundg (x.out.length - (k + 1))
                case measure => omega
                case rel => exact ⟨k + 1, by omega, by omega, by go_num, B1.out, P1.out, by show OwnV _ _ _ _; rw [HE.out]; exact O1.out⟩
              · have hh := HH.out
                have hsk : splSkip x k (splTo x d k).length = false := by rw [← HN.out]; simp [splSkip, HSP.out, h3, hl1, hp]
                have HE := Lib.hid (splTo_yes hh hsk)
                have hs2 : (sp == 2) = false := by simp [h3]
                have hs3 : (sp == 3) = true := by simp [h3]
                have hs4 : (sp != 3) = false := by simp [h3]
                have hla : ((k : Int) == (x.out.length : Int) - 1) = true := by simp; omega
                have hlb : decide ((k : Int) < (x.out.length : Int) - 1) = false := by simp; omega
                obtain rfl : n = 0 := by omega
                clear hsk h2 h3 hl1 hp
                clear hh
                go_wp2_with (at_builtin; refine append_int rfl (.tmp 16) (.tmp 19) rfl (w.heap.size + 1) _ _ rfl (O1.out.alloc _) w1.heap.size fto rfl (by simp) (by have := HN.out; omega) (by simp; omega) ?_; intro v' w2 hown2 hb2; have HO2 := Lib.hid hown2; have HB2 := Lib.hid hb2; clear hown2 hb2)
                go_roundg (x.out.length - (k + 1))
                case measure => omega
                case rel => exact ⟨k + 1, by omega, by omega, by go_num, (B1.out.alloc B1.out.size _).trans (HB2.out.mono (by omega)), (HB2.out.block w.heap.size (by omega)).trans (P1.out.alloc _), by show OwnV _ _ _ _; rw [HE.out, HF.out]; exact HO2.out⟩
            · have hh := HH.out
              have hsk : splSkip x k (splTo x d k).length = false := by rw [← HN.out]; simp [splSkip, HSP.out, h3, hl1]
              have HE := Lib.hid (splTo_yes hh hsk)
              have hs2 : (sp == 2) = false := by simp [h3]
              have hs3 : (sp == 3) = true := by simp [h3]
              have hs4 : (sp != 3) = false := by simp [h3]
              have hla : ((k : Int) == (x.out.length : Int) - 1) = false := by rw [beq_eq_false_iff_ne]; omega
              have hlb : decide ((k : Int) < (x.out.length : Int) - 1) = true := by simp; omega
              clear hsk h2 h3 hl1
              clear hh
              go_wp2_with (at_builtin; refine append_int rfl (.tmp 16) (.tmp 19) rfl (w.heap.size + 1) _ _ rfl (O1.out.alloc _) w1.heap.size fto rfl (by simp) (by have := HN.out; omega) (by simp; omega) ?_; intro v' w2 hown2 hb2; have HO2 := Lib.hid hown2; have HB2 := Lib.hid hb2; clear hown2 hb2)
              go_roundg (x.out.length - (k + 1))
              case measure => omega
              case rel => exact ⟨k + 1, by omega, by omega, by go_num, (B1.out.alloc B1.out.size _).trans (HB2.out.mono (by omega)), (HB2.out.block w.heap.size (by omega)).trans (P1.out.alloc _), by show OwnV _ _ _ _; rw [HE.out, HF.out]; exact HO2.out⟩
          · have hh := HH.out
            have hsk : splSkip x k (splTo x d k).length = false := by rw [← HN.out]; simp [splSkip, HSP.out, h2, h3]
            have HE := Lib.hid (splTo_yes hh hsk)
            have hs2 : (sp == 2) = false := by simp [h2]
            have hs3 : (sp == 3) = false := by simp [h3]
            have hs4 : (sp != 3) = true := by simp [h3]
            clear hsk h2 h3
            clear hh
            go_wp2_with (at_builtin; refine append_int rfl (.tmp 16) (.tmp 19) rfl (w.heap.size + 1) _ _ rfl (O1.out.alloc _) w1.heap.size fto rfl (by simp) (by have := HN.out; omega) (by simp; omega) ?_; intro v' w2 hown2 hb2; have HO2 := Lib.hid hown2; have HB2 := Lib.hid hb2; clear hown2 hb2)
            go_roundg (x.out.length - (k + 1))
            case measure => omega
            case rel => exact ⟨k + 1, by omega, by omega, by go_num, (B1.out.alloc B1.out.size _).trans (HB2.out.mono (by omega)), (HB2.out.block w.heap.size (by omega)).trans (P1.out.alloc _), by show OwnV _ _ _ _; rw [HE.out, HF.out]; exact HO2.out⟩
    · have hltz : ¬ (k : Int) < (x.out.length : Int) := by omega
      have he : k = x.out.length := by omega
      have HE := Lib.hid he
      clear he
      go_wp2
      go_ret
      exact ⟨_, rfl, by rw [← HE.out]; exact OW.out.low (by omega), BW.out⟩

set_option maxRecDepth 100000 in
set_option maxHeartbeats 4000000 in
theorem spec_SplTo (x : GTask) (A1 : Option Addr) (c1 : Nat) (A2 : Option Addr) (c2 : Nat) (A3 : Option Addr) (c3 : Nat) (A : Option Addr) (c : Nat) (d : List Int) (m : Option Nat) (w : World)
    (hx : Rows flowC m w w.heap.size A2 x.out) (hd : Ints w w.heap.size A d) (hl : x.out.length ≤ 1000) :
    Calls Try.prog 141 #[.agg (taskV x A1 c1 A2 c2 A3 c3), .slice A d.length c] w (GivesInts (splTo x d x.out.length) w) := by
  have HX := Lib.hid hx
  have HD := Lib.hid hd
  clear hx hd
  obtain ⟨sp, hsp⟩ : ∃ sp, sp = x.split := ⟨_, rfl⟩
  have HSP : Hid (x.split = sp) := hsp.symm
  unfold taskV
  rw [← hsp]
  clear hsp
  go_enter Try.func141, Try.ntmps141
  go_wp2
  generalize hW : (w.alloc _).alloc _ = W
  have P0 : Hid (Bk W w.heap.size 42 #[.int .i64 x.join, .int .i64 sp, .slice A1 x.inn.length c1, .slice A2 x.out.length c2, .slice A3 x.clear.length c3, .int .i64 x.role, .int .i64 x.apart, .int .i64 x.all, .int .i64 x.need]) := by show Bk _ _ _ _; rw [← hW]; exact (Bk.new rfl).alloc _
  have B : Hid (Below w.heap.size w W) := by show Below _ _ _; rw [← hW]; go_grown
  have O0 : Hid (OwnV W (w.heap.size + 1) (.slice (some ⟨w.heap.size + 1, 0, none⟩) 0 0) []) := by
    show OwnV _ _ _ _
    rw [← hW]
    have h := OwnV.made' (w := w.alloc (.cells #[.int .i64 x.join, .int .i64 sp, .slice A1 x.inn.length c1, .slice A2 x.out.length c2, .slice A3 x.clear.length c3, .int .i64 x.role, .int .i64 x.apart, .int .i64 x.all, .int .i64 x.need] 42)) (base := w.heap.size + 1) (by simp)
    rw [World.size_alloc] at h
    exact h
  clear hW
  go_loopg [5, 6] x.out.length (fun gg s5 s6 wr => ∃ k : Nat, k ≤ x.out.length ∧ x.out.length - k ≤ gg ∧ s6 = .int .i64 k ∧ Aside (Below w.heap.size w wr) ∧ Aside (Bk wr w.heap.size 42 #[.int .i64 x.join, .int .i64 sp, .slice A1 x.inn.length c1, .slice A2 x.out.length c2, .slice A3 x.clear.length c3, .int .i64 x.role, .int .i64 x.apart, .int .i64 x.all, .int .i64 x.need]) ∧ Aside (OwnV wr (w.heap.size + 1) s5 (splTo x d k)) ∧ Aside (sp = 2 → splTo x d k = []))
  case atStart => exact ⟨0, Nat.zero_le _, by omega, rfl, B.out, P0.out, O0.out, fun _ => rfl⟩
  case round =>
    obtain ⟨k, hk, hg, rfl, BW, PW, OW, NP⟩ := hrel
    have hsl := splTo_len x d k
    have pwl := PW.out.lt
    obtain ⟨A5, c5, hv5, _⟩ := OW.out.form
    subst hv5
    obtain ⟨n, hn⟩ : ∃ n, n = (splTo x d k).length := ⟨_, rfl⟩
    have HN := Lib.hid hn
    rw [← hn] at OW hsl ⊢
    clear hn
    have k0 := fun i => PW.out.cell i
    by_cases hlt : k < x.out.length
    · have hltz : (k : Int) < (x.out.length : Int) := by omega
      have HF : Hid (x.out.getD k flow0 = x.out[k]) := getD_get hlt
      obtain ⟨b, off, hA2, hb, hc0, hc1, hc2, hc3⟩ := flow_at (HX.out.later BW.out) hlt
      generalize x.out[k] = f at HF hc0 hc1 hc2 hc3
      obtain ⟨fto, fop, fvar, fk⟩ := f
      subst hA2
      cases hh : holds ⟨fop, fvar, fk⟩ d with
      | false =>
        have HE := Lib.hid (splTo_no (t := x) (d := d) (k := k) (.inl (by rw [HF.out]; exact hh)))
        go_wp2_with (go_at_call 174; refine (spec_ExpHolds ⟨fop, fvar, fk⟩ A c d wr (HD.out.later BW.out)).mono ?_; rintro e w1 ⟨rfl, hb1⟩; have B1 := Lib.hid (BW.out.trans (hb1.mono BW.out.size)); have P1 := Lib.hid (PW.out.later hb1); have O1 := Lib.hid (OW.out.later hb1); clear hb1)
        go_roundg (x.out.length - (k + 1))
        case measure => omega
        case rel => exact ⟨k + 1, by omega, by omega, by go_num, B1.out, P1.out, by show OwnV _ _ _ _; rw [HE.out]; exact O1.out, fun h => by rw [HE.out]; exact NP.out h⟩
      | true =>
        have hh' : holds (x.out.getD k flow0).ask d = true := by rw [HF.out]; exact hh
        have HH := Lib.hid hh'
        have HH0 := Lib.hid hh
        clear hh hh'
        have BD := Lib.hid (HX.out.later BW.out)
        go_wp2_with fail
        refine (spec_ExpHolds ⟨fop, fvar, fk⟩ A c d wr (HD.out.later BW.out)).mono ?_
        rintro e w1 ⟨rfl, hb1⟩
        have B1 := Lib.hid (BW.out.trans (hb1.mono BW.out.size))
        have P1 := Lib.hid (PW.out.later hb1)
        have O1 := Lib.hid (OW.out.later hb1)
        have pl1 := P1.out.lt
        have hc0' := (hb1.cell (p := ⟨b, off + k * 4, none⟩) hb).trans hc0
        clear hb1 k0 hc0 hc1 hc2 hc3
        have hc0 := hc0'
        clear hc0'
        rw [HH0.out]
        have k1 := fun i => P1.out.cell i
        by_cases h2 : sp = 2
        · by_cases hp : 0 < n
          · have h5 := NP.out h2
            exact absurd hp (by have h6 := HN.out; rw [h5] at h6; simp at h6; omega)
          · have hh := HH.out
            have hsk : splSkip x k (splTo x d k).length = false := by rw [← HN.out]; simp [splSkip, HSP.out, h2, hp]
            have HE := Lib.hid (splTo_yes hh hsk)
            have HE1 : Hid (splTo x d x.out.length = splTo x d k ++ [fto]) := by
              show _ = _
              have h5 := splTo_done (t := x) (d := d) (HSP.out.trans h2) (k := k + 1) (by rw [HE.out]; simp) (x.out.length - (k + 1))
              rw [show k + 1 + (x.out.length - (k + 1)) = x.out.length from by omega] at h5
              rw [h5, HE.out, HF.out]
            have hs2 : (sp == 2) = true := by simp [h2]
            have hs3 : (sp == 3) = false := by simp [h2]
            have hs4 : (sp != 3) = true := by simp [h2]
            obtain rfl : n = 0 := by omega
            clear hsk h2 hp
            clear hh
            go_wp2_with (at_builtin; refine append_int rfl (.tmp 41) (.tmp 48) rfl (w.heap.size + 1) _ _ rfl (O1.out.alloc _) w1.heap.size fto rfl (by simp) (by have := HN.out; omega) (by simp; omega) ?_; intro v' w2 hown2 hb2; have HO2 := Lib.hid hown2; have HB2 := Lib.hid hb2; have PB := Lib.hid ((HB2.out.block w.heap.size (by omega)).trans (P1.out.alloc (.cells #[.int .i64 fto] 3))); have P2 : Hid (Bk w2 w.heap.size 42 _) := PB.out; have k2 := fun i => P2.out.cell i; clear hown2 hb2 k1)
            go_ret
            exact ⟨_, rfl, by rw [HE1.out]; exact HO2.out.low (by omega), (B1.out.alloc B1.out.size _).trans (HB2.out.mono (by omega))⟩
        · by_cases h3 : sp = 3
          · by_cases hl1 : k + 1 = x.out.length
            · by_cases hp : 0 < n
              · have hh := HH.out
                have HS2 := Lib.hid h2
                have hsk : splSkip x k (splTo x d k).length = true := by rw [← HN.out]; simp [splSkip, HSP.out, h3, hl1, hp]
                have HE := Lib.hid (splTo_no (d := d) (.inr hsk))
                have hs2 : (sp == 2) = false := by simp [h3]
                have hs3 : (sp == 3) = true := by simp [h3]
                have hs4 : (sp != 3) = false := by simp [h3]
                have hla : ((k : Int) == (x.out.length : Int) - 1) = true := by simp; omega
                have hlb : decide ((k : Int) < (x.out.length : Int) - 1) = false := by simp; omega
                have hp0 : decide (0 < n) = true := by simpa using hp
                have hp1 : ((n : Int) == 0) = false := by rw [beq_eq_false_iff_ne]; omega
                have hp2 : (0 : Int) < (n : Int) := by omega
                clear hsk h2 h3 hl1 hp
                clear hh
                go_wp2
                go_roundg (x.out.length - (k + 1))
                case measure => omega
                case rel => exact ⟨k + 1, by omega, by omega, by go_num, B1.out, P1.out, by show OwnV _ _ _ _; rw [HE.out]; exact O1.out, fun h => absurd h HS2.out⟩
              · have hh := HH.out
                have HS2 := Lib.hid h2
                have hsk : splSkip x k (splTo x d k).length = false := by rw [← HN.out]; simp [splSkip, HSP.out, h3, hl1, hp]
                have HE := Lib.hid (splTo_yes hh hsk)
                have hs2 : (sp == 2) = false := by simp [h3]
                have hs3 : (sp == 3) = true := by simp [h3]
                have hs4 : (sp != 3) = false := by simp [h3]
                have hla : ((k : Int) == (x.out.length : Int) - 1) = true := by simp; omega
                have hlb : decide ((k : Int) < (x.out.length : Int) - 1) = false := by simp; omega
                obtain rfl : n = 0 := by omega
                clear hsk h2 h3 hl1 hp
                clear hh
                go_wp2_with (at_builtin; refine append_int rfl (.tmp 41) (.tmp 48) rfl (w.heap.size + 1) _ _ rfl (O1.out.alloc _) w1.heap.size fto rfl (by simp) (by have := HN.out; omega) (by simp; omega) ?_; intro v' w2 hown2 hb2; have HO2 := Lib.hid hown2; have HB2 := Lib.hid hb2; have PB := Lib.hid ((HB2.out.block w.heap.size (by omega)).trans (P1.out.alloc (.cells #[.int .i64 fto] 3))); have P2 : Hid (Bk w2 w.heap.size 42 _) := PB.out; have k2 := fun i => P2.out.cell i; clear hown2 hb2 k1)
                go_roundg (x.out.length - (k + 1))
                case measure => omega
                case rel => exact ⟨k + 1, by omega, by omega, by go_num, (B1.out.alloc B1.out.size _).trans (HB2.out.mono (by omega)), P2.out, by show OwnV _ _ _ _; rw [HE.out, HF.out]; exact HO2.out, fun h => absurd h HS2.out⟩
            · have hh := HH.out
              have HS2 := Lib.hid h2
              have hsk : splSkip x k (splTo x d k).length = false := by rw [← HN.out]; simp [splSkip, HSP.out, h3, hl1]
              have HE := Lib.hid (splTo_yes hh hsk)
              have hs2 : (sp == 2) = false := by simp [h3]
              have hs3 : (sp == 3) = true := by simp [h3]
              have hs4 : (sp != 3) = false := by simp [h3]
              have hla : ((k : Int) == (x.out.length : Int) - 1) = false := by rw [beq_eq_false_iff_ne]; omega
              have hlb : decide ((k : Int) < (x.out.length : Int) - 1) = true := by simp; omega
              clear hsk h2 h3 hl1
              clear hh
              go_wp2_with (at_builtin; refine append_int rfl (.tmp 41) (.tmp 48) rfl (w.heap.size + 1) _ _ rfl (O1.out.alloc _) w1.heap.size fto rfl (by simp) (by have := HN.out; omega) (by simp; omega) ?_; intro v' w2 hown2 hb2; have HO2 := Lib.hid hown2; have HB2 := Lib.hid hb2; have PB := Lib.hid ((HB2.out.block w.heap.size (by omega)).trans (P1.out.alloc (.cells #[.int .i64 fto] 3))); have P2 : Hid (Bk w2 w.heap.size 42 _) := PB.out; have k2 := fun i => P2.out.cell i; clear hown2 hb2 k1)
              go_roundg (x.out.length - (k + 1))
              case measure => omega
              case rel => exact ⟨k + 1, by omega, by omega, by go_num, (B1.out.alloc B1.out.size _).trans (HB2.out.mono (by omega)), P2.out, by show OwnV _ _ _ _; rw [HE.out, HF.out]; exact HO2.out, fun h => absurd h HS2.out⟩
          · have hh := HH.out
            have HS2 := Lib.hid h2
            have hsk : splSkip x k (splTo x d k).length = false := by rw [← HN.out]; simp [splSkip, HSP.out, h2, h3]
            have HE := Lib.hid (splTo_yes hh hsk)
            have hs2 : (sp == 2) = false := by simp [h2]
            have hs3 : (sp == 3) = false := by simp [h3]
            have hs4 : (sp != 3) = true := by simp [h3]
            clear hsk h2 h3
            clear hh
            go_wp2_with (at_builtin; refine append_int rfl (.tmp 41) (.tmp 48) rfl (w.heap.size + 1) _ _ rfl (O1.out.alloc _) w1.heap.size fto rfl (by simp) (by have := HN.out; omega) (by simp; omega) ?_; intro v' w2 hown2 hb2; have HO2 := Lib.hid hown2; have HB2 := Lib.hid hb2; have PB := Lib.hid ((HB2.out.block w.heap.size (by omega)).trans (P1.out.alloc (.cells #[.int .i64 fto] 3))); have P2 : Hid (Bk w2 w.heap.size 42 _) := PB.out; have k2 := fun i => P2.out.cell i; clear hown2 hb2 k1)
            go_roundg (x.out.length - (k + 1))
            case measure => omega
            case rel => exact ⟨k + 1, by omega, by omega, by go_num, (B1.out.alloc B1.out.size _).trans (HB2.out.mono (by omega)), P2.out, by show OwnV _ _ _ _; rw [HE.out, HF.out]; exact HO2.out, fun h => absurd h HS2.out⟩
    · have hltz : ¬ (k : Int) < (x.out.length : Int) := by omega
      have he : k = x.out.length := by omega
      have HE := Lib.hid he
      clear he
      go_wp2
      go_ret
      exact ⟨_, rfl, by rw [← HE.out]; exact OW.out.low (by omega), BW.out⟩

end Go.Proofs.Ytkkjljpokannkaa
