/- The people of whom something holds: impl.persons. -/
import Derived.Test.YtjieilicjdoaaaaGNet
import Derived.Test.YtjieilicjdoaaaaGBase
import Derived.Deep.RegionHeld3
import Derived.Test.YtjieilicjdoaaaaBusyImpl
import Derived.StillTailTactics
import Derived.Laws.StructEq
namespace Go.Proofs.Ytjieilicjdoaaaa
open Go.RowKit

/-- What a function that hands back a new slice of ints leaves. -/
def GivesInts (out : List Int) (w : World) (e : Ending) (w' : World) : Prop := ∃ v, e = .returned v ∧ OwnV w' w.heap.size v out ∧ Below w.heap.size w w'

def personsTo (p : Int → Bool) (k : Nat) : List Int := ((List.range k).map fun i => ((i : Nat) : Int) + 1).filter p
theorem personsTo_yes {p : Int → Bool} {k : Nat} (h : p ((k : Int) + 1) = true) : personsTo p (k + 1) = personsTo p k ++ [(k : Int) + 1] := by
 simp [personsTo, List.range_succ, h]
theorem personsTo_no {p : Int → Bool} {k : Nat} (h : p ((k : Int) + 1) = false) : personsTo p (k + 1) = personsTo p k := by
 simp [personsTo, List.range_succ, h]
theorem personsTo_len (p : Int → Bool) (k : Nat) : (personsTo p k).length ≤ k := by
 unfold personsTo
 exact Nat.le_trans (List.length_filter_le _ _) (by simp)
/-- The people of whom something holds; none, if the people are not valid. -/
def personsOf (xs : List Int) (p : Int → Bool) : List Int := if pplOk xs = true then personsTo p xs.length else []

theorem personsOf_len (xs : List Int) (p : Int → Bool) : (personsOf xs p).length ≤ 4 := by
 unfold personsOf
 split
 ·
  rename_i h
  exact Nat.le_trans (personsTo_len p _) (pplOk_bounds h).2.1
 ·
  simp
end Go.Proofs.Ytjieilicjdoaaaa

/- Rules: how a rule reads as plain data; whether rules are ok, as a plain function. -/
namespace Go.Proofs.Ytjieilicjdoaaaa
open Go.RowKit

/-- A rule. -/
structure GRule where
 ask : GAsk
 yes : Int
 no : Int
 ans : Int
 stone : List Int
def rule0 : GRule := ⟨⟨0, 0, 0⟩, -1, -1, 0, []⟩

section
variable {m : Option Nat} {w : World} {B : Nat} {A : Option Addr}
end

/-- A question holds for data. -/
def holds (e : GAsk) (d : List Int) : Bool :=
 askOk e && (datOk d && (if e.op = 1 then decide (d.getD e.var.toNat 0 < e.k) else if e.op = 2 then decide (d.getD e.var.toNat 0 = e.k) else if e.op = 3 then decide (e.k < d.getD e.var.toNat 0) else true))

def hit (y : Int) (j : Nat) : Nat := if y = (j : Int) then 1 else 0
theorem datOk_len {d : List Int} (h : datOk d = true) : d.length = 3 := by simp [datOk] at h; exact h.1

/-- The rule that a number names. -/
def rule (t : List GRule) (a : Int) : GRule := t.getD a.toNat rule0
def next (t : List GRule) (d : List Int) (a : Int) : Int := if a = -1 then -1 else if holds (rule t a).ask d then (rule t a).yes else (rule t a).no
end Go.Proofs.Ytjieilicjdoaaaa

/- ExpHolds of the program and of the reference. -/
namespace Go.Proofs.Ytjieilicjdoaaaa
open Go.RowKit

theorem spec_DatOk' (A : Option Addr) (c : Nat) (xs : List Int) (w : World) (hx : Ints w w.heap.size A xs) :
  Calls Try.prog 30 #[.slice A xs.length c] w fun e w' => e = .returned (.bool (datOk xs)) ∧ Below w.heap.size w w' :=
 (spec_DatOk A c xs w w.heap.size hx).mono fun e w' ⟨h, h2⟩ => ⟨h, by subst h2; exact Below.refl _ _⟩
theorem holds_no {e : GAsk} {d : List Int} (h : askOk e = false ∨ datOk d = false) : holds e d = false := by
 unfold holds
 rcases h with h | h <;> simp [h]
theorem holds_yes {e : GAsk} {d : List Int} (h : askOk e = true) (h2 : datOk d = true) : holds e d = (if e.op = 1 then decide (d.getD e.var.toNat 0 < e.k) else if e.op = 2 then decide (d.getD e.var.toNat 0 = e.k) else if e.op = 3 then decide (e.k < d.getD e.var.toNat 0) else true) := by
 unfold holds
 rw [h, h2]; rfl
theorem askOk_var {e : GAsk} (h : askOk e = true) : 0 ≤ e.var ∧ e.var ≤ 2 ∧ 0 ≤ e.op ∧ e.op ≤ 3 := by
 unfold askOk at h
 split at h
 ·
  simp at h; omega
 ·
  simp [inB] at h; omega

set_option maxHeartbeats 1000000 in
theorem spec_ExpHolds (x : GAsk) (A : Option Addr) (c : Nat) (xs : List Int) (w : World) (hx : Ints w w.heap.size A xs) :
  Calls Try.prog 31 #[.agg #[.int .i64 x.op, .int .i64 x.var, .int .i64 x.k], .slice A xs.length c] w (Says (.bool (holds x xs)) w) := by
 have HX := Lib.hid hx
 clear hx
 cases q1 : askOk x with
 | false =>
  have HF := Lib.hid (holds_no (e := x) (d := xs) (.inl q1))
  go_enter Try.func31, Try.ntmps31
  go_wp2_with fail
  refine (spec_ExpOk x _).mono ?_
  rintro e w1 ⟨rfl, hb⟩
  rw [q1]
  have HB := Lib.hid hb
  clear hb q1
  go_wp2
  go_ret
  exact ⟨by rw [HF.out]; rfl, ((Below.refl _ w).alloc (Nat.le_refl _) _).trans (HB.out.mono (by simp))⟩
 | true =>
  cases q2 : datOk xs with
  | false =>
   have HF := Lib.hid (holds_no (e := x) (d := xs) (.inr q2))
   go_enter Try.func31, Try.ntmps31
   go_wp2_with fail
   refine (spec_ExpOk x _).mono ?_
   rintro e w1 ⟨rfl, hb⟩
   rw [q1]
   have HB := Lib.hid (((Below.refl _ w).alloc (Nat.le_refl _) _).trans (hb.mono (by simp)))
   clear hb q1
   go_wp2_with fail
   refine (spec_DatOk' A c xs _ ((HX.out.below HB.out).more HB.out.size)).mono ?_
   rintro e w2 ⟨rfl, hb2⟩
   rw [q2]
   have HB2 := Lib.hid (HB.out.trans (hb2.mono HB.out.size))
   clear hb2 q2
   go_wp2
   go_ret
   exact ⟨by rw [HF.out]; rfl, HB2.out⟩
  | true =>
   have HF := Lib.hid (holds_yes q1 q2)
   obtain ⟨v0, v2, o0, o3⟩ := askOk_var q1
   have hl3 := Lib.hid (datOk_len q2)
   go_enter Try.func31, Try.ntmps31
   go_wp2_with fail
   refine callsAt fun W hW => ?_
   have b0 : Bk W w.heap.size 32 #[.int .i64 x.op, .int .i64 x.var, .int .i64 x.k] := by rw [hW]; exact Bk.new rfl
   have hB0 : Below w.heap.size w W := by rw [hW]; exact (Below.refl _ _).alloc (Nat.le_refl _) _
   clear hW
   refine (spec_ExpOk x _).mono ?_
   rintro e w1 ⟨rfl, hb⟩
   rw [q1]
   have HB := Lib.hid (hB0.trans (hb.mono hB0.size))
   have b1 := b0.later hb
   have k1 := fun i => b1.cell i
   have B1 := Lib.hid b1
   clear hb q1 b0 b1 hB0
   go_wp2_with fail
   refine (spec_DatOk' A c xs _ ((HX.out.below HB.out).more HB.out.size)).mono ?_
   rintro e w2 ⟨rfl, hb2⟩
   rw [q2]
   have HB2 := Lib.hid (HB.out.trans (hb2.mono HB.out.size))
   have b2 := B1.out.later hb2
   have k2 := fun i => b2.cell i
   clear hb2 q2 k1 b2
   obtain ⟨v, hv⟩ := Int.eq_ofNat_of_zero_le v0
   have hvl : v < xs.length := by have := hl3.out; omega
   have hvz : (v : Int) < (xs.length : Int) := by omega
   obtain ⟨b, off, rfl, hb, hc0⟩ := HX.out.at_ hvl
   have hc := (HB2.out.cell (p := ⟨b, off + v, none⟩) hb).trans hc0
   have HG : Hid (xs.getD x.var.toNat 0 = xs[v]) := by show _ = _; rw [hv, Int.toNat_natCast, getD_get hvl]
   clear hc0
   rw [hv] at k2
   generalize xs[v] = y at hc HG
   rcases (by omega : x.op = 0 ∨ x.op = 1 ∨ x.op = 2 ∨ x.op = 3) with ho | ho | ho | ho
   ·
    rw [ho] at k2
    go_wp2
    go_ret
    exact ⟨by rw [HF.out, if_neg (by omega), if_neg (by omega), if_neg (by omega)]; rfl, HB2.out⟩
   ·
    rw [ho] at k2
    go_wp2
    go_quiet (fail)
    go_wp2
    go_ret
    exact ⟨by rw [HF.out, if_pos ho, HG.out]; rfl, bdN HB2.out _⟩
   ·
    rw [ho] at k2
    go_wp2
    go_quiet (fail)
    go_wp2
    go_ret
    exact ⟨by rw [HF.out, if_neg (by omega), if_pos ho, HG.out]; rfl, bdN HB2.out _⟩
   ·
    rw [ho] at k2
    go_wp2
    go_quiet (fail)
    go_wp2
    go_ret
    exact ⟨by rw [HF.out, if_neg (by omega), if_neg (by omega), if_pos ho, HG.out]; rfl, bdN HB2.out _⟩
end Go.Proofs.Ytjieilicjdoaaaa

/- Where a task leads to with data: SplTo of the program and of the reference. -/
namespace Go.Proofs.Ytjieilicjdoaaaa
open Go.RowKit
set_option linter.unusedSimpArgs false
set_option linter.unusedVariables false

/-- Way i of a task is passed by, when so many have been taken. -/
def splSkip (t : GTask) (i n : Nat) : Bool := (decide (t.split = 2) && decide (0 < n)) || (decide (t.split = 3) && (decide (i + 1 = t.out.length) && decide (0 < n)))
def splStep (t : GTask) (d : List Int) (out : List Int) (i : Nat) : List Int :=
 if (holds (t.out.getD i flow0).ask d && !splSkip t i out.length) = true then out ++ [(t.out.getD i flow0).to] else out
def splTo (t : GTask) (d : List Int) : Nat → List Int
 | 0 => []
 | k + 1 => splStep t d (splTo t d k) k
theorem splTo_len (t : GTask) (d : List Int) : ∀ k, (splTo t d k).length ≤ k
 | 0 => by simp [splTo]
 | k + 1 => by
  have h := splTo_len t d k
  unfold splTo splStep
  split
  ·
   rw [List.length_append]; simp; omega
  ·
   omega
theorem splTo_no {t : GTask} {d : List Int} {k : Nat} (h : holds (t.out.getD k flow0).ask d = false ∨ splSkip t k (splTo t d k).length = true) : splTo t d (k + 1) = splTo t d k := by
 show splStep t d (splTo t d k) k = _
 unfold splStep
 rw [if_neg]
 rcases h with h | h
 ·
  rw [h]; simp
 ·
  rw [h]; simp
theorem splTo_yes {t : GTask} {d : List Int} {k : Nat} (h : holds (t.out.getD k flow0).ask d = true) (h2 : splSkip t k (splTo t d k).length = false) : splTo t d (k + 1) = splTo t d k ++ [(t.out.getD k flow0).to] := by
 show splStep t d (splTo t d k) k = _
 unfold splStep
 rw [if_pos (by rw [h, h2]; rfl)]
/-- Where one way is taken for all, the first one is the last. -/
theorem splTo_done {t : GTask} {d : List Int} (h2 : t.split = 2) {k : Nat} (hk : 0 < (splTo t d k).length) : ∀ j, splTo t d (k + j) = splTo t d k
 | 0 => rfl
 | j + 1 => by
  have ih := splTo_done h2 hk j
  rw [show k + (j + 1) = (k + j) + 1 from rfl, splTo_no (.inr ?_), ih]
  rw [ih]
  simp [splSkip, h2, hk]

abbrev taskV (x : GTask) (A1 : Option Addr) (c1 : Nat) (A2 : Option Addr) (c2 : Nat) (A3 : Option Addr) (c3 : Nat) : Array Value := #[.int .i64 x.join, .int .i64 x.split, .slice A1 x.inn.length c1, .slice A2 x.out.length c2, .slice A3 x.clear.length c3, .int .i64 x.role, .int .i64 x.apart, .int .i64 x.all, .int .i64 x.need]

set_option maxRecDepth 100000 in
set_option maxHeartbeats 4000000 in
theorem spec_SplTo (x : GTask) (A1 : Option Addr) (c1 : Nat) (A2 : Option Addr) (c2 : Nat) (A3 : Option Addr) (c3 : Nat) (A : Option Addr) (c : Nat) (d : List Int) (m : Option Nat) (w : World)
  (hx : Rows flowC m w w.heap.size A2 x.out) (hd : Ints w w.heap.size A d) (hl : x.out.length ≤ 1000) :
  Calls Try.prog 91 #[.agg (taskV x A1 c1 A2 c2 A3 c3), .slice A d.length c] w (GivesInts (splTo x d x.out.length) w) := by
 have HX := Lib.hid hx
 have HD := Lib.hid hd
 clear hx hd
 obtain ⟨sp, hsp⟩ : ∃ sp, sp = x.split := ⟨_, rfl⟩
 have HSP : Hid (x.split = sp) := hsp.symm
 unfold taskV
 rw [← hsp]
 clear hsp
 go_enter Try.func91, Try.ntmps91
 go_wp2
 generalize hW : (w.alloc _).alloc _ = W
 have P0 : Hid (Bk W w.heap.size 99 #[.int .i64 x.join, .int .i64 sp, .slice A1 x.inn.length c1, .slice A2 x.out.length c2, .slice A3 x.clear.length c3, .int .i64 x.role, .int .i64 x.apart, .int .i64 x.all, .int .i64 x.need]) := by show Bk _ _ _ _; rw [← hW]; exact (Bk.new rfl).alloc _
 have B : Hid (Below w.heap.size w W) := by show Below _ _ _; rw [← hW]; go_grown
 have O0 : Hid (OwnV W (w.heap.size + 1) (.slice (some ⟨w.heap.size + 1, 0, none⟩) 0 0) []) := by
  show OwnV _ _ _ _
  rw [← hW]
  have h := OwnV.made' (w := w.alloc (.cells #[.int .i64 x.join, .int .i64 sp, .slice A1 x.inn.length c1, .slice A2 x.out.length c2, .slice A3 x.clear.length c3, .int .i64 x.role, .int .i64 x.apart, .int .i64 x.all, .int .i64 x.need] 99)) (base := w.heap.size + 1) (by simp)
  rw [World.size_alloc] at h
  exact h
 clear hW
 go_loopg [5, 6] x.out.length (fun gg s5 s6 wr => ∃ k : Nat, k ≤ x.out.length ∧ x.out.length - k ≤ gg ∧ s6 = .int .i64 k ∧ Aside (Below w.heap.size w wr) ∧ Aside (Bk wr w.heap.size 99 #[.int .i64 x.join, .int .i64 sp, .slice A1 x.inn.length c1, .slice A2 x.out.length c2, .slice A3 x.clear.length c3, .int .i64 x.role, .int .i64 x.apart, .int .i64 x.all, .int .i64 x.need]) ∧ Aside (OwnV wr (w.heap.size + 1) s5 (splTo x d k)) ∧ Aside (sp = 2 → splTo x d k = []))
 case atStart => exact ⟨0, Nat.zero_le _, by omega, rfl, B.out, P0.out, O0.out, fun _ => rfl⟩
 case round =>
  obtain ⟨k, hk, hg, rfl, BW, PW, OW, NP⟩ := hrel
  have hsl := splTo_len x d k
  have pwl := PW.out.lt
  obtain ⟨A5, c5, hv5, _⟩ := OW.out.form
  subst hv5
  obtain ⟨n, hn⟩ : ∃ n, n = (splTo x d k).length := ⟨_, rfl⟩
  have HN := Lib.hid hn
  rw [← hn] at OW hsl ⊢
  clear hn
  have k0 := fun i => PW.out.cell i
  by_cases hlt : k < x.out.length
  ·
   have hltz : (k : Int) < (x.out.length : Int) := by omega
   have HF : Hid (x.out.getD k flow0 = x.out[k]) := getD_get hlt
   obtain ⟨b, off, hA2, hb, hc0, hc1, hc2, hc3⟩ := flow_at (HX.out.later BW.out) hlt
   generalize x.out[k] = f at HF hc0 hc1 hc2 hc3
   obtain ⟨fto, fop, fvar, fk⟩ := f
   subst hA2
   cases hh : holds ⟨fop, fvar, fk⟩ d with
   | false =>
    have HE := Lib.hid (splTo_no (t := x) (d := d) (k := k) (.inl (by rw [HF.out]; exact hh)))
    go_wp2_with (go_at_call 31; refine (spec_ExpHolds ⟨fop, fvar, fk⟩ A c d wr (HD.out.later BW.out)).mono ?_; rintro e w1 ⟨rfl, hb1⟩; have B1 := Lib.hid (BW.out.trans (hb1.mono BW.out.size)); have P1 := Lib.hid (PW.out.later hb1); have O1 := Lib.hid (OW.out.later hb1); clear hb1)
    go_roundg (x.out.length - (k + 1))
    case measure => omega
    case rel => exact ⟨k + 1, by omega, by omega, by go_num, B1.out, P1.out, by show OwnV _ _ _ _; rw [HE.out]; exact O1.out, fun h => by rw [HE.out]; exact NP.out h⟩
   | true =>
    have hh' : holds (x.out.getD k flow0).ask d = true := by rw [HF.out]; exact hh
    have HH := Lib.hid hh'
    have HH0 := Lib.hid hh
    clear hh hh'
    have BD := Lib.hid (HX.out.later BW.out)
    go_wp2_with fail
    refine (spec_ExpHolds ⟨fop, fvar, fk⟩ A c d wr (HD.out.later BW.out)).mono ?_
    rintro e w1 ⟨rfl, hb1⟩
    have B1 := Lib.hid (BW.out.trans (hb1.mono BW.out.size))
    have P1 := Lib.hid (PW.out.later hb1)
    have O1 := Lib.hid (OW.out.later hb1)
    have pl1 := P1.out.lt
    have hc0' := (hb1.cell (p := ⟨b, off + k * 4, none⟩) hb).trans hc0
    clear hb1 k0 hc0 hc1 hc2 hc3
    have hc0 := hc0'
    clear hc0'
    rw [HH0.out]
    have k1 := fun i => P1.out.cell i
    by_cases h2 : sp = 2
    ·
     by_cases hp : 0 < n
     ·
      have h5 := NP.out h2
      exact absurd hp (by have h6 := HN.out; rw [h5] at h6; simp at h6; omega)
     ·
      have hh := HH.out
      have hsk : splSkip x k (splTo x d k).length = false := by rw [← HN.out]; simp [splSkip, HSP.out, h2, hp]
      have HE := Lib.hid (splTo_yes hh hsk)
      have HE1 : Hid (splTo x d x.out.length = splTo x d k ++ [fto]) := by
       show _ = _
       have h5 := splTo_done (t := x) (d := d) (HSP.out.trans h2) (k := k + 1) (by rw [HE.out]; simp) (x.out.length - (k + 1))
       rw [show k + 1 + (x.out.length - (k + 1)) = x.out.length from by omega] at h5
       rw [h5, HE.out, HF.out]
      have hs2 : (sp == 2) = true := by simp [h2]
      have hs3 : (sp == 3) = false := by simp [h2]
      have hs4 : (sp != 3) = true := by simp [h2]
      obtain rfl : n = 0 := by omega
      clear hsk h2 hp
      clear hh
      go_wp2_with (at_builtin; refine append_int rfl (.tmp 41) (.tmp 48) rfl (w.heap.size + 1) _ _ rfl (O1.out.alloc _) w1.heap.size fto rfl (by simp) (by have := HN.out; omega) (by simp; omega) ?_; intro v' w2 hown2 hb2; have HO2 := Lib.hid hown2; have HB2 := Lib.hid hb2; have PB := Lib.hid ((HB2.out.block w.heap.size (by omega)).trans (P1.out.alloc (.cells #[.int .i64 fto] 3))); have P2 : Hid (Bk w2 w.heap.size 99 _) := PB.out; have k2 := fun i => P2.out.cell i; clear hown2 hb2 k1)
      go_ret
      exact ⟨_, rfl, by rw [HE1.out]; exact HO2.out.low (by omega), (B1.out.alloc B1.out.size _).trans (HB2.out.mono (by omega))⟩
    ·
     by_cases h3 : sp = 3
     ·
      by_cases hl1 : k + 1 = x.out.length
      ·
       by_cases hp : 0 < n
       ·
        have hh := HH.out
        have HS2 := Lib.hid h2
        have hsk : splSkip x k (splTo x d k).length = true := by rw [← HN.out]; simp [splSkip, HSP.out, h3, hl1, hp]
        have HE := Lib.hid (splTo_no (d := d) (.inr hsk))
        have hs2 : (sp == 2) = false := by simp [h3]
        have hs3 : (sp == 3) = true := by simp [h3]
        have hs4 : (sp != 3) = false := by simp [h3]
        have hla : ((k : Int) == (x.out.length : Int) - 1) = true := by simp; omega
        have hlb : decide ((k : Int) < (x.out.length : Int) - 1) = false := by simp; omega
        have hp0 : decide (0 < n) = true := by simpa using hp
        have hp1 : ((n : Int) == 0) = false := by rw [beq_eq_false_iff_ne]; omega
        have hp2 : (0 : Int) < (n : Int) := by omega
        clear hsk h2 h3 hl1 hp
        clear hh
        go_wp2
        go_roundg (x.out.length - (k + 1))
        case measure => omega
        case rel => exact ⟨k + 1, by omega, by omega, by go_num, B1.out, P1.out, by show OwnV _ _ _ _; rw [HE.out]; exact O1.out, fun h => absurd h HS2.out⟩
       ·
        have hh := HH.out
        have HS2 := Lib.hid h2
        have hsk : splSkip x k (splTo x d k).length = false := by rw [← HN.out]; simp [splSkip, HSP.out, h3, hl1, hp]
        have HE := Lib.hid (splTo_yes hh hsk)
        have hs2 : (sp == 2) = false := by simp [h3]
        have hs3 : (sp == 3) = true := by simp [h3]
        have hs4 : (sp != 3) = false := by simp [h3]
        have hla : ((k : Int) == (x.out.length : Int) - 1) = true := by simp; omega
        have hlb : decide ((k : Int) < (x.out.length : Int) - 1) = false := by simp; omega
        obtain rfl : n = 0 := by omega
        clear hsk h2 h3 hl1 hp
        clear hh
        go_wp2_with (at_builtin; refine append_int rfl (.tmp 41) (.tmp 48) rfl (w.heap.size + 1) _ _ rfl (O1.out.alloc _) w1.heap.size fto rfl (by simp) (by have := HN.out; omega) (by simp; omega) ?_; intro v' w2 hown2 hb2; have HO2 := Lib.hid hown2; have HB2 := Lib.hid hb2; have PB := Lib.hid ((HB2.out.block w.heap.size (by omega)).trans (P1.out.alloc (.cells #[.int .i64 fto] 3))); have P2 : Hid (Bk w2 w.heap.size 99 _) := PB.out; have k2 := fun i => P2.out.cell i; clear hown2 hb2 k1)
        go_roundg (x.out.length - (k + 1))
        case measure => omega
        case rel => exact ⟨k + 1, by omega, by omega, by go_num, (B1.out.alloc B1.out.size _).trans (HB2.out.mono (by omega)), P2.out, by show OwnV _ _ _ _; rw [HE.out, HF.out]; exact HO2.out, fun h => absurd h HS2.out⟩
      ·
       have hh := HH.out
       have HS2 := Lib.hid h2
       have hsk : splSkip x k (splTo x d k).length = false := by rw [← HN.out]; simp [splSkip, HSP.out, h3, hl1]
       have HE := Lib.hid (splTo_yes hh hsk)
       have hs2 : (sp == 2) = false := by simp [h3]
       have hs3 : (sp == 3) = true := by simp [h3]
       have hs4 : (sp != 3) = false := by simp [h3]
       have hla : ((k : Int) == (x.out.length : Int) - 1) = false := by rw [beq_eq_false_iff_ne]; omega
       have hlb : decide ((k : Int) < (x.out.length : Int) - 1) = true := by simp; omega
       clear hsk h2 h3 hl1
       clear hh
       go_wp2_with (at_builtin; refine append_int rfl (.tmp 41) (.tmp 48) rfl (w.heap.size + 1) _ _ rfl (O1.out.alloc _) w1.heap.size fto rfl (by simp) (by have := HN.out; omega) (by simp; omega) ?_; intro v' w2 hown2 hb2; have HO2 := Lib.hid hown2; have HB2 := Lib.hid hb2; have PB := Lib.hid ((HB2.out.block w.heap.size (by omega)).trans (P1.out.alloc (.cells #[.int .i64 fto] 3))); have P2 : Hid (Bk w2 w.heap.size 99 _) := PB.out; have k2 := fun i => P2.out.cell i; clear hown2 hb2 k1)
       go_roundg (x.out.length - (k + 1))
       case measure => omega
       case rel => exact ⟨k + 1, by omega, by omega, by go_num, (B1.out.alloc B1.out.size _).trans (HB2.out.mono (by omega)), P2.out, by show OwnV _ _ _ _; rw [HE.out, HF.out]; exact HO2.out, fun h => absurd h HS2.out⟩
     ·
      have hh := HH.out
      have HS2 := Lib.hid h2
      have hsk : splSkip x k (splTo x d k).length = false := by rw [← HN.out]; simp [splSkip, HSP.out, h2, h3]
      have HE := Lib.hid (splTo_yes hh hsk)
      have hs2 : (sp == 2) = false := by simp [h2]
      have hs3 : (sp == 3) = false := by simp [h3]
      have hs4 : (sp != 3) = true := by simp [h3]
      clear hsk h2 h3
      clear hh
      go_wp2_with (at_builtin; refine append_int rfl (.tmp 41) (.tmp 48) rfl (w.heap.size + 1) _ _ rfl (O1.out.alloc _) w1.heap.size fto rfl (by simp) (by have := HN.out; omega) (by simp; omega) ?_; intro v' w2 hown2 hb2; have HO2 := Lib.hid hown2; have HB2 := Lib.hid hb2; have PB := Lib.hid ((HB2.out.block w.heap.size (by omega)).trans (P1.out.alloc (.cells #[.int .i64 fto] 3))); have P2 : Hid (Bk w2 w.heap.size 99 _) := PB.out; have k2 := fun i => P2.out.cell i; clear hown2 hb2 k1)
      go_roundg (x.out.length - (k + 1))
      case measure => omega
      case rel => exact ⟨k + 1, by omega, by omega, by go_num, (B1.out.alloc B1.out.size _).trans (HB2.out.mono (by omega)), P2.out, by show OwnV _ _ _ _; rw [HE.out, HF.out]; exact HO2.out, fun h => absurd h HS2.out⟩
  ·
   have hltz : ¬ (k : Int) < (x.out.length : Int) := by omega
   have he : k = x.out.length := by omega
   have HE := Lib.hid he
   clear he
   go_wp2
   go_ret
   exact ⟨_, rfl, by rw [← HE.out]; exact OW.out.low (by omega), BW.out⟩

end Go.Proofs.Ytjieilicjdoaaaa

/- Marks put and taken away, as plain lists. -/
namespace Go.Proofs.Ytjieilicjdoaaaa

def giveAt (ms : List Int) (p : Int) : List Int := ms.set p.toNat (ms.getD p.toNat 0 + 1)
def giveTo (ms ps : List Int) : List Int := ps.foldl giveAt ms
def clearAt (ms : List Int) (p : Int) : List Int := ms.set p.toNat 0
def clearTo (ms ps : List Int) : List Int := ps.foldl clearAt ms
def okM (ms : List Int) : Prop := ∀ z ∈ ms, 0 ≤ z ∧ z ≤ 4

theorem giveTo_len : ∀ (ps ms : List Int), (giveTo ms ps).length = ms.length
 | [], _ => rfl
 | p :: ps, ms => by
  show (giveTo (giveAt ms p) ps).length = _
  rw [giveTo_len ps]
  simp [giveAt]
theorem clearTo_len : ∀ (ps ms : List Int), (clearTo ms ps).length = ms.length
 | [], _ => rfl
 | p :: ps, ms => by
  show (clearTo (clearAt ms p) ps).length = _
  rw [clearTo_len ps]
  simp [clearAt]
theorem giveTo_snoc (ms ps : List Int) (k : Nat) (hk : k < ps.length) : giveTo ms (ps.take (k + 1)) = giveAt (giveTo ms (ps.take k)) ps[k] := by
 unfold giveTo
 rw [List.take_succ_eq_append_getElem hk, List.foldl_append]
 rfl
theorem clearTo_snoc (ms ps : List Int) (k : Nat) (hk : k < ps.length) : clearTo ms (ps.take (k + 1)) = clearAt (clearTo ms (ps.take k)) ps[k] := by
 unfold clearTo
 rw [List.take_succ_eq_append_getElem hk, List.foldl_append]
 rfl
theorem getD_set (ms : List Int) (i j : Nat) (z : Int) (hi : i < ms.length) : (ms.set j z).getD i 0 = if j = i then z else ms.getD i 0 := by
 simp only [List.getD_eq_getElem?_getD, List.getElem?_set]
 split
 ·
  rename_i h
  subst h
  rw [if_pos hi]; rfl
 ·
  rfl
/-- At each place there are as many more as were put there. -/
theorem giveTo_get : ∀ (ps ms : List Int) (i : Nat), i < ms.length → (giveTo ms ps).getD i 0 = ms.getD i 0 + (ps.countP fun p => p.toNat = i : Nat)
 | [], ms, i, _ => by simp [giveTo]
 | p :: ps, ms, i, hi => by
  show (giveTo (giveAt ms p) ps).getD i 0 = _
  rw [giveTo_get ps (giveAt ms p) i (by simp [giveAt]; exact hi)]
  unfold giveAt
  rw [getD_set ms i _ _ hi, List.countP_cons]
  by_cases h : p.toNat = i
  ·
   simp [h]; omega
  ·
   simp [h]
theorem clearTo_ok : ∀ (ps ms : List Int), okM ms → okM (clearTo ms ps)
 | [], _, h => h
 | p :: ps, ms, h => by
  refine clearTo_ok ps (clearAt ms p) fun z hz => ?_
  rcases List.mem_or_eq_of_mem_set hz with h1 | h1
  ·
   exact h z h1
  ·
   subst h1; omega
theorem okM_at {ms : List Int} (h : okM ms) (i : Nat) : 0 ≤ ms.getD i 0 ∧ ms.getD i 0 ≤ 4 := by
 rw [List.getD_eq_getElem?_getD]
 cases hq : ms[i]? with
 | none => simp
 | some z => exact h z (List.mem_of_getElem? hq)
theorem okM_of {ms : List Int} (h : ∀ i, i < ms.length → 0 ≤ ms.getD i 0 ∧ ms.getD i 0 ≤ 4) : okM ms := fun z hz => by
 obtain ⟨i, hi, he⟩ := List.getElem_of_mem hz
 have h1 := h i hi
 rw [List.getD_eq_getElem?_getD, List.getElem?_eq_getElem hi] at h1
 simp only [Option.getD_some] at h1
 rw [he] at h1
 exact h1
theorem giveTo_bd {ms : List Int} (h : okM ms) (ps : List Int) (i : Nat) (hi : i < ms.length) : 0 ≤ (giveTo ms ps).getD i 0 ∧ (giveTo ms ps).getD i 0 ≤ 4 + ps.length := by
 have h1 := okM_at h i
 have h2 := giveTo_get ps ms i hi
 have h3 : (ps.countP fun p => decide (p.toNat = i)) ≤ ps.length := List.countP_le_length
 omega
theorem count_take {ps : List Int} (hn : (ps.map Int.toNat).Nodup) {k : Nat} (hk : k < ps.length) : ((ps.take k).countP fun p => decide (p.toNat = ps[k].toNat)) = 0 := by
 rw [List.countP_eq_zero]
 intro p hp hq
 obtain ⟨i, hi, he⟩ := List.getElem_of_mem hp
 simp only [decide_eq_true_eq] at hq
 rw [List.getElem_take] at he
 have hik : i < k := by simp at hi; omega
 have h := (List.pairwise_iff_getElem.1 hn) i k (by simp; omega) (by simp; omega) hik
 simp only [List.getElem_map] at h
 rw [he] at h
 exact h hq
theorem count_one {ps : List Int} (hn : (ps.map Int.toNat).Nodup) (i : Nat) : (ps.countP fun p => decide (p.toNat = i)) ≤ 1 := by
 induction ps with
 | nil => simp
 | cons p ps ih =>
  rw [List.map_cons, List.nodup_cons] at hn
  rw [List.countP_cons]
  have := ih hn.2
  by_cases h : p.toNat = i
  ·
   have h0 : (ps.countP fun p => decide (p.toNat = i)) = 0 := by
    rw [List.countP_eq_zero]
    intro q hq hq2
    simp only [decide_eq_true_eq] at hq2
    exact hn.1 (by rw [h, ← hq2]; exact List.mem_map_of_mem hq)
   simp [h, h0]
  ·
   simp [h]; exact this
/-- What lies at the place that comes next has not been turned. -/
theorem giveTo_next {ms ps : List Int} (hn : (ps.map Int.toNat).Nodup) {k : Nat} (hk : k < ps.length) (hi : ps[k].toNat < ms.length) : (giveTo ms (ps.take k)).getD ps[k].toNat 0 = ms.getD ps[k].toNat 0 := by
 rw [giveTo_get _ _ _ hi, count_take hn hk]; simp
/-- One place is full: too many. -/
theorem give_fail {ms ps : List Int} {k : Nat} (hk : k < ps.length) (hi : ps[k].toNat < ms.length) (h4 : ms.getD ps[k].toNat 0 = 4) : ¬ okM (giveTo ms ps) := fun ho => by
 have h1 := (okM_at ho ps[k].toNat).2
 rw [giveTo_get _ _ _ hi, h4] at h1
 have h2 : 0 < ps.countP fun p => decide (p.toNat = ps[k].toNat) := by
  rw [List.countP_pos_iff]
  exact ⟨ps[k], List.getElem_mem hk, by simp⟩
 omega
theorem give_fits {ms ps : List Int} (h : okM ms) (hn : (ps.map Int.toNat).Nodup) (h4 : ∀ k (hk : k < ps.length), ms.getD ps[k].toNat 0 ≠ 4) : okM (giveTo ms ps) := by
 refine okM_of fun i hi => ?_
 rw [giveTo_len] at hi
 rw [giveTo_get _ _ _ hi]
 have h1 := okM_at h i
 have h2 := count_one hn i
 by_cases hc : (ps.countP fun p => decide (p.toNat = i)) = 0
 ·
  rw [hc]; omega
 ·
  have h3 : 0 < ps.countP fun p => decide (p.toNat = i) := by omega
  rw [List.countP_pos_iff] at h3
  obtain ⟨p, hp, hq⟩ := h3
  obtain ⟨k, hk, he⟩ := List.getElem_of_mem hp
  have h5 := h4 k hk
  simp only [decide_eq_true_eq] at hq
  rw [he, hq] at h5
  omega
end Go.Proofs.Ytjieilicjdoaaaa

/- Marks behind a task: FirGive of the program and of the reference. -/
namespace Go.Proofs.Ytjieilicjdoaaaa
open Go.RowKit
set_option linter.unusedSimpArgs false
set_option linter.unusedVariables false

theorem OwnV.put {w : World} {base g n c : Nat} {xs : List Int} (h : OwnV w base (.slice (some ⟨g, 0, none⟩) n c) xs) (j : Nat) (z : Int) : OwnV (w.setCell ⟨g, j, none⟩ (.int .i64 z)) base (.slice (some ⟨g, 0, none⟩) n c) (xs.set j z) := by
 have hn : n = xs.length := by
  obtain ⟨A', c', hv, _⟩ := h.form
  simp only [Value.slice.injEq] at hv
  exact hv.2.1
 subst hn
 unfold OwnV
 rw [List.length_set, show iv (xs.set j z) = (iv xs).set j (.int .i64 z) from by simp [iv, List.map_set]]
 exact (World.ownsRow.stored h j (.int .i64 z)).1
theorem OwnV.at_ {w : World} {base g n c : Nat} {xs : List Int} (h : OwnV w base (.slice (some ⟨g, 0, none⟩) n c) xs) (j : Nat) (hj : j < xs.length) : w.cell? ⟨g, j, none⟩ = some (.int .i64 (xs.getD j 0)) ∧ w.frozen? ⟨g, j, none⟩ = false := by
 obtain ⟨A, c', hv, hA⟩ := h.form
 obtain ⟨g', hg, _, hw⟩ := hA (by omega)
 simp only [Value.slice.injEq] at hv
 obtain ⟨h1, -, -⟩ := hv
 rw [hg] at h1
 cases h1
 rw [getD_get hj]
 exact ⟨hw.cell (iv_get (List.getElem?_eq_getElem hj)), hw.frozen j⟩

theorem Kept.cell {base : Nat} {w : World} {p : Addr} (hp : p.block < base) (u : Value) : Kept base w (w.setCell p u) :=
 ⟨by simp [World.setCell], fun b _ hlo => Below.heap_setCell w p u b (by omega)⟩
theorem OwnV.keptK {w w' : World} {base : Nat} {v : Value} {xs : List Int} (h : OwnV w base v xs) (hk : Kept base w w') : OwnV w' base v xs := by
 refine ⟨h.1, ?_⟩
 rcases h.2 with hn | ⟨g, cap, cur, hv, hb, hgg, rest⟩
 ·
  exact .inl hn
 ·
  exact .inr ⟨g, cap, cur, hv, hb, (hk.2 g (Array.getElem?_eq_some_iff.1 hgg).1 hb).trans hgg, rest⟩
theorem netOk_task {n : GNet} (h : netOk n = true) {j : Nat} (hj : j < n.tasks.length) : taskOk n.tasks[j] n.places n.tasks.length = true := by
 unfold netOk at h
 simp only [Bool.and_eq_true, List.all_eq_true] at h
 exact h.2.2 n.tasks[j] (List.getElem_mem hj)
theorem rises_mem {xs : List Int} {least most lo hi : Int} (h : rises xs least most lo hi = true) : ∀ i (hi' : i < xs.length), lo ≤ xs[i] ∧ xs[i] ≤ hi := fun i hi' => by
 unfold rises at h
 rw [Bool.and_eq_true] at h
 have h1 := allTo_get h.2 hi'
 unfold risesAt at h1
 rw [Bool.and_eq_true, inB_iff, getD_get hi'] at h1
 exact h1.1
theorem ok_clear {t : GTask} {places tasks : Int} (h : taskOk t places tasks = true) : ∀ i (hi' : i < t.clear.length), 2 ≤ t.clear[i] ∧ t.clear[i] ≤ places - 1 := by
 unfold taskOk at h
 simp only [Bool.and_eq_true] at h
 exact rises_mem h.2.1
theorem ok_clear_len {t : GTask} {places tasks : Int} (h : taskOk t places tasks = true) : (t.clear.length : Int) ≤ places := by
 unfold taskOk rises at h
 simp only [Bool.and_eq_true, inB_iff] at h
 omega
theorem ok_flows {t : GTask} {places tasks : Int} (h : taskOk t places tasks = true) (hp : places ≤ 8) : t.out.length ≤ 3 ∧ 1 ≤ t.out.length ∧ (t.out.map GFlow.to).Nodup ∧ ∀ y ∈ t.out.map GFlow.to, 1 ≤ y ∧ y ≤ places - 1 := by
 unfold taskOk at h
 simp only [Bool.and_eq_true] at h
 have hf := h.1.2.2.2.2
 unfold flowsOk at hf
 rw [Bool.and_eq_true, inB_iff] at hf
 have h1 := (flow_few t places hp t.out.length (Nat.le_refl _) hf.2).1
 rw [List.take_length] at h1
 refine ⟨by omega, by omega, h1, fun y hy => ?_⟩
 obtain ⟨f, hfm, rfl⟩ := List.mem_map.1 hy
 obtain ⟨i, hi, rfl⟩ := List.getElem_of_mem hfm
 have h2 := allTo_get hf.2 hi
 unfold flowAt at h2
 rw [Bool.and_eq_true, inB_iff, getD_get hi] at h2
 exact h2.1
theorem splTo_sub (t : GTask) (d : List Int) : ∀ k, k ≤ t.out.length → (splTo t d k).Sublist ((t.out.take k).map GFlow.to)
 | 0, _ => by simp [splTo]
 | k + 1, hk => by
  have ih := splTo_sub t d k (by omega)
  rw [List.take_succ_eq_append_getElem (by omega : k < t.out.length), List.map_append]
  show (splStep t d (splTo t d k) k).Sublist _
  unfold splStep
  rw [getD_get (by omega : k < t.out.length)]
  split
  ·
   exact List.Sublist.append ih (List.Sublist.refl _)
  ·
   exact ih.trans (List.sublist_append_left _ _)
theorem spl_fit {t : GTask} {places tasks : Int} (h : taskOk t places tasks = true) (hp : places ≤ 8) (d : List Int) :
  ((splTo t d t.out.length).map Int.toNat).Nodup ∧ ∀ y ∈ splTo t d t.out.length, 1 ≤ y ∧ y ≤ places - 1 := by
 have hs := splTo_sub t d t.out.length (Nat.le_refl _)
 rw [List.take_length] at hs
 obtain ⟨_, _, h1, h2⟩ := ok_flows h hp
 have h3 : ∀ y ∈ splTo t d t.out.length, 1 ≤ y ∧ y ≤ places - 1 := fun y hy => h2 y (hs.subset hy)
 refine ⟨?_, h3⟩
 refine List.pairwise_map.2 ((h1.sublist hs).imp_of_mem fun ha hb hne e => hne ?_)
 have := h3 _ ha
 have := h3 _ hb
 omega
theorem marksOk_iff {x : GNet} {ms : List Int} : marksOk x ms = true ↔ (ms.length : Int) = x.places ∧ okM ms := by
 unfold marksOk okM
 rw [Bool.and_eq_true, decide_eq_true_eq, Bool.not_eq_true', List.any_eq_false]
 simp [inB_iff]

/-- Marks behind a task that has ended. -/
def firOut (y : GTask) (ms d : List Int) : List Int := giveTo (clearTo ms y.clear) (splTo y d y.out.length)
def firOf (x : GNet) (ms : List Int) (t : Int) (d : List Int) : List Int × Bool :=
 if mrkOk x ms = true ∧ inB t 0 ((x.tasks.length : Int) - 1) = true ∧ datOk d = true then
  (if marksOk x (firOut (x.tasks.getD t.toNat task0) ms d) = true then (firOut (x.tasks.getD t.toNat task0) ms d, true) else ([], false))
 else ([], false)
theorem firOf_no {x : GNet} {ms d : List Int} {t : Int} (h : mrkOk x ms = false ∨ inB t 0 ((x.tasks.length : Int) - 1) = false ∨ datOk d = false) : firOf x ms t d = ([], false) := by
 unfold firOf
 rw [if_neg]
 rintro ⟨h1, h2, h3⟩
 rcases h with h | h | h <;> simp_all
/-- What FirGive leaves. -/
def GivesFir (r : List Int × Bool) (w : World) (e : Ending) (w' : World) : Prop := ∃ v, e = .returned (.tuple #[v, .bool r.2]) ∧ OwnV w' w.heap.size v r.1 ∧ Below w.heap.size w w'
theorem firOut_len (y : GTask) (ms d : List Int) : (firOut y ms d).length = ms.length := by rw [firOut, giveTo_len, clearTo_len]

set_option maxRecDepth 100000 in
set_option maxHeartbeats 4000000 in
theorem spec_FirGive (x : GNet) (A : Option Addr) (c : Nat) (A1 : Option Addr) (c1 : Nat) (ms : List Int) (t : Int) (A3 : Option Addr) (c3 : Nat) (d : List Int) (m : Option Nat) (w : World)
  (hx : Rows taskC m w w.heap.size A x.tasks) (h1 : Ints w w.heap.size A1 ms) (h3 : Ints w w.heap.size A3 d) :
  Calls Try.prog 80 #[.agg (netCells x A c), .slice A1 ms.length c1, .int .i64 t, .slice A3 d.length c3] w (GivesFir (firOf x ms t d) w) := by
 have nx := hx.1
 have HX := Lib.hid hx
 have H1 := Lib.hid h1
 have H3 := Lib.hid h3
 clear hx h1 h3
 go_enter Try.func80, Try.ntmps80
 go_wp2_with fail
 refine callsAt fun W hW => ?_
 have P0 : Hid (Bk W w.heap.size 75 (netCells x A c)) := by show Bk _ _ _ _; rw [hW]; exact Bk.new rfl
 have B : Hid (Below w.heap.size w W) := by show Below _ _ _; rw [hW]; go_grown
 clear hW
 refine (spec_MrkOk x A c A1 c1 ms m W (HX.out.later B.out) (H1.out.later B.out)).mono ?_
 rintro e w1 ⟨rfl, hb⟩
 have P0 := Lib.hid (P0.out.later hb)
 have B := Lib.hid (B.out.trans (hb.mono B.out.size))
 clear hb
 have k0 := fun i => P0.out.cell i
 cases q1 : mrkOk x ms with
 | false =>
  have HE := Lib.hid (firOf_no (t := t) (d := d) (.inl q1))
  go_wp2
  go_ret2
  exact ⟨_, by rw [HE.out]; rfl, by rw [HE.out]; exact OwnV.made' B.out.size, B.out.alloc B.out.size _⟩
 | true =>
 go_wp2_with fail
 refine (l1In _ _ _ _).mono ?_
 rintro e w' ⟨rfl, rfl⟩
 cases q2 : inB t 0 ((x.tasks.length : Int) - 1) with
 | false =>
  have HE := Lib.hid (firOf_no (x := x) (ms := ms) (d := d) (.inr (.inl q2)))
  go_wp2
  go_ret2
  exact ⟨_, by rw [HE.out]; rfl, by rw [HE.out]; exact OwnV.made' B.out.size, B.out.alloc B.out.size _⟩
 | true =>
 go_wp2_with fail
 refine (spec_DatOk A3 c3 d _ _ (H3.out.later B.out)).mono ?_
 rintro e w' ⟨rfl, rfl⟩
 cases q3 : datOk d with
 | false =>
  have HE := Lib.hid (firOf_no (x := x) (ms := ms) (t := t) (.inr (.inr q3)))
  go_wp2
  go_ret2
  exact ⟨_, by rw [HE.out]; rfl, by rw [HE.out]; exact OwnV.made' B.out.size, B.out.alloc B.out.size _⟩
 | true =>
 have ht := inB_iff.1 q2
 obtain ⟨j, rfl⟩ := Int.eq_ofNat_of_zero_le ht.1
 have hj : j < x.tasks.length := by omega
 have hjz : (j : Int) < (x.tasks.length : Int) := by omega
 have hnet : netOk x = true := by rw [mrkOk, Bool.and_eq_true] at q1; exact q1.1
 have hmk := marksOk_iff.1 (by rw [mrkOk, Bool.and_eq_true] at q1; exact q1.2 : marksOk x ms = true)
 have HM := Lib.hid hmk.2
 have HML := Lib.hid hmk.1
 obtain ⟨_, _, hp2, hp8⟩ := netOk_len hnet
 have hml2 : 2 ≤ ms.length := by have := HML.out; omega
 have hml8 : ms.length ≤ 8 := by have := HML.out; omega
 have HT := Lib.hid (netOk_task hnet hj)
 have HE : Hid (firOf x ms j d = if marksOk x (firOut x.tasks[j] ms d) = true then (firOut x.tasks[j] ms d, true) else ([], false)) := by
  show _ = _
  unfold firOf
  rw [if_pos ⟨q1, q2, q3⟩, Int.toNat_natCast, getD_get hj]
 obtain ⟨b, off, a1, d1, a2, d2, a3, d3, hA, hbb, ⟨r1, r2, r3⟩, e0, e1, e2, e3, e4, e5, e6, e7, e8⟩ := task_at HX.out hj
 subst hA
 have hcl := ok_clear HT.out
 have hcll := ok_clear_len HT.out
 have hsp := spl_fit HT.out hp8 d
 have hof := ok_flows HT.out hp8
 generalize x.tasks[j] = y at HE r1 r2 r3 e0 e1 e2 e3 e4 e5 e6 e7 e8 hcl hcll hsp hof
 have HCL := Lib.hid hcl
 have HSPL := Lib.hid hsp
 have hol := hof.1
 have R2 := Lib.hid r2
 have R3 := Lib.hid r3
 have TC : Hid (∀ W : World, Below w.heap.size w W → (W.cell? ⟨b, off + j * 9, none⟩ = some (.int .i64 y.join) ∧ W.cell? ⟨b, off + j * 9 + 1, none⟩ = some (.int .i64 y.split) ∧ W.cell? ⟨b, off + j * 9 + 2, none⟩ = some (.slice a1 y.inn.length d1) ∧ W.cell? ⟨b, off + j * 9 + 3, none⟩ = some (.slice a2 y.out.length d2) ∧ W.cell? ⟨b, off + j * 9 + 4, none⟩ = some (.slice a3 y.clear.length d3) ∧
   W.cell? ⟨b, off + j * 9 + 5, none⟩ = some (.int .i64 y.role) ∧ W.cell? ⟨b, off + j * 9 + 6, none⟩ = some (.int .i64 y.apart) ∧ W.cell? ⟨b, off + j * 9 + 7, none⟩ = some (.int .i64 y.all) ∧ W.cell? ⟨b, off + j * 9 + 8, none⟩ = some (.int .i64 y.need))) := fun W hb =>
  ⟨(hb.cell (p := ⟨b, off + j * 9, none⟩) hbb).trans e0, (hb.cell (p := ⟨b, off + j * 9 + 1, none⟩) hbb).trans e1, (hb.cell (p := ⟨b, off + j * 9 + 2, none⟩) hbb).trans e2, (hb.cell (p := ⟨b, off + j * 9 + 3, none⟩) hbb).trans e3, (hb.cell (p := ⟨b, off + j * 9 + 4, none⟩) hbb).trans e4, (hb.cell (p := ⟨b, off + j * 9 + 5, none⟩) hbb).trans e5, (hb.cell (p := ⟨b, off + j * 9 + 6, none⟩) hbb).trans e6, (hb.cell (p := ⟨b, off + j * 9 + 7, none⟩) hbb).trans e7, (hb.cell (p := ⟨b, off + j * 9 + 8, none⟩) hbb).trans e8⟩
 clear q1 q2 q3 ht hmk hnet r1 r2 r3 hcl hsp hof e0 e1 e2 e3 e4 e5 e6 e7 e8
 have pl := P0.out.lt
 go_upto_region 4 with (at_builtin; refine append_intsA rfl (.tmp 33) (.tmp 34) rfl w1.heap.size _ [] rfl (OwnV.made' (Nat.le_refl _)) A1 c1 w.heap.size ms rfl ((H1.out.below B.out).below ((Below.refl _ _).alloc B.out.size _)) (by rw [List.length_nil]; omega) (by simp) ?_; intro v5 w5 hown2 hg2 hb2; rw [List.nil_append] at hown2; have HO5 := Lib.hid hown2; have HB5 := Lib.hid (((Below.refl w1.heap.size w1).alloc (Nat.le_refl _) (.cells #[] 3)).trans hb2); clear hown2 hg2 hb2)
 have P5 := Lib.hid (P0.out.later HB5.out)
 have B5 := Lib.hid (B.out.trans (HB5.out.mono B.out.size))
 obtain ⟨A5, c5, hv, hA5⟩ := HO5.out.form
 subst hv
 obtain ⟨g, hg, hgb, _⟩ := hA5 (by omega)
 subst hg
 have O5 := Lib.hid HO5.out
 clear k0 hA5 HO5 HB5
 have hgw : w.heap.size + 1 ≤ g := by omega
 have O5 : Hid (OwnV w5 (w.heap.size + 1) (.slice (some ⟨g, 0, none⟩) ms.length c5) ms) := O5.out.low (by omega)
 have hg5 : g < w5.heap.size := (O5.out.lt g rfl).2
 have k0 := fun i => P5.out.cell i
 obtain ⟨f0, f1, f2, f3, f4, f5, f6, f7, f8⟩ := TC.out w5 B5.out
 go_wp2
 clear k0 f0 f1 f2 f3 f4 f5 f6 f7 f8 B P0
 go_loopg [11] y.clear.length (fun gg s39 wr => ∃ k : Nat, k ≤ y.clear.length ∧ y.clear.length - k ≤ gg ∧ s39 = .int .i64 k ∧ Aside (Below (w.heap.size + 1) w5 wr) ∧ Aside (OwnV wr (w.heap.size + 1) (.slice (some ⟨g, 0, none⟩) ms.length c5) (clearTo ms (y.clear.take k))))
 case atStart => exact ⟨0, Nat.zero_le _, by omega, rfl, Below.refl _ _, O5.out⟩
 case round =>
  obtain ⟨k, hk, hgg, rfl, BW, OW⟩ := hrel
  have PW : Hid (Bk wr w.heap.size 75 (netCells x (some ⟨b, off, none⟩) c)) := (BW.out.block w.heap.size (by omega)).trans P5.out
  have BB := Lib.hid (B5.out.trans (BW.out.mono (by omega)) : Below w.heap.size w wr)
  have pwl := PW.out.lt
  have szr := BW.out.size
  have k0 := fun i => PW.out.cell i
  obtain ⟨f0, f1, f2, f3, f4, f5, f6, f7, f8⟩ := TC.out wr BB.out
  have hgr : g < wr.heap.size := (OW.out.lt g rfl).2
  by_cases hlt : k < y.clear.length
  ·
   have hltz : (k : Int) < (y.clear.length : Int) := by omega
   have hcc := HCL.out k hlt
   obtain ⟨b3, o3, hA3, _, hc3⟩ := (R3.out.below BB.out).ints.at_ hlt
   have HS := Lib.hid (clearTo_snoc ms y.clear k hlt)
   obtain ⟨p, hp⟩ := Int.eq_ofNat_of_zero_le (by omega : 0 ≤ y.clear[k])
   rw [hp] at hcc hc3 HS
   have hpl : p < ms.length := by have := HML.out; omega
   have hpz : (p : Int) < (ms.length : Int) := by omega
   obtain ⟨hold, hfr⟩ := OW.out.at_ p (by rw [clearTo_len]; exact hpl)
   obtain ⟨z0, hz0⟩ : ∃ z0 : Int, wr.cell? ⟨g, p, none⟩ = some (.int .i64 z0) := ⟨_, hold⟩
   have HO := Lib.hid (OW.out.put p 0)
   have HB := Lib.hid (BW.out.setCell (p := ⟨g, p, none⟩) hgw (.int .i64 0))
   subst hA3
   clear hp hcc hold
   go_wp2
   go_roundg (y.clear.length - (k + 1))
   case measure => omega
   case rel => exact ⟨k + 1, by omega, by omega, by go_num, HB.out, by show OwnV _ _ _ _; rw [HS.out]; exact HO.out⟩
  ·
   have hltz : ¬ (k : Int) < (y.clear.length : Int) := by omega
   have he : k = y.clear.length := by omega
   subst he
   have OC : Hid (OwnV wr (w.heap.size + 1) (.slice (some ⟨g, 0, none⟩) ms.length c5) (clearTo ms y.clear)) := by
    have h := OW.out
    rw [List.take_length] at h
    exact h
   have HMC := Lib.hid (clearTo_ok y.clear ms HM.out)
   have hcn := clearTo_len y.clear ms
   have HE2 : Hid (firOut y ms d = giveTo (clearTo ms y.clear) (splTo y d y.out.length)) := rfl
   have FL := firOut_len y ms d
   generalize clearTo ms y.clear = cl at OC HMC hcn HE2
   have HCN := Lib.hid hcn
   have HFL := Lib.hid FL
   have hst := splTo_len y d y.out.length
   clear hcn FL OW
   go_wp2_with fail
   refine (spec_SplTo y a1 d1 a2 d2 a3 d3 A3 c3 d m _ (((R2.out.below BB.out)).more BB.out.size) (H3.out.later BB.out) (by omega)).mono ?_
   rintro e w7 ⟨v7, rfl, hv7, hb7⟩
   have hwr0 := BB.out.size
   generalize splTo y d y.out.length = tos at hv7 HE2 hst HSPL
   obtain ⟨A7, c7, hv, hA7⟩ := hv7.form
   subst hv
   have O7 := Lib.hid hv7
   have B7 := Lib.hid (BW.out.trans (hb7.mono (by omega)) : Below (w.heap.size + 1) w5 w7)
   have OC7 := Lib.hid (OC.out.later hb7)
   have hs7 := hb7.size
   clear hb7 hv7 hA7 f0 f1 f2 f3 f4 f5 f6 f7 f8 k0
   obtain ⟨wo, hwo⟩ : ∃ wo : World, wo = wr := ⟨_, rfl⟩
   subst hwo
   go_wp2
   go_loopg [13] tos.length (fun gg s55 wi => ∃ i : Nat, i ≤ tos.length ∧ tos.length - i ≤ gg ∧ s55 = .int .i64 i ∧ Aside (Below (w.heap.size + 1) w5 wi) ∧ Aside (OwnV wi (w.heap.size + 1) (.slice (some ⟨g, 0, none⟩) ms.length c5) (giveTo cl (tos.take i))) ∧ Aside (OwnV wi wo.heap.size (.slice A7 tos.length c7) tos) ∧ Aside (∀ n (hn : n < tos.length), n < i → cl.getD tos[n].toNat 0 ≠ 4))
   case atStart => exact ⟨0, Nat.zero_le _, by omega, rfl, B7.out, OC7.out, O7.out, fun _ _ h => absurd h (by omega)⟩
   case round =>
    obtain ⟨i, hi, hgi, rfl, BI, OI, TI, NI⟩ := hrel
    have BX := Lib.hid (B5.out.trans (BI.out.mono (by omega)) : Below w.heap.size w wr)
    have PI : Hid (Bk wr w.heap.size 75 (netCells x (some ⟨b, off, none⟩) c)) := (BI.out.block w.heap.size (by omega)).trans P5.out
    have szi := PI.out.lt
    by_cases hil : i < tos.length
    ·
     have hiz : (i : Int) < (tos.length : Int) := by omega
     obtain ⟨A8, c8, hv8, hA8⟩ := TI.out.form
     simp only [Value.slice.injEq] at hv8
     obtain ⟨hv8, -, -⟩ := hv8
     subst hv8
     obtain ⟨g8, hg8, hgb8, hw8⟩ := hA8 (by omega)
     subst hg8
     have hc8 := hw8.cell (iv_get (List.getElem?_eq_getElem hil))
     have hpp := HSPL.out.2 tos[i] (List.getElem_mem hil)
     have HS := Lib.hid (giveTo_snoc cl tos i hil)
     obtain ⟨p, hp⟩ := Int.eq_ofNat_of_zero_le (by omega : 0 ≤ tos[i])
     have hpl : p < ms.length := by have := HML.out; omega
     have hpc : p < cl.length := by rw [HCN.out]; exact hpl
     have hnext := giveTo_next (ms := cl) HSPL.out.1 hil (by rw [hp]; exact hpc)
     have HF4 : Hid (cl.getD p 0 = 4 → ¬ okM (giveTo cl tos)) := fun h4 => give_fail hil (by rw [hp]; exact hpc) (by rw [hp]; exact h4)
     rw [hp] at hc8 HS hpp hnext
     rw [Int.toNat_natCast] at hnext
     have hpz : (p : Int) < (ms.length : Int) := by omega
     obtain ⟨hold, hfr⟩ := OI.out.at_ p (by rw [giveTo_len]; exact hpc)
     have hbd := giveTo_bd HMC.out (tos.take i) p hpc
     have htl : (tos.take i).length ≤ i := by simp; omega
     obtain ⟨z0, hz0⟩ : ∃ z0 : Int, z0 = (giveTo cl (tos.take i)).getD p 0 := ⟨_, rfl⟩
     rw [← hz0] at hold hbd hnext
     have HO := Lib.hid (OI.out.put p (z0 + 1))
     have HOZ : Hid (giveAt (giveTo cl (tos.take i)) (p : Int) = (giveTo cl (tos.take i)).set p (z0 + 1)) := by show _ = _; rw [giveAt, Int.toNat_natCast, ← hz0]
     have HB := Lib.hid (BI.out.setCell (p := ⟨g, p, none⟩) hgw (.int .i64 (z0 + 1)))
     have HT8 := Lib.hid (TI.out.keptK (Kept.cell (p := ⟨g, p, none⟩) (show g < wo.heap.size from hgr) (.int .i64 (z0 + 1))))
     have HPP := Lib.hid hp
     have HNX := Lib.hid hnext
     clear hz0 hw8 hA8 hpp hnext hp
     by_cases h4 : z0 = 4
     ·
      subst h4
      have HE3 : Hid (firOf x ms j d = ([], false)) := by
       show _ = _
       rw [HE.out, if_neg]
       intro h
       rw [HE2.out] at h
       exact HF4.out HNX.out.symm (marksOk_iff.1 h).2
      go_wp2
      go_ret2
      exact ⟨_, by rw [HE3.out]; rfl, by rw [HE3.out]; exact OwnV.made' (by omega), BX.out.alloc (by omega) _⟩
     ·
      have b4 : (z0 == 4) = false := by simp [h4]
      have HN4 : Hid (∀ n (hn : n < tos.length), n < i + 1 → cl.getD tos[n].toNat 0 ≠ 4) := fun n hn hni => by
       rcases Nat.lt_succ_iff_lt_or_eq.1 hni with h | h
       ·
        exact NI.out n hn h
       ·
        subst h
        rw [HPP.out, Int.toNat_natCast, ← HNX.out]
        exact h4
      clear h4
      go_wp2
      go_still_tail 14, (by kernel_rfl)
      change wpList _ _ _ _ _ wr.drew
      have HBd := Lib.hid (BI.out.drew)
      go_wp2
      go_roundg (tos.length - (i + 1))
      case measure => omega
      case rel => exact ⟨i + 1, by omega, by omega, by go_num, HB.out.drew, by show OwnV _ _ _ _; rw [HS.out, HOZ.out]; exact HO.out, HT8.out, HN4.out⟩
    ·
     have hiz : ¬ (i : Int) < (tos.length : Int) := by omega
     have he : i = tos.length := by omega
     subst he
     have OF : Hid (OwnV wr (w.heap.size + 1) (.slice (some ⟨g, 0, none⟩) ms.length c5) (firOut y ms d)) := by
      have h := OI.out
      rw [List.take_length, ← HE2.out] at h
      exact h
     have HE3 : Hid (firOf x ms j d = (firOut y ms d, true)) := by
      show _ = _
      rw [HE.out, if_pos]
      refine marksOk_iff.2 ⟨by rw [HFL.out]; exact HML.out, ?_⟩
      rw [HE2.out]
      exact give_fits HMC.out HSPL.out.1 fun k hk => NI.out k hk hk
     go_wp2
     go_ret2
     exact ⟨_, by rw [HE3.out]; rfl, by rw [HE3.out]; exact OF.out.low (by omega), BX.out⟩

end Go.Proofs.Ytjieilicjdoaaaa

/- A number of the data turned; marks taken: DatSet, EnaTake of the reference. -/
namespace Go.Proofs.Ytjieilicjdoaaaa
open Go.RowKit
set_option linter.unusedSimpArgs false
set_option linter.unusedVariables false

/-- Some ints in memory of the call's own, of which P holds. -/
def GivesSome (Pp : List Int → Prop) (w : World) (e : Ending) (w' : World) : Prop := ∃ (v : Value) (ms : List Int), e = .returned v ∧ OwnV w' w.heap.size v ms ∧ Pp ms ∧ Below w.heap.size w w'

set_option maxRecDepth 100000 in
set_option maxHeartbeats 4000000 in
theorem spec_DatSet (A : Option Addr) (c : Nat) (d : List Int) (k n : Int) (w : World) (h : Ints w w.heap.size A d) (hl : d.length ≤ 1000) :
  Calls Try.prog 79 #[.slice A d.length c, .int .i64 k, .int .i64 n] w (GivesSome (fun o => o.length = d.length) w) := by
 have H := Lib.hid h
 clear h
 go_enter Try.func79, Try.ntmps79
 go_wp2_with fail
 refine (spec_DatOk A c d _ _ H.out).mono ?_
 rintro e w' ⟨rfl, rfl⟩
 cases q1 : datOk d with
 | false =>
  go_wp2_with (at_builtin; refine append_intsA rfl (.tmp 21) (.tmp 22) rfl w.heap.size _ [] rfl (OwnV.made' (Nat.le_refl _)) A c w.heap.size d rfl (H.out.below ((Below.refl _ _).alloc (Nat.le_refl _) _)) (by rw [List.length_nil]; omega) (by simp) ?_; intro v5 w5 hown2 hg2 hb2; rw [List.nil_append] at hown2; have HO5 := Lib.hid hown2; have HB5 := Lib.hid (((Below.refl w.heap.size w).alloc (Nat.le_refl _) (.cells #[] 3)).trans hb2); clear hown2 hg2 hb2)
  go_ret
  exact ⟨_, _, rfl, HO5.out, rfl, HB5.out⟩
 | true =>
 have hd3 : 2 < d.length := by have := datOk_len q1; omega
 clear q1
 go_wp2_with fail
 refine (l1In _ _ _ _).mono ?_
 rintro e w' ⟨rfl, rfl⟩
 cases q2 : inB k 0 2 with
 | false =>
  go_wp2_with (at_builtin; refine append_intsA rfl (.tmp 21) (.tmp 22) rfl w.heap.size _ [] rfl (OwnV.made' (Nat.le_refl _)) A c w.heap.size d rfl (H.out.below ((Below.refl _ _).alloc (Nat.le_refl _) _)) (by rw [List.length_nil]; omega) (by simp) ?_; intro v5 w5 hown2 hg2 hb2; rw [List.nil_append] at hown2; have HO5 := Lib.hid hown2; have HB5 := Lib.hid (((Below.refl w.heap.size w).alloc (Nat.le_refl _) (.cells #[] 3)).trans hb2); clear hown2 hg2 hb2)
  go_ret
  exact ⟨_, _, rfl, HO5.out, rfl, HB5.out⟩
 | true =>
 go_wp2_with fail
 refine (l1In _ _ _ _).mono ?_
 rintro e w' ⟨rfl, rfl⟩
 cases q3 : inB n (-99) 99 with
 | false =>
  go_wp2_with (at_builtin; refine append_intsA rfl (.tmp 21) (.tmp 22) rfl w.heap.size _ [] rfl (OwnV.made' (Nat.le_refl _)) A c w.heap.size d rfl (H.out.below ((Below.refl _ _).alloc (Nat.le_refl _) _)) (by rw [List.length_nil]; omega) (by simp) ?_; intro v5 w5 hown2 hg2 hb2; rw [List.nil_append] at hown2; have HO5 := Lib.hid hown2; have HB5 := Lib.hid (((Below.refl w.heap.size w).alloc (Nat.le_refl _) (.cells #[] 3)).trans hb2); clear hown2 hg2 hb2)
  go_ret
  exact ⟨_, _, rfl, HO5.out, rfl, HB5.out⟩
 | true =>
 have hk := inB_iff.1 q2
 obtain ⟨j, rfl⟩ := Int.eq_ofNat_of_zero_le hk.1
 have hj : j < d.length := by omega
 have hjz : (j : Int) < (d.length : Int) := by omega
 clear q2 q3 hk
 go_upto_region 4 with (at_builtin; refine append_intsA rfl (.tmp 24) (.tmp 25) rfl w.heap.size _ [] rfl (OwnV.made' (Nat.le_refl _)) A c w.heap.size d rfl (H.out.below ((Below.refl _ _).alloc (Nat.le_refl _) _)) (by rw [List.length_nil]; omega) (by simp) ?_; intro v5 w5 hown2 hg2 hb2; rw [List.nil_append] at hown2; have HO5 := Lib.hid hown2; have HB5 := Lib.hid (((Below.refl w.heap.size w).alloc (Nat.le_refl _) (.cells #[] 3)).trans hb2); clear hown2 hg2 hb2)
 obtain ⟨A5, c5, hv, hA5⟩ := HO5.out.form
 subst hv
 obtain ⟨g, hg, hgb, _⟩ := hA5 (by omega)
 subst hg
 obtain ⟨hold, hfr⟩ := HO5.out.at_ j hj
 have HO := Lib.hid (HO5.out.put j n)
 have HB := Lib.hid (HB5.out.setCell (p := ⟨g, j, none⟩) hgb (.int .i64 n))
 clear hA5
 go_wp2
 go_ret
 exact ⟨_, _, rfl, HO.out, by simp, HB.out⟩

theorem okM_set {ms : List Int} (h : okM ms) (p : Nat) (z : Int) (h0 : 0 ≤ z) (h4 : z ≤ 4) : okM (ms.set p z) := fun u hu => by
 rcases List.mem_or_eq_of_mem_set hu with h1 | rfl
 ·
  exact h u h1
 ·
  exact ⟨h0, h4⟩
theorem ok_inn {t : GTask} {places tasks : Int} (h : taskOk t places tasks = true) : (∀ i (hi' : i < t.inn.length), 0 ≤ t.inn[i] ∧ t.inn[i] ≤ places - 1) ∧ t.inn.length ≤ 3 := by
 unfold taskOk at h
 simp only [Bool.and_eq_true] at h
 refine ⟨rises_mem h.1.2.2.1, ?_⟩
 have h2 := h.1.2.2.1
 unfold rises at h2
 simp only [Bool.and_eq_true, inB_iff] at h2
 omega
/-- What EnaTake leaves is few marks. -/
def fewM (ms : List Int) : Prop := ms.length ≤ 20 ∧ ∀ z ∈ ms, -1000 ≤ z ∧ z ≤ 1000

set_option maxRecDepth 100000 in
set_option maxHeartbeats 4000000 in
theorem spec_EnaTake (x : GNet) (A : Option Addr) (c : Nat) (A1 : Option Addr) (c1 : Nat) (ms : List Int) (t : Int) (m : Option Nat) (w : World)
  (hx : Rows taskC m w w.heap.size A x.tasks) (h1 : Ints w w.heap.size A1 ms) :
  Calls Try.prog 86 #[.agg (netCells x A c), .slice A1 ms.length c1, .int .i64 t] w (GivesSome fewM w) := by
 have nx := hx.1
 have HX := Lib.hid hx
 have H1 := Lib.hid h1
 clear hx h1
 go_enter Try.func86, Try.ntmps86
 go_wp2_with fail
 refine callsAt fun W hW => ?_
 have P0 : Hid (Bk W w.heap.size 75 (netCells x A c)) := by show Bk _ _ _ _; rw [hW]; exact Bk.new rfl
 have B : Hid (Below w.heap.size w W) := by show Below _ _ _; rw [hW]; go_grown
 clear hW
 refine (spec_MrkOk x A c A1 c1 ms m W (HX.out.later B.out) (H1.out.later B.out)).mono ?_
 rintro e w1 ⟨rfl, hb⟩
 have P0 := Lib.hid (P0.out.later hb)
 have B := Lib.hid (B.out.trans (hb.mono B.out.size))
 clear hb
 have k0 := fun i => P0.out.cell i
 cases q1 : mrkOk x ms with
 | false =>
  go_wp2
  go_ret
  exact ⟨_, [], rfl, OwnV.made' B.out.size, ⟨by simp, fun z hz => by cases hz⟩, B.out.alloc B.out.size _⟩
 | true =>
 go_wp2_with fail
 refine (l1In _ _ _ _).mono ?_
 rintro e w' ⟨rfl, rfl⟩
 cases q2 : inB t 0 ((x.tasks.length : Int) - 1) with
 | false =>
  go_wp2
  go_ret
  exact ⟨_, [], rfl, OwnV.made' B.out.size, ⟨by simp, fun z hz => by cases hz⟩, B.out.alloc B.out.size _⟩
 | true =>
 have ht := inB_iff.1 q2
 obtain ⟨j, rfl⟩ := Int.eq_ofNat_of_zero_le ht.1
 have hj : j < x.tasks.length := by omega
 have hjz : (j : Int) < (x.tasks.length : Int) := by omega
 have hnet : netOk x = true := by rw [mrkOk, Bool.and_eq_true] at q1; exact q1.1
 have hmk := marksOk_iff.1 (by rw [mrkOk, Bool.and_eq_true] at q1; exact q1.2 : marksOk x ms = true)
 have HM := Lib.hid hmk.2
 have HML := Lib.hid hmk.1
 obtain ⟨_, _, hp2, hp8⟩ := netOk_len hnet
 have hml2 : 2 ≤ ms.length := by have := HML.out; omega
 have hml8 : ms.length ≤ 8 := by have := HML.out; omega
 have HT := Lib.hid (netOk_task hnet hj)
 obtain ⟨b, off, a1, d1, a2, d2, a3, d3, hA, hbb, ⟨r1, r2, r3⟩, e0, e1, e2, e3, e4, e5, e6, e7, e8⟩ := task_at HX.out hj
 subst hA
 have hin := ok_inn HT.out
 generalize x.tasks[j] = y at r1 r2 r3 e0 e1 e2 e3 e4 e5 e6 e7 e8 hin
 have HCL := Lib.hid hin.1
 have hol := hin.2
 have R1 := Lib.hid r1
 have TC : Hid (∀ W : World, Below w.heap.size w W → (W.cell? ⟨b, off + j * 9, none⟩ = some (.int .i64 y.join) ∧ W.cell? ⟨b, off + j * 9 + 2, none⟩ = some (.slice a1 y.inn.length d1))) := fun W hb =>
  ⟨(hb.cell (p := ⟨b, off + j * 9, none⟩) hbb).trans e0, (hb.cell (p := ⟨b, off + j * 9 + 2, none⟩) hbb).trans e2⟩
 clear q1 q2 ht hmk hnet r1 r2 r3 hin e0 e1 e2 e3 e4 e5 e6 e7 e8
 have pl := P0.out.lt
 go_upto_region 4 with (at_builtin; refine append_intsA rfl (.tmp 24) (.tmp 25) rfl w1.heap.size _ [] rfl (OwnV.made' (Nat.le_refl _)) A1 c1 w.heap.size ms rfl ((H1.out.below B.out).below ((Below.refl _ _).alloc B.out.size _)) (by rw [List.length_nil]; omega) (by simp) ?_; intro v5 w5 hown2 hg2 hb2; rw [List.nil_append] at hown2; have HO5 := Lib.hid hown2; have HB5 := Lib.hid (((Below.refl w1.heap.size w1).alloc (Nat.le_refl _) (.cells #[] 3)).trans hb2); clear hown2 hg2 hb2)
 have P5 := Lib.hid (P0.out.later HB5.out)
 have B5 := Lib.hid (B.out.trans (HB5.out.mono B.out.size))
 obtain ⟨A5, c5, hv, hA5⟩ := HO5.out.form
 subst hv
 obtain ⟨g, hg, hgb, _⟩ := hA5 (by omega)
 subst hg
 have O5 := Lib.hid HO5.out
 clear k0 hA5 HO5 HB5
 have hgw : w.heap.size + 1 ≤ g := by omega
 have O5 : Hid (OwnV w5 (w.heap.size + 1) (.slice (some ⟨g, 0, none⟩) ms.length c5) ms) := O5.out.low (by omega)
 go_wp2
 clear B P0
 go_loopg [8, 9] y.inn.length (fun gg s8 s9 wr => ∃ (k : Nat) (ns : List Int), k ≤ y.inn.length ∧ y.inn.length - k ≤ gg ∧ s8 = .int .i64 k ∧ ns.length = ms.length ∧ Aside (okM ns) ∧ Aside (Below (w.heap.size + 1) w5 wr) ∧ Aside (OwnV wr (w.heap.size + 1) (.slice (some ⟨g, 0, none⟩) ms.length c5) ns))
 case atStart => exact ⟨0, ms, Nat.zero_le _, by omega, rfl, rfl, HM.out, Below.refl _ _, O5.out⟩
 case round =>
  obtain ⟨k, ns, hk, hgg, rfl, hnl, OM, BW, OW⟩ := hrel
  have PW : Hid (Bk wr w.heap.size 75 (netCells x (some ⟨b, off, none⟩) c)) := (BW.out.block w.heap.size (by omega)).trans P5.out
  have BB := Lib.hid (B5.out.trans (BW.out.mono (by omega)) : Below w.heap.size w wr)
  have k0 := fun i => PW.out.cell i
  obtain ⟨f0, f2⟩ := TC.out wr BB.out
  have HNL := Lib.hid hnl
  have HF : Hid (fewM ns) := ⟨by omega, fun z hz => by have := OM.out z hz; omega⟩
  clear hnl
  by_cases hlt : k < y.inn.length
  ·
   have hltz : (k : Int) < (y.inn.length : Int) := by omega
   have hcc := HCL.out k hlt
   obtain ⟨b3, o3, hA3, _, hc3⟩ := (R1.out.below BB.out).ints.at_ hlt
   obtain ⟨p, hp⟩ := Int.eq_ofNat_of_zero_le hcc.1
   rw [hp] at hcc hc3
   have hpl : p < ms.length := by have := HML.out; omega
   have hpz : (p : Int) < (ms.length : Int) := by omega
   have hpn : p < ns.length := by have := HNL.out; omega
   obtain ⟨hold, hfr⟩ := OW.out.at_ p hpn
   have hz := OM.out (ns.getD p 0) (by rw [getD_get hpn]; exact List.getElem_mem hpn)
   generalize ns.getD p 0 = z at hold hz
   subst hA3
   clear hp hcc
   by_cases h0 : 0 < z
   ·
    have HO := Lib.hid (OW.out.put p (z - 1))
    have HB := Lib.hid (BW.out.setCell (p := ⟨g, p, none⟩) hgw (.int .i64 (z - 1)))
    have OM2 := Lib.hid (okM_set OM.out p (z - 1) (by omega) (by omega))
    have HF2 : Hid (fewM (ns.set p (z - 1))) := ⟨by rw [List.length_set]; have := HNL.out; omega, fun u hu => by have := OM2.out u hu; omega⟩
    have k1 : World.cell? (World.setCell wr ⟨g, p, none⟩ (.int .i64 (z - 1))) ⟨b, off + j * 9, none⟩ = some (.int .i64 y.join) := (TC.out _ (B5.out.trans (HB.out.mono (by omega)))).1
    by_cases hx2 : y.join = 2
    ·
     go_wp2
     go_ret
     exact ⟨_, ns.set p (z - 1), rfl, OwnV.low HO.out (by omega), HF2.out, B5.out.trans (HB.out.mono (by omega))⟩
    ·
     have hx2b : (y.join == 2) = false := by simpa using hx2
     go_wp2
     go_roundg (y.inn.length - (k + 1))
     case measure => omega
     case rel => exact ⟨k + 1, ns.set p (z - 1), by omega, by omega, by go_num, by rw [List.length_set]; exact HNL.out, OM2.out, HB.out, HO.out⟩
   ·
    go_wp2
    go_roundg (y.inn.length - (k + 1))
    case measure => omega
    case rel => exact ⟨k + 1, ns, by omega, by omega, by go_num, HNL.out, OM.out, BW.out, OW.out⟩
  ·
   have hltz : ¬ (k : Int) < (y.inn.length : Int) := by omega
   go_wp2
   go_ret
   exact ⟨_, ns, rfl, OwnV.low OW.out (by omega), HF.out, BB.out⟩
end Go.Proofs.Ytjieilicjdoaaaa

/- Who does nothing: closures over active tasks, PplFree of the program and of the reference. -/
namespace Go.Proofs.Ytjieilicjdoaaaa
open Go.RowKit

end Go.Proofs.Ytjieilicjdoaaaa

/- impl.PplDid: slices.Contains and slices.Index over records, and what it answers. -/
namespace Go.Proofs.Ytjieilicjdoaaaa
open Go.RowKit

/-- Whether a list of records holds one of a task and a person. -/
def pplDid (xs : List GDid) (who task : Int) : Bool := xs.any fun d => decide (d.who = who) && decide (d.task = task)

theorem spec_PplDid (A : Option Addr) (c : Nat) (xs : List GDid) (who task : Int) (w : World) (B : Nat) (m : Option Nat) (hx : Rows didC m w B A xs) :
  Calls Try.prog 84 #[.slice A xs.length c, .int .i64 who, .int .i64 task] w fun e w' => e = .returned (.bool (pplDid xs who task)) ∧ w = w' := by
 have hlen := hx.1
 have HX := Lib.hid hx
 clear hx
 go_enter Try.func84, Try.ntmps84
 go_wp2
 go_loopg [7] xs.length (fun gg s3 wr => ∃ k : Nat, k ≤ xs.length ∧ xs.length - k ≤ gg ∧ s3 = .int .i64 k ∧ Aside (w = wr) ∧ Aside (pplDid (xs.take k) who task = false))
 case atStart => exact ⟨0, Nat.zero_le _, by omega, rfl, rfl, by show pplDid (xs.take 0) _ _ = false; simp [pplDid]⟩
 case round =>
  obtain ⟨k, hk, hg, rfl, EW, AN⟩ := hrel
  obtain rfl := EW.out
  by_cases hlt : k < xs.length
  ·
   have hltz : (k : Int) < (xs.length : Int) := by omega
   obtain ⟨b, off, rfl, hb, hc0, hc1⟩ := did_at HX.out hlt
   have HM := Lib.hid (any_split (fun d : GDid => decide (d.who = who) && decide (d.task = task)) xs k hlt AN.out)
   have HH := Lib.hid (fun h => List.any_eq_true.2 ⟨xs[k], List.getElem_mem hlt, h⟩ : (decide (xs[k].who = who) && decide (xs[k].task = task)) = true → pplDid xs who task = true)
   generalize xs[k] = y at hc0 hc1 HM HH
   by_cases h1 : y.who = who
   ·
    have b1 : (y.who == who) = true := by simp [h1]
    by_cases h2 : y.task = task
    ·
     have b2 : (y.task == task) = true := by simp [h2]
     have HS : Hid (pplDid xs who task = true) := HH.out (by simp [h1, h2])
     clear h1 h2
     go_wp2
     go_ret
     exact ⟨by rw [HS.out]; rfl, rfl⟩
    ·
     have b2 : (y.task == task) = false := by simp [h2]
     have HS : Hid (pplDid (xs.take (k + 1)) who task = false) := HM.out.trans (by simp [h2])
     clear h1 h2
     go_wp2
     go_roundg (xs.length - (k + 1))
     case measure => omega
     case rel => exact ⟨k + 1, by omega, by omega, by go_num, rfl, HS.out⟩
   ·
    have b1 : (y.who == who) = false := by simp [h1]
    have HS : Hid (pplDid (xs.take (k + 1)) who task = false) := HM.out.trans (by simp [h1])
    clear h1
    go_wp2
    go_roundg (xs.length - (k + 1))
    case measure => omega
    case rel => exact ⟨k + 1, by omega, by omega, by go_num, rfl, HS.out⟩
  ·
   have hltz : ¬ (k : Int) < (xs.length : Int) := by omega
   have he : k = xs.length := by omega
   have HE := Lib.hid he
   clear he
   go_wp2
   go_ret
   refine ⟨?_, rfl⟩
   have h1 := AN.out
   rw [HE.out, List.take_length] at h1
   rw [h1]; rfl

theorem eqDid (a b c d : Int) (w : World) : (binOp .eql 53 (.agg #[.int .i64 a, .int .i64 b]) (.agg #[.int .i64 c, .int .i64 d])).run Try.prog w = .ok (.bool (a == c && b == d)) w := by
 have u3 := Try.underlying3
 have a3 := Try.isAgg3
 have z3 := Try.sizeOf3
 have hS : Try.prog.underlying 53 = some (.struct (Try.prog.fieldsOf 53)) := by kernel_rfl
 have hp : Try.prog.stoodInHeld 53 = false := by kernel_rfl
 rw [run_eql_struct, show (10000 : Nat) = 9999 + 1 from rfl, run_equalIn_agg w 9999 53 _ _ hS hp]
 simp only [Program.fieldsOf, Try.underlying53]
 go_simp
 by_cases h1 : a = c <;> by_cases h2 : b = d <;> simp [h1, h2]

theorem guardDid (op : BinOp) (o p : Operand) (x y : Array Value) (w : World) : (eqGuard op 53 o p (.agg x) (.agg y)).run Try.prog w = .ok () w :=
 run_eqGuard_agg w op 53 o p x y (by kernel_rfl)

set_option maxHeartbeats 400000 in
theorem index_did (A : Option Addr) (c : Nat) (xs : List GDid) (who task : Int) (w : World) (m : Option Nat) (hx : Rows didC m w w.heap.size A xs) :
  Calls Try.prog 66 #[.slice A xs.length c, .agg #[.int .i64 task, .int .i64 who]] w fun e w' => (∃ r : Int, e = .returned (.int .i64 r) ∧ (decide (0 ≤ r) = pplDid xs who task)) ∧ Below w.heap.size w w' := by
 have hlen := hx.1
 have HX := Lib.hid hx
 clear hx
 have he := fun a b c d w => eqDid a b c d w
 have hg := fun op o p x y w => guardDid op o p x y w
 go_enter Try.func66, Try.ntmps66
 go_wp2
 generalize hW : w.alloc _ = W
 have hcell0 : W.cell? ⟨w.heap.size, 0, none⟩ = some (.int .i64 task) := by rw [← hW]; simp
 have hcell1 : W.cell? ⟨w.heap.size, 1, none⟩ = some (.int .i64 who) := by rw [← hW]; simp
 have hBW : Below w.heap.size w W := by rw [← hW]; exact (Below.refl _ w).alloc (Nat.le_refl _) _
 clear hW
 have HBW := Lib.hid hBW
 clear hBW
 go_loopg [5, 8] xs.length (fun gg _ s8 wr => ∃ k : Nat, k ≤ xs.length ∧ xs.length - k ≤ gg ∧ s8 = .int .i64 k ∧ Aside (∃ q, wr = W.drewN q) ∧ Aside (pplDid (xs.take k) who task = false))
 case atStart => exact ⟨0, Nat.zero_le _, by omega, rfl, ⟨0, rfl⟩, by show pplDid (xs.take 0) _ _ = false; simp [pplDid]⟩
 case round =>
  obtain ⟨k, hk, hgg, rfl, EW, AN⟩ := hrel
  obtain ⟨q, rfl⟩ := EW.out
  by_cases hlt : k < xs.length
  ·
   have hltz : (k : Int) < (xs.length : Int) := by omega
   have h00 : (0 : Int) ≤ (k : Int) := by omega
   obtain ⟨b, off, rfl, hb, hc0, hc1⟩ := did_at HX.out hlt
   have hd0 := (HBW.out.cell (p := ⟨b, off + k * 2, none⟩) hb).trans hc0
   have hd1 := (HBW.out.cell (p := ⟨b, off + k * 2 + 1, none⟩) hb).trans hc1
   clear hc0 hc1
   have HM := Lib.hid (any_split (fun d : GDid => decide (d.who = who) && decide (d.task = task)) xs k hlt AN.out)
   have HH := Lib.hid (fun h => List.any_eq_true.2 ⟨xs[k], List.getElem_mem hlt, h⟩ : (decide (xs[k].who = who) && decide (xs[k].task = task)) = true → pplDid xs who task = true)
   generalize xs[k] = y at hd0 hd1 HM HH
   obtain ⟨yt, yw⟩ := y
   by_cases h1 : yt = task ∧ yw = who
   ·
    have b1 : (task == yt && who == yw) = true := by simp [h1.1, h1.2]
    have HS : Hid (pplDid xs who task = true) := HH.out (by simp [h1.1, h1.2])
    clear h1
    go_wp2
    go_quiet (fail)
    go_wp2
    go_ret
    exact ⟨⟨_, rfl, by rw [HS.out]; simp⟩, bdN (bdN HBW.out _) _⟩
   ·
    have b1 : (task == yt && who == yw) = false := by
     rw [Bool.eq_false_iff]; intro h; simp at h; exact h1 ⟨h.1.symm, h.2.symm⟩
    have HS : Hid (pplDid (xs.take (k + 1)) who task = false) := HM.out.trans (by
     rw [Bool.eq_false_iff]; intro h; simp at h; exact h1 ⟨h.2, h.1⟩)
    clear h1
    go_wp2
    go_quiet (fail)
    go_wp2
    go_roundg (xs.length - (k + 1))
    case measure => omega
    case rel => exact ⟨k + 1, by omega, by omega, by go_num, ⟨_, rfl⟩, HS.out⟩
  ·
   have hltz : ¬ (k : Int) < (xs.length : Int) := by omega
   have he' : k = xs.length := by omega
   have HE := Lib.hid he'
   clear he'
   go_wp2
   go_ret
   have h1 := AN.out
   rw [HE.out, List.take_length] at h1
   exact ⟨⟨_, rfl, by rw [h1]; simp⟩, bdN HBW.out _⟩
theorem contains_did (A : Option Addr) (c : Nat) (xs : List GDid) (who task : Int) (w : World) (m : Option Nat) (hx : Rows didC m w w.heap.size A xs) :
  Calls Try.prog 48 #[.slice A xs.length c, .agg #[.int .i64 task, .int .i64 who]] w fun e w' => e = .returned (.bool (pplDid xs who task)) ∧ Below w.heap.size w w' := by
 have HX := Lib.hid hx
 clear hx
 go_enter Try.func48, Try.ntmps48
 go_wp2_with fail
 generalize hW : w.alloc _ = W
 have hBW : Below w.heap.size w W := by rw [← hW]; exact (Below.refl _ w).alloc (Nat.le_refl _) _
 clear hW
 have HI := Lib.hid (index_did A c xs who task W m (HX.out.later hBW))
 have HB := Lib.hid hBW
 clear hBW
 go_wp2_with (go_at_call 66; refine HI.out.mono ?_; rintro e w' ⟨⟨r, rfl, hr⟩, hb'⟩; have HR := Lib.hid hr; clear hr)
 go_ret
 exact ⟨by rw [← HR.out]; rfl, HB.out.trans (hb'.mono HB.out.size)⟩

theorem impl_PplDid (A : Option Addr) (c : Nat) (xs : List GDid) (who task : Int) (w : World) (m : Option Nat) (hx : Rows didC m w w.heap.size A xs) :
  Calls Try.prog 26 #[.slice A xs.length c, .int .i64 who, .int .i64 task] w fun e w' => e = .returned (.bool (pplDid xs who task)) ∧ Below w.heap.size w w' := by
 have HI := Lib.hid (contains_did A c xs who task w m hx)
 clear hx
 go_enter Try.func26, Try.ntmps26
 go_wp2_with (go_at_call 48; refine HI.out.mono ?_; rintro e w' ⟨rfl, hb'⟩)
 go_ret
 exact ⟨rfl, hb'⟩
end Go.Proofs.Ytjieilicjdoaaaa

/- Who may do a task: PplMay of the program and of the reference. -/
namespace Go.Proofs.Ytjieilicjdoaaaa
open Go.RowKit
set_option linter.unusedSimpArgs false
set_option linter.unusedVariables false

def onIt (apart who : Int) (b : GItem) : Bool := (b.task == apart) && (b.who == who)
/-- Whether somebody may do a task: has its role, does not do the one from which it is kept apart, and has not done it. -/
def mayP (xs : List Int) (ds : List GDid) (bs : List GItem) (t : GTask) (who : Int) : Bool :=
 pplHas xs who t.role && (!(bs.any (onIt t.apart who)) && !pplDid ds who t.apart)
def mayOf (x : GNet) (xs : List Int) (ds : List GDid) (bs : List GItem) (t : Int) : List Int :=
 if netOk x = true then (if inB t 0 ((x.tasks.length : Int) - 1) = true then personsOf xs (mayP xs ds bs (x.tasks.getD t.toNat task0)) else []) else []
theorem mayOf_no {x : GNet} {xs : List Int} {ds : List GDid} {bs : List GItem} {t : Int} (h : netOk x = false ∨ inB t 0 ((x.tasks.length : Int) - 1) = false ∨ pplOk xs = false) : mayOf x xs ds bs t = [] := by
 unfold mayOf personsOf
 rcases h with h | h | h
 ·
  rw [if_neg (by rw [h]; simp)]
 ·
  split
  ·
   rw [if_neg (by rw [h]; simp)]
  ·
   rfl
 ·
  split
  ·
   split
   ·
    rw [if_neg (by rw [h]; simp)]
   ·
    rfl
  ·
   rfl
theorem mayOf_len (x : GNet) (xs : List Int) (ds : List GDid) (bs : List GItem) (t : Int) : (mayOf x xs ds bs t).length ≤ 4 := by
 unfold mayOf
 split
 ·
  split
  ·
   exact personsOf_len _ _
  ·
   simp
 ·
  simp

/-- What the closure that asks of somebody has caught. -/
structure MayAt (B8 B11 B6 B7 : Nat) (A1 : Option Addr) (c1 : Nat) (xs : List Int) (A2 : Option Addr) (c2 : Nat) (ds : List GDid) (A3 : Option Addr) (c3 : Nat) (bs : List GItem) (t : GTask) (m : Option Nat) (W : World) : Prop where
 l8 : B8 < W.heap.size
 l11 : B11 < W.heap.size
 l6 : B6 < W.heap.size
 l7 : B7 < W.heap.size
 c8 : W.cell? ⟨B8, 0, none⟩ = some (.slice A3 bs.length c3)
 cr : W.cell? ⟨B11, 5, none⟩ = some (.int .i64 t.role)
 ca : W.cell? ⟨B11, 6, none⟩ = some (.int .i64 t.apart)
 c6 : W.cell? ⟨B6, 0, none⟩ = some (.slice A1 xs.length c1)
 c7 : W.cell? ⟨B7, 0, none⟩ = some (.slice A2 ds.length c2)
 r1 : Ints W W.heap.size A1 xs
 r2 : Rows didC m W W.heap.size A2 ds
 r3 : Rows itemC m W W.heap.size A3 bs
theorem MayAt.later {B8 B11 B6 B7 : Nat} {A1 A2 A3 : Option Addr} {c1 c2 c3 : Nat} {xs : List Int} {ds : List GDid} {bs : List GItem} {t : GTask} {m : Option Nat} {W W' : World}
  (h : MayAt B8 B11 B6 B7 A1 c1 xs A2 c2 ds A3 c3 bs t m W) (hb : Below W.heap.size W W') : MayAt B8 B11 B6 B7 A1 c1 xs A2 c2 ds A3 c3 bs t m W' :=
 ⟨Nat.lt_of_lt_of_le h.l8 hb.size, Nat.lt_of_lt_of_le h.l11 hb.size, Nat.lt_of_lt_of_le h.l6 hb.size, Nat.lt_of_lt_of_le h.l7 hb.size,
 (hb.cell (p := ⟨B8, 0, none⟩) h.l8).trans h.c8, (hb.cell (p := ⟨B11, 5, none⟩) h.l11).trans h.cr, (hb.cell (p := ⟨B11, 6, none⟩) h.l11).trans h.ca, (hb.cell (p := ⟨B6, 0, none⟩) h.l6).trans h.c6, (hb.cell (p := ⟨B7, 0, none⟩) h.l7).trans h.c7,
 h.r1.later hb, h.r2.later hb, h.r3.later hb⟩

set_option maxRecDepth 100000 in
set_option maxHeartbeats 4000000 in
theorem spec_PplMay (x : GNet) (A : Option Addr) (c : Nat) (A1 : Option Addr) (c1 : Nat) (xs : List Int) (A2 : Option Addr) (c2 : Nat) (ds : List GDid) (A3 : Option Addr) (c3 : Nat) (bs : List GItem) (t : Int) (m m2 m3 : Option Nat) (w : World)
  (hx : Rows taskC m w w.heap.size A x.tasks) (h1 : Ints w w.heap.size A1 xs) (h2 : Rows didC m2 w w.heap.size A2 ds) (h3 : Rows itemC m3 w w.heap.size A3 bs) :
  Calls Try.prog 72 #[.agg (netCells x A c), .slice A1 xs.length c1, .slice A2 ds.length c2, .slice A3 bs.length c3, .int .i64 t] w (GivesInts (mayOf x xs ds bs t) w) := by
 have nx := hx.1
 have n1 := h1.1
 have n3 := h3.1
 have HX := Lib.hid hx
 have H1 := Lib.hid h1
 have H2 := Lib.hid h2
 have H3 := Lib.hid h3
 clear hx h1 h2 h3
 go_enter Try.func72, Try.ntmps72
 go_wp2_with fail
 refine callsAt fun W hW => ?_
 have P0 : Hid (Bk W w.heap.size 75 (netCells x A c)) := by show Bk _ _ _ _; rw [hW]; exact (Bk.new rfl).alloc _
 have HO : Hid (OwnV W (w.heap.size + 1) (.slice (some ⟨w.heap.size + 1, 0, none⟩) 0 0) []) := by
  show OwnV _ _ _ _
  rw [hW]
  have h := OwnV.made' (w := w.alloc (.cells (netCells x A c) 75)) (base := w.heap.size + 1) (by simp)
  rw [World.size_alloc] at h
  exact h
 have B : Hid (Below w.heap.size w W) := by show Below _ _ _; rw [hW]; go_grown
 clear hW
 refine (spec_NetOk x _ m W ⟨A, c, rfl, HX.out.later B.out⟩).mono ?_
 rintro e w1 ⟨rfl, hb⟩
 have P0 := Lib.hid (P0.out.later hb)
 have HO := Lib.hid (HO.out.later hb)
 have B := Lib.hid (B.out.trans (hb.mono B.out.size))
 clear hb
 have k0 := fun i => P0.out.cell i
 cases q1 : netOk x with
 | false =>
  have HE := Lib.hid (mayOf_no (xs := xs) (ds := ds) (bs := bs) (t := t) (.inl q1))
  go_wp2
  go_ret
  exact ⟨_, rfl, by rw [HE.out]; exact HO.out.low (by omega), B.out⟩
 | true =>
 go_wp2_with fail
 refine (spec_PplOk A1 c1 xs _ _ (H1.out.later B.out)).mono ?_
 rintro e w' ⟨rfl, rfl⟩
 cases q3 : pplOk xs with
 | false =>
  have HE := Lib.hid (mayOf_no (x := x) (ds := ds) (bs := bs) (t := t) (.inr (.inr q3)))
  go_wp2
  go_ret
  exact ⟨_, rfl, by rw [HE.out]; exact HO.out.low (by omega), B.out⟩
 | true =>
 go_wp2_with fail
 refine (l1In _ _ _ _).mono ?_
 rintro e w' ⟨rfl, rfl⟩
 cases q2 : inB t 0 ((x.tasks.length : Int) - 1) with
 | false =>
  have HE := Lib.hid (mayOf_no (x := x) (xs := xs) (ds := ds) (bs := bs) (.inr (.inl q2)))
  go_wp2
  go_ret
  exact ⟨_, rfl, by rw [HE.out]; exact HO.out.low (by omega), B.out⟩
 | true =>
 have ht := inB_iff.1 q2
 obtain ⟨j, rfl⟩ := Int.eq_ofNat_of_zero_le ht.1
 have hj : j < x.tasks.length := by omega
 have hjz : (j : Int) < (x.tasks.length : Int) := by omega
 have hl4 := (pplOk_bounds q3).2.1
 have HE : Hid (mayOf x xs ds bs j = personsTo (mayP xs ds bs x.tasks[j]) xs.length) := by
  show _ = _
  unfold mayOf personsOf
  rw [if_pos q1, if_pos q2, if_pos q3, Int.toNat_natCast, getD_get hj]
 obtain ⟨b, off, a1, d1, a2, d2, a3, d3, hA, hbb, _, e0, e1, e2, e3, e4, e5, e6, e7, e8⟩ := task_at HX.out hj
 subst hA
 have E5 := Lib.hid e5
 have E6 := Lib.hid e6
 clear ht e0 e1 e2 e3 e4 e5 e6 e7 e8
 generalize x.tasks[j] = y at HE E5 E6
 go_wp2
 clear q1 q2 q3 k0
 go_loopg [11, 12, 13, 14] xs.length (fun gg s11 s12 _ _ wr => ∃ k : Nat, k ≤ xs.length ∧ xs.length - k ≤ gg ∧ s12 = .int .i64 ((k : Int) + 1) ∧ Aside (Below w.heap.size w wr) ∧ Aside (Bk wr w.heap.size 75 (netCells x (some ⟨b, off, none⟩) c)) ∧ Aside (OwnV wr (w.heap.size + 1) s11 (personsTo (mayP xs ds bs y) k)))
 case atStart => exact ⟨0, Nat.zero_le _, by omega, by simp, B.out, P0.out, HO.out⟩
 case round =>
  obtain ⟨k, hk, hg, rfl, BW, PW, OW⟩ := hrel
  have hpl := personsTo_len (mayP xs ds bs y) k
  by_cases hlt : k < xs.length
  ·
   have t1 : ((k : Int) + 1) ≤ (xs.length : Int) := by omega
   go_wp2
   obtain ⟨wo, hwo⟩ : ∃ wo : World, wo = wr := ⟨_, rfl⟩
   subst hwo
   go_loopg [13, 14] bs.length (fun g2 s13 s14 wi => ∃ i : Nat, i ≤ bs.length ∧ bs.length - i ≤ g2 ∧ s14 = .int .i64 i ∧ s13 = .bool ((bs.take i).any (onIt y.apart ((k : Int) + 1))) ∧ Aside (Below wo.heap.size wo wi))
   case atStart => exact ⟨0, Nat.zero_le _, by omega, rfl, by simp, Below.refl _ _⟩
   case round =>
    obtain ⟨i, hi, hg2, rfl, rfl, EI⟩ := hrel
    have BI := Lib.hid (BW.out.trans (EI.out.mono BW.out.size))
    have PI := Lib.hid (PW.out.later EI.out)
    have k0 := fun i => PI.out.cell i
    have e5 := (BI.out.cell (p := ⟨b, off + j * 9 + 5, none⟩) hbb).trans E5.out
    have e6 := (BI.out.cell (p := ⟨b, off + j * 9 + 6, none⟩) hbb).trans E6.out
    by_cases hil : i < bs.length
    ·
     have hiz : (i : Int) < (bs.length : Int) := by omega
     obtain ⟨b2, off2, rfl, hbB, hc0, hc1, _⟩ := item_at (H3.out.later BI.out) hil
     have HS : Hid ((bs.take (i + 1)).any (onIt y.apart ((k : Int) + 1)) = ((bs.take i).any (onIt y.apart ((k : Int) + 1)) || onIt y.apart ((k : Int) + 1) bs[i])) := by
      show _ = _
      rw [List.take_succ_eq_append_getElem hil, List.any_append]
      simp
     generalize bs[i] = z at hc0 hc1 HS
     obtain ⟨zt, zw, zd⟩ := z
     cases hd : (bs.take i).any (onIt y.apart ((k : Int) + 1)) with
     | true =>
      rw [hd] at HS
      go_wp2
      go_quiet (fail)
      go_wp2
      go_roundg (bs.length - (i + 1))
      case measure => omega
      case rel => exact ⟨i + 1, by omega, by omega, by go_num, by rw [HS.out]; rfl, bdN EI.out _⟩
     | false =>
      rw [hd] at HS
      by_cases hw : zw = (k : Int) + 1
      ·
       have hb1 : (zw == (k : Int) + 1) = true := by simp [hw]
       by_cases hq : zt = y.apart
       ·
        have hb2 : (zt == y.apart) = true := by simp [hq]
        have HS2 : Hid ((bs.take (i + 1)).any (onIt y.apart ((k : Int) + 1)) = true) := by show _ = _; rw [HS.out]; simp [onIt, hw, hq]
        clear hw hq HS
        go_wp2
        go_quiet (fail)
        go_wp2
        go_roundg (bs.length - (i + 1))
        case measure => omega
        case rel => exact ⟨i + 1, by omega, by omega, by go_num, by rw [HS2.out], bdN EI.out _⟩
       ·
        have hb2 : (zt == y.apart) = false := by simp [hq]
        have HS2 : Hid ((bs.take (i + 1)).any (onIt y.apart ((k : Int) + 1)) = false) := by show _ = _; rw [HS.out]; simp [onIt, hw, hq]
        clear hw hq HS
        go_wp2
        go_quiet (fail)
        go_wp2
        go_roundg (bs.length - (i + 1))
        case measure => omega
        case rel => exact ⟨i + 1, by omega, by omega, by go_num, by rw [HS2.out], bdN EI.out _⟩
      ·
       have hb1 : (zw == (k : Int) + 1) = false := by simp [hw]
       have HS2 : Hid ((bs.take (i + 1)).any (onIt y.apart ((k : Int) + 1)) = false) := by show _ = _; rw [HS.out]; simp [onIt, hw]
       clear hw HS
       go_wp2
       go_quiet (fail)
       go_wp2
       go_roundg (bs.length - (i + 1))
       case measure => omega
       case rel => exact ⟨i + 1, by omega, by omega, by go_num, by rw [HS2.out], bdN EI.out _⟩
    ·
     have hiz : ¬ (i : Int) < (bs.length : Int) := by omega
     have he : i = bs.length := by omega
     subst he
     rw [List.take_length]
     have OI := Lib.hid (OW.out.later EI.out)
     cases hp : pplHas xs ((k : Int) + 1) y.role with
     | false =>
      have HN := Lib.hid (personsTo_no (p := mayP xs ds bs y) (k := k) (by simp [mayP, hp]))
      go_wp2_with (go_at_call 83; refine (spec_PplHas _ _ xs _ _ _ _ (H1.out.later BI.out)).mono ?_; rintro e w1 ⟨rfl, rfl⟩)
      go_roundg (xs.length - (k + 1))
      case measure => omega
      case rel => exact ⟨k + 1, by omega, by omega, by go_num, BI.out, PI.out, by show OwnV _ _ _ _; rw [HN.out]; exact OI.out⟩
     | true =>
      cases hq : bs.any (onIt y.apart ((k : Int) + 1)) with
      | true =>
       have HN := Lib.hid (personsTo_no (p := mayP xs ds bs y) (k := k) (by simp only [mayP, hp, hq]; rfl))
       go_wp2_with (go_at_call 83; refine (spec_PplHas _ _ xs _ _ _ _ (H1.out.later BI.out)).mono ?_; rintro e w1 ⟨rfl, rfl⟩)
       go_roundg (xs.length - (k + 1))
       case measure => omega
       case rel => exact ⟨k + 1, by omega, by omega, by go_num, BI.out, PI.out, by show OwnV _ _ _ _; rw [HN.out]; exact OI.out⟩
      | false =>
       cases hs : pplDid ds ((k : Int) + 1) y.apart with
       | true =>
        have HN := Lib.hid (personsTo_no (p := mayP xs ds bs y) (k := k) (by simp only [mayP, hp, hq, hs]; rfl))
        go_wp2_with (first
         | (go_at_call 83; refine (spec_PplHas _ _ xs _ _ _ _ (H1.out.later BI.out)).mono ?_; rintro e w1 ⟨rfl, rfl⟩)
         | (go_at_call 84; refine (spec_PplDid _ _ ds _ _ _ _ m2 (H2.out.later BI.out)).mono ?_; rintro e w1 ⟨rfl, rfl⟩))
        go_roundg (xs.length - (k + 1))
        case measure => omega
        case rel => exact ⟨k + 1, by omega, by omega, by go_num, BI.out, PI.out, by show OwnV _ _ _ _; rw [HN.out]; exact OI.out⟩
       | false =>
        have HN := Lib.hid (personsTo_yes (p := mayP xs ds bs y) (k := k) (by simp only [mayP, hp, hq, hs]; rfl))
        go_wp2_with (first
         | (go_at_call 83; refine (spec_PplHas _ _ xs _ _ _ _ (H1.out.later BI.out)).mono ?_; rintro e w1 ⟨rfl, rfl⟩)
         | (go_at_call 84; refine (spec_PplDid _ _ ds _ _ _ _ m2 (H2.out.later BI.out)).mono ?_; rintro e w1 ⟨rfl, rfl⟩)
         | (at_builtin; refine append_int rfl (.tmp 95) (.tmp 97) rfl (w.heap.size + 1) _ _ rfl (OI.out.alloc _) wr.heap.size ((k : Int) + 1) rfl (by simp) (by omega) (by have := PI.out.lt; simp; omega) ?_; intro v' w2 hown2 hb2; have HO2 := Lib.hid hown2; have HB2 := Lib.hid hb2; clear hown2 hb2))
        go_roundg (xs.length - (k + 1))
        case measure => omega
        case rel => exact ⟨k + 1, by omega, by omega, by go_num, (BI.out.alloc BI.out.size _).trans (HB2.out.mono (by omega)), (HB2.out.block w.heap.size (by omega)).trans (PI.out.alloc _), by show OwnV _ _ _ _; rw [HN.out]; exact HO2.out⟩
  ·
   have he : k = xs.length := by omega
   have HK := Lib.hid he
   have t1 : ¬ ((k : Int) + 1) ≤ (xs.length : Int) := by omega
   clear he
   go_wp2
   go_ret
   exact ⟨_, rfl, by rw [HE.out, ← HK.out]; exact OW.out.low (by omega), BW.out⟩
end Go.Proofs.Ytjieilicjdoaaaa

