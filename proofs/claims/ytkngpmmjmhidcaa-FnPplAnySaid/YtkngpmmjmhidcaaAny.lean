/- Who has a role: impl.persons, PplAny of the program and of the reference. -/
import Derived.Test.YtkngpmmjmhidcaaPpl
import Derived.Test.YtkngpmmjmhidcaaMarks
namespace Go.Proofs.Ytkngpmmjmhidcaa
open Go.RowKit

/-- What a function that hands back a new slice of ints leaves. -/
def GivesInts (out : List Int) (w : World) (e : Ending) (w' : World) : Prop := ∃ v, e = .returned v ∧ OwnV w' w.heap.size v out ∧ Below w.heap.size w w'

def personsTo (p : Int → Bool) (k : Nat) : List Int := ((List.range k).map fun i => ((i : Nat) : Int) + 1).filter p
theorem personsTo_yes {p : Int → Bool} {k : Nat} (h : p ((k : Int) + 1) = true) : personsTo p (k + 1) = personsTo p k ++ [(k : Int) + 1] := by
  simp [personsTo, List.range_succ, h]
theorem personsTo_no {p : Int → Bool} {k : Nat} (h : p ((k : Int) + 1) = false) : personsTo p (k + 1) = personsTo p k := by
  simp [personsTo, List.range_succ, h]
theorem personsTo_len (p : Int → Bool) (k : Nat) : (personsTo p k).length ≤ k := by
  unfold personsTo
  exact Nat.le_trans (List.length_filter_le _ _) (by simp)
/-- The people of whom something holds; none, if the people are not valid. -/
def personsOf (xs : List Int) (p : Int → Bool) : List Int := if pplOk xs = true then personsTo p xs.length else []

set_option maxHeartbeats 400000 in
theorem impl_persons (g : Nat) (lb : Array Value) (p : Int → Bool) (eg : ∀ args w, (callFunc g args).run Try.prog w = .ok (.enter g args) w)
    (A : Option Addr) (c : Nat) (xs : List Int) (w : World) (hp : PredInt g lb p w) (hx : Ints w w.heap.size A xs) :
    Calls Try.prog 77 #[.slice A xs.length c, .func (.func g) #[] lb] w (GivesInts (personsOf xs p) w) := by
  have HK := Lib.hid (impl_PplOk A c xs w hx)
  have HP := Lib.hid hp
  clear hx hp
  cases h1 : pplOk xs with
  | false =>
    have HF : Hid (personsOf xs p = []) := by show _ = _; simp [personsOf, h1]
    go_enter Try.func77, Try.ntmps77
    go_wp2_with (go_at_call 17; refine HK.out.mono ?_; rintro e w' ⟨rfl, hb⟩)
    go_ret
    exact ⟨_, rfl, by rw [HF.out]; exact OwnV.nil _ _, hb⟩
  | true =>
    have HF : Hid (personsOf xs p = personsTo p xs.length) := by show _ = _; simp [personsOf, h1]
    have hl4 := (pplOk_bounds h1).2.1
    go_enter Try.func77, Try.ntmps77
    go_wp2_with (go_at_call 17; refine HK.out.mono ?_; rintro e w0 ⟨rfl, hb0⟩; have HB0 := Lib.hid hb0; clear hb0)
    clear h1
    go_loopg [5, 6, 12] xs.length (fun gg s5 _ s12 wr => ∃ k : Nat, k ≤ xs.length ∧ xs.length - k ≤ gg ∧ s12 = .int .i64 k ∧ Aside (Below w.heap.size w wr) ∧ Aside (OwnV wr w.heap.size s5 (personsTo p k)))
    case atStart => exact ⟨0, Nat.zero_le _, by omega, rfl, HB0.out, OwnV.nil _ _⟩
    case round =>
      obtain ⟨k, hk, hg, rfl, BW, OW⟩ := hrel
      by_cases hlt : k < xs.length
      · have hltz : (k : Int) < (xs.length : Int) := by omega
        have hcall := HP.out _ ((k : Int) + 1) BW.out
        have hpl := personsTo_len p k
        cases hq : p ((k : Int) + 1) with
        | true =>
          rw [hq] at hcall
          have HE := Lib.hid (personsTo_yes hq)
          clear hq
          go_wp2_with (first
            | (go_at_fn g; refine hcall.mono ?_; rintro e w1 ⟨rfl, hb1⟩; have HB1 := Lib.hid hb1; have HS := Lib.hid (BW.out.trans (hb1.mono BW.out.size)); clear hb1)
            | (at_builtin; refine append_int rfl (.tmp 19) (.tmp 22) rfl w.heap.size _ _ rfl ((OW.out.later HB1.out).alloc _) w1.heap.size ((k : Int) + 1) rfl (by simp) (by omega) (by have := HS.out.size; simp; omega) ?_; intro v' w2 hown2 hb2; have HO2 := Lib.hid hown2; have HB2 := Lib.hid hb2; clear hown2 hb2))
          go_roundg (xs.length - (k + 1))
          case measure => omega
          case rel => exact ⟨k + 1, by omega, by omega, by go_num, (HS.out.alloc HS.out.size _).trans HB2.out, by show OwnV _ _ _ _; rw [HE.out]; exact HO2.out⟩
        | false =>
          rw [hq] at hcall
          have HE := Lib.hid (personsTo_no hq)
          clear hq
          go_wp2_with (go_at_fn g; refine hcall.mono ?_; rintro e w1 ⟨rfl, hb1⟩; have HB1 := Lib.hid hb1; have HS := Lib.hid (BW.out.trans (hb1.mono BW.out.size)); clear hb1)
          go_roundg (xs.length - (k + 1))
          case measure => omega
          case rel => exact ⟨k + 1, by omega, by omega, by go_num, HS.out, by show OwnV _ _ _ _; rw [HE.out]; exact OW.out.later HB1.out⟩
      · have hltz : ¬ (k : Int) < (xs.length : Int) := by omega
        have he : k = xs.length := by omega
        have HE := Lib.hid he
        clear he
        go_wp2
        go_ret
        refine ⟨_, rfl, ?_, BW.out⟩
        rw [HF.out, ← HE.out]
        exact OW.out

theorem any_pred (B1 B2 : Nat) (A : Option Addr) (c : Nat) (xs : List Int) (role : Int) (w : World) (h1 : B1 < w.heap.size) (h2 : B2 < w.heap.size)
    (c1 : w.cell? ⟨B1, 0, none⟩ = some (.slice A xs.length c)) (c2 : w.cell? ⟨B2, 0, none⟩ = some (.int .i64 role)) (hx : Ints w w.heap.size A xs) :
    PredInt 78 #[.pointer (some ⟨B1, 0, none⟩), .pointer (some ⟨B2, 0, none⟩)] (fun who => pplHas xs who role) w := by
  intro W x hb
  have d1 := (hb.cell (p := ⟨B1, 0, none⟩) h1).trans c1
  have d2 := (hb.cell (p := ⟨B2, 0, none⟩) h2).trans c2
  have HX := Lib.hid (hx.later hb)
  clear c1 c2 hx
  show Calls Try.prog 78 #[.int .i64 x, .pointer (some ⟨B1, 0, none⟩), .pointer (some ⟨B2, 0, none⟩)] W _
  go_enter Try.func78, Try.ntmps78
  go_wp2_with (go_at_call 26; refine (impl_PplHas _ _ xs _ _ _ HX.out).mono ?_; rintro e w' ⟨rfl, hb1⟩)
  go_ret
  exact ⟨rfl, hb1⟩

theorem impl_PplAny (A : Option Addr) (c : Nat) (xs : List Int) (role : Int) (w : World) (hx : Ints w w.heap.size A xs) :
    Calls Try.prog 37 #[.slice A xs.length c, .int .i64 role] w (GivesInts (personsOf xs fun who => pplHas xs who role) w) := by
  have eg : ∀ args w, (callFunc 78 args).run Try.prog w = .ok (.enter 78 args) w := enters_of Try.func78 (by kernel_rfl) rfl
  have HX := Lib.hid hx
  clear hx
  go_enter Try.func37, Try.ntmps37
  go_wp2_with fail
  generalize hW : (w.alloc _).alloc _ = W
  have hBW : Below w.heap.size w W := by rw [← hW]; exact ((Below.refl _ w).alloc (Nat.le_refl _) _).alloc (by simp) _
  have hc1 : W.cell? ⟨w.heap.size, 0, none⟩ = some (.slice A xs.length c) := by rw [← hW]; simp
  have hc2 : W.cell? ⟨w.heap.size + 1, 0, none⟩ = some (.int .i64 role) := by rw [← hW]; simp
  have hsz : W.heap.size = w.heap.size + 2 := by rw [← hW]; simp
  clear hW
  have hp := impl_persons 78 _ _ eg A c xs W (any_pred w.heap.size (w.heap.size + 1) A c xs role W (by omega) (by omega) hc1 hc2 (HX.out.later hBW)) (HX.out.later hBW)
  refine hp.mono ?_
  rintro e w' ⟨v, rfl, hv, hb⟩
  have HV := Lib.hid hv
  have HB := Lib.hid (hBW.trans (hb.mono hBW.size))
  clear hv hb hp
  obtain ⟨A', c', hv', _⟩ := HV.out.form
  subst hv'
  go_wp2
  go_ret
  refine ⟨_, rfl, ?_, HB.out⟩
  have h1 := HV.out
  unfold OwnV at h1 ⊢
  refine ⟨h1.1, ?_⟩
  rcases h1.2 with h2 | ⟨g, cap, cur, a1, a2, a3⟩
  · exact .inl h2
  · exact .inr ⟨g, cap, cur, a1, by omega, a3⟩
theorem personsOf_len (xs : List Int) (p : Int → Bool) : (personsOf xs p).length ≤ 4 := by
  unfold personsOf
  split
  · rename_i h
    exact Nat.le_trans (personsTo_len p _) (pplOk_bounds h).2.1
  · simp

theorem personsOf_min (xs : List Int) (role : Int) : personsTo (fun who => pplHas xs who role) (min xs.length 4) = personsOf xs fun who => pplHas xs who role := by
  unfold personsOf
  cases h : pplOk xs with
  | true =>
    have := (pplOk_bounds h).2.1
    rw [if_pos rfl, Nat.min_eq_left this]
  | false =>
    rw [if_neg (by simp)]
    unfold personsTo
    simp [pplHas, h]

set_option maxHeartbeats 400000 in
theorem spec_PplAny (A : Option Addr) (c : Nat) (xs : List Int) (role : Int) (w : World) (hx : Ints w w.heap.size A xs) :
    Calls Try.prog 36 #[.slice A xs.length c, .int .i64 role] w (GivesInts (personsOf xs fun who => pplHas xs who role) w) := by
  have hlen := hx.1
  have HX := Lib.hid hx
  have HF := Lib.hid (personsOf_min xs role)
  clear hx
  go_enter Try.func36, Try.ntmps36
  go_wp2
  generalize hW : w.alloc _ = W
  have HB : Hid (Below w.heap.size w W) := by show Below _ _ _; rw [← hW]; exact (Below.refl _ w).alloc (Nat.le_refl _) _
  have HO : Hid (OwnV W w.heap.size (.slice (some ⟨w.heap.size, 0, none⟩) 0 0) []) := by
    show OwnV _ _ _ _
    rw [← hW]
    exact World.ownsRow_made w #[] 0 (Nat.le_refl _) (by simp [maxLen]) rfl
  clear hW
  go_loopg [5, 6] (min xs.length 4) (fun gg s5 s6 wr => ∃ k : Nat, k ≤ min xs.length 4 ∧ min xs.length 4 - k ≤ gg ∧ s6 = .int .i64 ((k : Int) + 1) ∧ Aside (Below w.heap.size w wr) ∧ Aside (OwnV wr w.heap.size s5 (personsTo (fun who => pplHas xs who role) k)))
  case atStart => exact ⟨0, Nat.zero_le _, by omega, by simp, HB.out, HO.out⟩
  case round =>
    obtain ⟨k, hk, hg, rfl, BW, OW⟩ := hrel
    have hpl := personsTo_len (fun who => pplHas xs who role) k
    by_cases hlt : k < min xs.length 4
    · have t1 : ((k : Int) + 1) ≤ (xs.length : Int) := by omega
      have t2 : ((k : Int) + 1) ≤ 4 := by omega
      cases hq : pplHas xs ((k : Int) + 1) role with
      | true =>
        have HE := Lib.hid (personsTo_yes (p := fun who => pplHas xs who role) hq)
        go_wp2_with (first
          | (go_at_call 25; refine (spec_PplHas _ _ xs _ _ _ w.heap.size (HX.out.below BW.out)).mono ?_; rintro e w1 ⟨rfl, rfl⟩)
          | (at_builtin; refine append_int rfl (.tmp 22) (.tmp 24) rfl w.heap.size _ _ rfl (OW.out.alloc _) wr.heap.size ((k : Int) + 1) rfl (by simp) (by omega) (by have := BW.out.size; simp; omega) ?_; intro v' w2 hown2 hb2; have HO2 := Lib.hid hown2; have HB2 := Lib.hid hb2; clear hown2 hb2))
        go_roundg (min xs.length 4 - (k + 1))
        case measure => omega
        case rel => exact ⟨k + 1, by omega, by omega, by go_num, (BW.out.alloc BW.out.size _).trans HB2.out, by show OwnV _ _ _ _; rw [HE.out]; exact HO2.out⟩
      | false =>
        have HE := Lib.hid (personsTo_no (p := fun who => pplHas xs who role) hq)
        go_wp2_with (go_at_call 25; refine (spec_PplHas _ _ xs _ _ _ w.heap.size (HX.out.below BW.out)).mono ?_; rintro e w1 ⟨rfl, rfl⟩)
        go_roundg (min xs.length 4 - (k + 1))
        case measure => omega
        case rel => exact ⟨k + 1, by omega, by omega, by go_num, BW.out, by show OwnV _ _ _ _; rw [HE.out]; exact OW.out⟩
    · have he : k = min xs.length 4 := by omega
      have HE := Lib.hid he
      by_cases h4 : k < xs.length
      · have t1 : ((k : Int) + 1) ≤ (xs.length : Int) := by omega
        have t2 : ¬ ((k : Int) + 1) ≤ 4 := by omega
        clear he
        go_wp2
        go_ret
        exact ⟨_, rfl, by rw [← HF.out, ← HE.out]; exact OW.out, BW.out⟩
      · have t1 : ¬ ((k : Int) + 1) ≤ (xs.length : Int) := by omega
        have d1 : decide (((k : Int) + 1) ≤ (xs.length : Int)) = false := by simpa using t1
        clear he
        go_wp2
        go_ret
        exact ⟨_, rfl, by rw [← HF.out, ← HE.out]; exact OW.out, BW.out⟩
end Go.Proofs.Ytkngpmmjmhidcaa
