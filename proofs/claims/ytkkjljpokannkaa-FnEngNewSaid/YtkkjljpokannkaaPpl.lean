/- People: PplHas of the program and of the reference compute the same plain function. -/
import Derived.Test.YtkkjljpokannkaaPpl0
namespace Go.Proofs.Ytkkjljpokannkaa
open Go.RowKit

theorem impl_isRole (n : Int) (w : World) : Calls Try.prog 136 #[.int .i64 n] w fun e w' => e = .returned (.bool (inB n 1 3)) ∧ w = w' := by
  go_enter Try.func136, Try.ntmps136
  go_wp2_with (go_at_call 135; refine (impl_in _ _ _ _).mono ?_; rintro e w' ⟨rfl, rfl⟩)
  go_ret
  exact ⟨rfl, rfl⟩

/-- Whether a set of roles holds a role. -/
def hasBit (x role : Int) : Bool := decide (x / 2 ^ (role - 1).toNat % 2 = 1)
def pplHas (xs : List Int) (who role : Int) : Bool := pplOk xs && (inB who 1 xs.length && (inB role 1 3 && hasBit (xs.getD (who - 1).toNat 0) role))

theorem pplOk_bounds {xs : List Int} (h : pplOk xs = true) : 1 ≤ xs.length ∧ xs.length ≤ 4 ∧ ∀ x ∈ xs, 0 ≤ x ∧ x ≤ 7 := by
  simp only [pplOk, Bool.and_eq_true, inB_iff, Bool.not_eq_true', List.any_eq_false] at h
  obtain ⟨⟨h1, h2⟩, h3⟩ := h
  refine ⟨by omega, by omega, fun x hx => ?_⟩
  have := h3 x hx
  cases hq : inB x 0 7 with
  | true => exact inB_iff.1 hq
  | false => simp [hq] at this

theorem impl_PplHas (A : Option Addr) (c : Nat) (xs : List Int) (who role : Int) (w : World) (hx : Ints w w.heap.size A xs) :
    Calls Try.prog 52 #[.slice A xs.length c, .int .i64 who, .int .i64 role] w fun e w' => e = .returned (.bool (pplHas xs who role)) ∧ Below w.heap.size w w' := by
  have HP := Lib.hid (impl_PplOk A c xs w hx)
  have HX := Lib.hid hx
  clear hx
  cases h1 : pplOk xs with
  | false =>
    have HF : Hid (pplHas xs who role = false) := by show _ = _; simp [pplHas, h1]
    go_enter Try.func52, Try.ntmps52
    go_wp2_with (go_at_call 134; refine HP.out.mono ?_; rintro e w' ⟨rfl, hb⟩)
    go_ret
    exact ⟨by rw [HF.out]; rfl, hb⟩
  | true =>
    have hbd := pplOk_bounds h1
    have HBD := Lib.hid hbd
    clear hbd
    cases h2 : inB who 1 xs.length with
    | false =>
      have HF : Hid (pplHas xs who role = false) := by show _ = _; simp [pplHas, h2]
      go_enter Try.func52, Try.ntmps52
      go_wp2_with (first | (go_at_call 134; refine HP.out.mono ?_; rintro e w' ⟨rfl, hb⟩) | (go_at_call 135; refine (impl_in _ _ _ _).mono ?_; rintro e w' ⟨rfl, rfl⟩))
      go_ret
      exact ⟨by rw [HF.out]; rfl, hb⟩
    | true =>
      cases h3 : inB role 1 3 with
      | false =>
        have HF : Hid (pplHas xs who role = false) := by show _ = _; simp [pplHas, h3]
        go_enter Try.func52, Try.ntmps52
        go_wp2_with (first | (go_at_call 134; refine HP.out.mono ?_; rintro e w' ⟨rfl, hb⟩) | (go_at_call 135; refine (impl_in _ _ _ _).mono ?_; rintro e w' ⟨rfl, rfl⟩) | (go_at_call 136; refine (impl_isRole _ _).mono ?_; rintro e w' ⟨rfl, rfl⟩))
        go_ret
        exact ⟨by rw [HF.out]; rfl, hb⟩
      | true =>
        have hl4 := HBD.out.2.1
        have hw := inB_iff.1 h2
        have hr := inB_iff.1 h3
        obtain ⟨k, rfl⟩ : ∃ k : Nat, who = (k : Int) + 1 := ⟨(who - 1).toNat, by omega⟩
        have hlt : k < xs.length := by omega
        have hltz : (k : Int) < (xs.length : Int) := by omega
        obtain ⟨b, off, rfl, hbB, hc⟩ := HX.out.at_ hlt
        have hxk := HBD.out.2.2 xs[k] (List.getElem_mem hlt)
        have HF : Hid (pplHas xs ((k : Int) + 1) role = hasBit xs[k] role) := by
          show _ = _
          simp [pplHas, h1, h2, h3, hlt]
        generalize xs[k] = x at hc hxk HF
        obtain ⟨hx0, hx7⟩ := hxk
        have hr' : role = 1 ∨ role = 2 ∨ role = 3 := by omega
        clear hw hr
        rcases hr' with rfl | rfl | rfl
        all_goals
          go_enter Try.func52, Try.ntmps52
          go_wp2_with (first | (go_at_call 134; refine HP.out.mono ?_; rintro e w' ⟨rfl, hb⟩; have hc' := (hb.cell (p := ⟨b, off + k, none⟩) hbB).trans hc) | (go_at_call 135; refine (impl_in _ _ _ _).mono ?_; rintro e w' ⟨rfl, rfl⟩) | (go_at_call 136; refine (impl_isRole _ _).mono ?_; rintro e w' ⟨rfl, rfl⟩))
          go_ret
          refine ⟨?_, hb⟩
          rw [HF.out]
          have hx' : x = 0 ∨ x = 1 ∨ x = 2 ∨ x = 3 ∨ x = 4 ∨ x = 5 ∨ x = 6 ∨ x = 7 := by omega
          clear hc hc' HP HX HF
          rcases hx' with rfl | rfl | rfl | rfl | rfl | rfl | rfl | rfl <;> rfl

theorem spec_PplHas (A : Option Addr) (c : Nat) (xs : List Int) (who role : Int) (w : World) (B : Nat) (hx : Ints w B A xs) :
    Calls Try.prog 132 #[.slice A xs.length c, .int .i64 who, .int .i64 role] w fun e w' => e = .returned (.bool (pplHas xs who role)) ∧ w = w' := by
  have HP := Lib.hid (spec_PplOk A c xs w B hx)
  have HX := Lib.hid hx
  clear hx
  cases h1 : pplOk xs with
  | false =>
    have HF : Hid (pplHas xs who role = false) := by show _ = _; simp [pplHas, h1]
    go_enter Try.func132, Try.ntmps132
    go_wp2_with (go_at_call 21; refine HP.out.mono ?_; rintro e w' ⟨rfl, rfl⟩)
    go_ret
    exact ⟨by rw [HF.out]; rfl, rfl⟩
  | true =>
    have hbd := pplOk_bounds h1
    have HBD := Lib.hid hbd
    clear hbd
    cases h2 : inB who 1 xs.length with
    | false =>
      have HF : Hid (pplHas xs who role = false) := by show _ = _; simp [pplHas, h2]
      go_enter Try.func132, Try.ntmps132
      go_wp2_with (first | (go_at_call 21; refine HP.out.mono ?_; rintro e w' ⟨rfl, rfl⟩) | (go_at_call 103; refine (l1In _ _ _ _).mono ?_; rintro e w' ⟨rfl, rfl⟩))
      go_ret
      exact ⟨by rw [HF.out]; rfl, rfl⟩
    | true =>
      cases h3 : inB role 1 3 with
      | false =>
        have HF : Hid (pplHas xs who role = false) := by show _ = _; simp [pplHas, h3]
        go_enter Try.func132, Try.ntmps132
        go_wp2_with (first | (go_at_call 21; refine HP.out.mono ?_; rintro e w' ⟨rfl, rfl⟩) | (go_at_call 103; refine (l1In _ _ _ _).mono ?_; rintro e w' ⟨rfl, rfl⟩))
        go_ret
        exact ⟨by rw [HF.out]; rfl, rfl⟩
      | true =>
        have hl4 := HBD.out.2.1
        have hw := inB_iff.1 h2
        have hr := inB_iff.1 h3
        obtain ⟨k, rfl⟩ : ∃ k : Nat, who = (k : Int) + 1 := ⟨(who - 1).toNat, by omega⟩
        have hlt : k < xs.length := by omega
        have hltz : (k : Int) < (xs.length : Int) := by omega
        obtain ⟨b, off, rfl, hbB, hc⟩ := HX.out.at_ hlt
        have hxk := HBD.out.2.2 xs[k] (List.getElem_mem hlt)
        have HF : Hid (pplHas xs ((k : Int) + 1) role = hasBit xs[k] role) := by
          show _ = _
          simp [pplHas, h1, h2, h3, hlt]
        generalize xs[k] = x at hc hxk HF
        obtain ⟨hx0, hx7⟩ := hxk
        have hr' : role = 1 ∨ role = 2 ∨ role = 3 := by omega
        clear hw hr
        rcases hr' with rfl | rfl | rfl
        all_goals
          go_enter Try.func132, Try.ntmps132
          go_wp2_with (first | (go_at_call 21; refine HP.out.mono ?_; rintro e w' ⟨rfl, rfl⟩) | (go_at_call 103; refine (l1In _ _ _ _).mono ?_; rintro e w' ⟨rfl, rfl⟩))
          go_rounds 3
          go_ret
          refine ⟨?_, rfl⟩
          rw [HF.out]
          have hx' : x = 0 ∨ x = 1 ∨ x = 2 ∨ x = 3 ∨ x = 4 ∨ x = 5 ∨ x = 6 ∨ x = 7 := by omega
          clear hc HP HX HF
          rcases hx' with rfl | rfl | rfl | rfl | rfl | rfl | rfl | rfl <;> rfl

end Go.Proofs.Ytkkjljpokannkaa
