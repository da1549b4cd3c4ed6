/- People: PplOk, PplHas of the program and of the reference compute the same plain functions. -/
import Derived.Test.YtkngpmmjmhidcaaInts
namespace Go.Proofs.Ytkngpmmjmhidcaa
open Go.RowKit

def pplOk (xs : List Int) : Bool := inB xs.length 1 4 && !xs.any fun n => !inB n 0 7

theorem pplOk_pred (w : World) : PredInt 62 #[] (fun n => !inB n 0 7) w := by
  intro W x hb
  show Calls Try.prog 62 #[.int .i64 x] W _
  go_enter Try.func62, Try.ntmps62
  go_wp2_with (go_at_call 60; refine (impl_in _ _ _ _).mono ?_; rintro e w' ⟨rfl, rfl⟩)
  go_ret
  exact ⟨rfl, Below.refl _ _⟩

theorem impl_PplOk (A : Option Addr) (c : Nat) (xs : List Int) (w : World) (hx : Ints w w.heap.size A xs) :
    Calls Try.prog 17 #[.slice A xs.length c] w fun e w' => e = .returned (.bool (pplOk xs)) ∧ Below w.heap.size w w' := by
  have hlen := hx.1
  have eg : ∀ args w, (callFunc 62 args).run Try.prog w = .ok (.enter 62 args) w := enters_of Try.func62 (by kernel_rfl) rfl
  have HC := Lib.hid (containsFunc_int _ #[] _ eg A c xs w (pplOk_pred w) hx)
  clear hx eg
  cases h : inB xs.length 1 4 with
  | true =>
    have HF : Hid (pplOk xs = !xs.any fun n => !inB n 0 7) := by show _ = _; simp [pplOk, h]
    go_enter Try.func17, Try.ntmps17
    go_wp2_with (first | (go_at_call 60; refine (impl_in _ _ _ _).mono ?_; rintro e w' ⟨rfl, rfl⟩) | (go_at_call 61; refine HC.out.mono ?_; rintro e w' ⟨rfl, hb⟩))
    go_ret
    exact ⟨by rw [HF.out]; rfl, hb⟩
  | false =>
    have HF : Hid (pplOk xs = false) := by show _ = _; simp [pplOk, h]
    go_enter Try.func17, Try.ntmps17
    go_wp2_with (first | (go_at_call 60; refine (impl_in _ _ _ _).mono ?_; rintro e w' ⟨rfl, rfl⟩))
    go_ret
    exact ⟨by rw [HF.out]; rfl, Below.refl _ _⟩
theorem any_miss {α : Type} (p : α → Bool) (xs : List α) (k : Nat) (hk : k < xs.length) (h : (xs.take k).any p = false) (h2 : p xs[k] = false) : (xs.take (k + 1)).any p = false := by
  rw [any_split p xs k hk h, h2]
theorem any_hit {α : Type} (p : α → Bool) (xs : List α) (k : Nat) (hk : k < xs.length) (h2 : p xs[k] = true) : xs.any p = true :=
  List.any_eq_true.2 ⟨xs[k], List.getElem_mem hk, h2⟩

theorem spec_PplOk (A : Option Addr) (c : Nat) (xs : List Int) (w : World) (B : Nat) (hx : Ints w B A xs) :
    Calls Try.prog 15 #[.slice A xs.length c] w fun e w' => e = .returned (.bool (pplOk xs)) ∧ w = w' := by
  have hlen := hx.1
  have HX := Lib.hid hx
  clear hx
  cases h : inB xs.length 1 4 with
  | true =>
    have HF : Hid (pplOk xs = !xs.any fun n => !inB n 0 7) := by show _ = _; simp [pplOk, h]
    go_enter Try.func15, Try.ntmps15
    go_wp2_with (go_at_call 59; refine (l1In _ _ _ _).mono ?_; rintro e w' ⟨rfl, rfl⟩)
    clear h
    go_loopg [3] xs.length (fun gg s3 wr => ∃ k : Nat, k ≤ xs.length ∧ xs.length - k ≤ gg ∧ s3 = .int .i64 k ∧ Aside (w = wr) ∧ Aside ((xs.take k).any (fun n => !inB n 0 7) = false))
    case atStart => exact ⟨0, Nat.zero_le _, by omega, rfl, rfl, by show (xs.take 0).any _ = false; simp⟩
    case round =>
      obtain ⟨k, hk, hg, rfl, EW, AN⟩ := hrel
      obtain rfl := EW.out
      by_cases hlt : k < xs.length
      · have hltz : (k : Int) < (xs.length : Int) := by omega
        obtain ⟨b, off, rfl, hb, hc⟩ := HX.out.at_ hlt
        cases hq : inB xs[k] 0 7 with
        | true =>
          have HS := Lib.hid (any_miss (fun n => !inB n 0 7) xs k hlt AN.out (by simp [hq]))
          generalize xs[k] = y at hc hq
          go_wp2_with (go_at_call 59; refine (l1In _ _ _ _).mono ?_; rintro e w' ⟨rfl, rfl⟩)
          go_roundg (xs.length - (k + 1))
          case measure => omega
          case rel => exact ⟨k + 1, by omega, by omega, by go_num, rfl, HS.out⟩
        | false =>
          have HS := Lib.hid (any_hit (fun n => !inB n 0 7) xs k hlt (by simp [hq]))
          generalize xs[k] = y at hc hq
          go_wp2_with (go_at_call 59; refine (l1In _ _ _ _).mono ?_; rintro e w' ⟨rfl, rfl⟩)
          go_ret
          exact ⟨by rw [HF.out, HS.out]; rfl, rfl⟩
      · have hltz : ¬ (k : Int) < (xs.length : Int) := by omega
        have he : k = xs.length := by omega
        have HE := Lib.hid he
        clear he
        go_wp2
        go_ret
        refine ⟨?_, rfl⟩
        have h1 := AN.out
        rw [HE.out, List.take_length] at h1
        rw [HF.out, h1]; rfl
  | false =>
    have HF : Hid (pplOk xs = false) := by show _ = _; simp [pplOk, h]
    go_enter Try.func15, Try.ntmps15
    go_wp2_with (go_at_call 59; refine (l1In _ _ _ _).mono ?_; rintro e w' ⟨rfl, rfl⟩)
    go_ret
    exact ⟨by rw [HF.out]; rfl, rfl⟩

theorem impl_isRole (n : Int) (w : World) : Calls Try.prog 69 #[.int .i64 n] w fun e w' => e = .returned (.bool (inB n 1 3)) ∧ w = w' := by
  go_enter Try.func69, Try.ntmps69
  go_wp2_with (go_at_call 60; refine (impl_in _ _ _ _).mono ?_; rintro e w' ⟨rfl, rfl⟩)
  go_ret
  exact ⟨rfl, rfl⟩

/-- Whether a set of roles holds a role. -/
def hasBit (x role : Int) : Bool := decide (x / 2 ^ (role - 1).toNat % 2 = 1)
def pplHas (xs : List Int) (who role : Int) : Bool := pplOk xs && (inB who 1 xs.length && (inB role 1 3 && hasBit (xs.getD (who - 1).toNat 0) role))

theorem pplOk_bounds {xs : List Int} (h : pplOk xs = true) : 1 ≤ xs.length ∧ xs.length ≤ 4 ∧ ∀ x ∈ xs, 0 ≤ x ∧ x ≤ 7 := by
  simp only [pplOk, Bool.and_eq_true, inB_iff, Bool.not_eq_true', List.any_eq_false] at h
  obtain ⟨⟨h1, h2⟩, h3⟩ := h
  refine ⟨by omega, by omega, fun x hx => ?_⟩
  have := h3 x hx
  cases hq : inB x 0 7 with
  | true => exact inB_iff.1 hq
  | false => simp [hq] at this

theorem impl_PplHas (A : Option Addr) (c : Nat) (xs : List Int) (who role : Int) (w : World) (hx : Ints w w.heap.size A xs) :
    Calls Try.prog 26 #[.slice A xs.length c, .int .i64 who, .int .i64 role] w fun e w' => e = .returned (.bool (pplHas xs who role)) ∧ Below w.heap.size w w' := by
  have HP := Lib.hid (impl_PplOk A c xs w hx)
  have HX := Lib.hid hx
  clear hx
  cases h1 : pplOk xs with
  | false =>
    have HF : Hid (pplHas xs who role = false) := by show _ = _; simp [pplHas, h1]
    go_enter Try.func26, Try.ntmps26
    go_wp2_with (go_at_call 17; refine HP.out.mono ?_; rintro e w' ⟨rfl, hb⟩)
    go_ret
    exact ⟨by rw [HF.out]; rfl, hb⟩
  | true =>
    have hbd := pplOk_bounds h1
    have HBD := Lib.hid hbd
    clear hbd
    cases h2 : inB who 1 xs.length with
    | false =>
      have HF : Hid (pplHas xs who role = false) := by show _ = _; simp [pplHas, h2]
      go_enter Try.func26, Try.ntmps26
      go_wp2_with (first | (go_at_call 17; refine HP.out.mono ?_; rintro e w' ⟨rfl, hb⟩) | (go_at_call 60; refine (impl_in _ _ _ _).mono ?_; rintro e w' ⟨rfl, rfl⟩))
      go_ret
      exact ⟨by rw [HF.out]; rfl, hb⟩
    | true =>
      cases h3 : inB role 1 3 with
      | false =>
        have HF : Hid (pplHas xs who role = false) := by show _ = _; simp [pplHas, h3]
        go_enter Try.func26, Try.ntmps26
        go_wp2_with (first | (go_at_call 17; refine HP.out.mono ?_; rintro e w' ⟨rfl, hb⟩) | (go_at_call 60; refine (impl_in _ _ _ _).mono ?_; rintro e w' ⟨rfl, rfl⟩) | (go_at_call 69; refine (impl_isRole _ _).mono ?_; rintro e w' ⟨rfl, rfl⟩))
        go_ret
        exact ⟨by rw [HF.out]; rfl, hb⟩
      | true =>
        have hl4 := HBD.out.2.1
        have hw := inB_iff.1 h2
        have hr := inB_iff.1 h3
        obtain ⟨k, rfl⟩ : ∃ k : Nat, who = (k : Int) + 1 := ⟨(who - 1).toNat, by omega⟩
        have hlt : k < xs.length := by omega
        have hltz : (k : Int) < (xs.length : Int) := by omega
        obtain ⟨b, off, rfl, hbB, hc⟩ := HX.out.at_ hlt
        have hxk := HBD.out.2.2 xs[k] (List.getElem_mem hlt)
        have HF : Hid (pplHas xs ((k : Int) + 1) role = hasBit xs[k] role) := by
          show _ = _
          simp [pplHas, h1, h2, h3, hlt]
        generalize xs[k] = x at hc hxk HF
        obtain ⟨hx0, hx7⟩ := hxk
        have hr' : role = 1 ∨ role = 2 ∨ role = 3 := by omega
        clear hw hr
        rcases hr' with rfl | rfl | rfl
        all_goals
          go_enter Try.func26, Try.ntmps26
          go_wp2_with (first | (go_at_call 17; refine HP.out.mono ?_; rintro e w' ⟨rfl, hb⟩; have hc' := (hb.cell (p := ⟨b, off + k, none⟩) hbB).trans hc) | (go_at_call 60; refine (impl_in _ _ _ _).mono ?_; rintro e w' ⟨rfl, rfl⟩) | (go_at_call 69; refine (impl_isRole _ _).mono ?_; rintro e w' ⟨rfl, rfl⟩))
          go_ret
          refine ⟨?_, hb⟩
          rw [HF.out]
          have hx' : x = 0 ∨ x = 1 ∨ x = 2 ∨ x = 3 ∨ x = 4 ∨ x = 5 ∨ x = 6 ∨ x = 7 := by omega
          clear hc hc' HP HX HF
          rcases hx' with rfl | rfl | rfl | rfl | rfl | rfl | rfl | rfl <;> rfl

theorem spec_PplHas (A : Option Addr) (c : Nat) (xs : List Int) (who role : Int) (w : World) (B : Nat) (hx : Ints w B A xs) :
    Calls Try.prog 25 #[.slice A xs.length c, .int .i64 who, .int .i64 role] w fun e w' => e = .returned (.bool (pplHas xs who role)) ∧ w = w' := by
  have HP := Lib.hid (spec_PplOk A c xs w B hx)
  have HX := Lib.hid hx
  clear hx
  cases h1 : pplOk xs with
  | false =>
    have HF : Hid (pplHas xs who role = false) := by show _ = _; simp [pplHas, h1]
    go_enter Try.func25, Try.ntmps25
    go_wp2_with (go_at_call 15; refine HP.out.mono ?_; rintro e w' ⟨rfl, rfl⟩)
    go_ret
    exact ⟨by rw [HF.out]; rfl, rfl⟩
  | true =>
    have hbd := pplOk_bounds h1
    have HBD := Lib.hid hbd
    clear hbd
    cases h2 : inB who 1 xs.length with
    | false =>
      have HF : Hid (pplHas xs who role = false) := by show _ = _; simp [pplHas, h2]
      go_enter Try.func25, Try.ntmps25
      go_wp2_with (first | (go_at_call 15; refine HP.out.mono ?_; rintro e w' ⟨rfl, rfl⟩) | (go_at_call 59; refine (l1In _ _ _ _).mono ?_; rintro e w' ⟨rfl, rfl⟩))
      go_ret
      exact ⟨by rw [HF.out]; rfl, rfl⟩
    | true =>
      cases h3 : inB role 1 3 with
      | false =>
        have HF : Hid (pplHas xs who role = false) := by show _ = _; simp [pplHas, h3]
        go_enter Try.func25, Try.ntmps25
        go_wp2_with (first | (go_at_call 15; refine HP.out.mono ?_; rintro e w' ⟨rfl, rfl⟩) | (go_at_call 59; refine (l1In _ _ _ _).mono ?_; rintro e w' ⟨rfl, rfl⟩))
        go_ret
        exact ⟨by rw [HF.out]; rfl, rfl⟩
      | true =>
        have hl4 := HBD.out.2.1
        have hw := inB_iff.1 h2
        have hr := inB_iff.1 h3
        obtain ⟨k, rfl⟩ : ∃ k : Nat, who = (k : Int) + 1 := ⟨(who - 1).toNat, by omega⟩
        have hlt : k < xs.length := by omega
        have hltz : (k : Int) < (xs.length : Int) := by omega
        obtain ⟨b, off, rfl, hbB, hc⟩ := HX.out.at_ hlt
        have hxk := HBD.out.2.2 xs[k] (List.getElem_mem hlt)
        have HF : Hid (pplHas xs ((k : Int) + 1) role = hasBit xs[k] role) := by
          show _ = _
          simp [pplHas, h1, h2, h3, hlt]
        generalize xs[k] = x at hc hxk HF
        obtain ⟨hx0, hx7⟩ := hxk
        have hr' : role = 1 ∨ role = 2 ∨ role = 3 := by omega
        clear hw hr
        rcases hr' with rfl | rfl | rfl
        all_goals
          go_enter Try.func25, Try.ntmps25
          go_wp2_with (first | (go_at_call 15; refine HP.out.mono ?_; rintro e w' ⟨rfl, rfl⟩) | (go_at_call 59; refine (l1In _ _ _ _).mono ?_; rintro e w' ⟨rfl, rfl⟩))
          go_rounds 3
          go_ret
          refine ⟨?_, rfl⟩
          rw [HF.out]
          have hx' : x = 0 ∨ x = 1 ∨ x = 2 ∨ x = 3 ∨ x = 4 ∨ x = 5 ∨ x = 6 ∨ x = 7 := by omega
          clear hc HP HX HF
          rcases hx' with rfl | rfl | rfl | rfl | rfl | rfl | rfl | rfl <;> rfl

end Go.Proofs.Ytkngpmmjmhidcaa
