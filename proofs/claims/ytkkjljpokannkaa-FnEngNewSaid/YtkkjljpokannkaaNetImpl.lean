/- The program's ExpOk, ascends, outOk, ok, NetOk compute the plain functions. -/
import Derived.Test.YtkkjljpokannkaaNetSpec
import Derived.Test.YtkkjljpokannkaaSeen
namespace Go.Proofs.Ytkkjljpokannkaa
open Go.RowKit

theorem impl_isKind (n : Int) (w : World) : Calls Try.prog 194 #[.int .i64 n] w fun e w' => e = .returned (.bool (inB n 1 3)) ∧ w = w' := by
  go_enter Try.func194, Try.ntmps194
  go_wp2_with (go_at_call 135; refine (impl_in _ _ _ _).mono ?_; rintro e w' ⟨rfl, rfl⟩)
  go_ret
  exact ⟨rfl, rfl⟩
theorem impl_sizesOk (p t : Int) (w : World) : Calls Try.prog 118 #[.int .i64 p, .int .i64 t] w fun e w' => e = .returned (.bool (inB p 2 8 && inB t 1 6)) ∧ w = w' := by
  cases h1 : inB p 2 8 with
  | false =>
    go_enter Try.func118, Try.ntmps118
    go_wp2_with (go_at_call 135; refine (impl_in _ _ _ _).mono ?_; rintro e w' ⟨rfl, rfl⟩)
    go_ret
    exact ⟨rfl, rfl⟩
  | true =>
    go_enter Try.func118, Try.ntmps118
    go_wp2_with (go_at_call 135; refine (impl_in _ _ _ _).mono ?_; rintro e w' ⟨rfl, rfl⟩)
    go_ret
    exact ⟨rfl, rfl⟩

set_option maxHeartbeats 1000000 in
theorem index_int (A : Option Addr) (c : Nat) (xs : List Int) (n : Int) (w : World) (hx : Ints w w.heap.size A xs) :
    Calls Try.prog 236 #[.slice A xs.length c, .int .i64 n] w fun e w' => (∃ r : Int, e = .returned (.int .i64 r) ∧ (decide (0 ≤ r) = xs.any fun x => decide (x = n))) ∧ Below w.heap.size w w' := by
  have hlen := hx.1
  have HX := Lib.hid hx
  clear hx
  go_enter Try.func236, Try.ntmps236
  go_wp2
  go_loopg [5, 8] xs.length (fun gg _ s8 wr => ∃ k : Nat, k ≤ xs.length ∧ xs.length - k ≤ gg ∧ s8 = .int .i64 k ∧ Aside (Below w.heap.size w wr) ∧ Aside ((xs.take k).any (fun x => decide (x = n)) = false))
  case atStart => exact ⟨0, Nat.zero_le _, by omega, rfl, Below.refl _ _, by show (xs.take 0).any _ = false; simp⟩
  case round =>
    obtain ⟨k, hk, hgg, rfl, EW, AN⟩ := hrel
    by_cases hlt : k < xs.length
    · have hltz : (k : Int) < (xs.length : Int) := by omega
      have h00 : (0 : Int) ≤ (k : Int) := by omega
      obtain ⟨b, off, rfl, hb, hc⟩ := (HX.out.later EW.out).at_ hlt
      by_cases hq : xs[k] = n
      · have HS := Lib.hid (any_hit (fun x => decide (x = n)) xs k hlt (by simp [hq]))
        have hb1 : (n == xs[k]) = true := by simp [hq]
        have hb2 : (xs[k] == n) = true := by simp [hq]
        generalize xs[k] = y at hc hb1 hb2
        clear hq
        go_wp2
        go_ret
        exact ⟨⟨_, rfl, by rw [HS.out]; simp⟩, EW.out⟩
      · have HS := Lib.hid (any_miss (fun x => decide (x = n)) xs k hlt AN.out (by simp [hq]))
        have hb1 : (n == xs[k]) = false := by simp; omega
        have hb2 : (xs[k] == n) = false := by simp [hq]
        generalize xs[k] = y at hc hb1 hb2
        clear hq
        go_wp2
        go_roundg (xs.length - (k + 1))
        case measure => omega
        case rel => exact ⟨k + 1, by omega, by omega, by go_num, EW.out, HS.out⟩
    · have hltz : ¬ (k : Int) < (xs.length : Int) := by omega
      have he' : k = xs.length := by omega
      have HE := Lib.hid he'
      clear he'
      go_wp2
      go_ret
      have h1 := AN.out
      rw [HE.out, List.take_length] at h1
      exact ⟨⟨_, rfl, by rw [h1]; simp⟩, EW.out⟩
theorem contains_int (A : Option Addr) (c : Nat) (xs : List Int) (n : Int) (w : World) (hx : Ints w w.heap.size A xs) :
    Calls Try.prog 219 #[.slice A xs.length c, .int .i64 n] w (Says (.bool (xs.any fun x => decide (x = n))) w) := by
  have HI := Lib.hid (index_int A c xs n w hx)
  clear hx
  go_enter Try.func219, Try.ntmps219
  go_wp2_with (go_at_call 236; refine HI.out.mono ?_; rintro e w' ⟨⟨r, rfl, hr⟩, hb'⟩; have HR := Lib.hid hr; clear hr)
  go_ret
  exact ⟨by rw [← HR.out]; rfl, hb'⟩

/-- Number i of some lies above the one ahead of it (or -1), below the places, and is none of those that are left out. -/
def ascAt (places : Int) (without xs : List Int) (i : Nat) : Bool :=
  inB (xs.getD i 0) ((if i = 0 then -1 else xs.getD (i - 1) 0) + 1) (places - 1) && !(without.any fun y => decide (y = xs.getD i 0))

set_option maxHeartbeats 1000000 in
theorem impl_ascends (A : Option Addr) (c : Nat) (xs : List Int) (A' : Option Addr) (c' : Nat) (ys : List Int) (places : Int) (w : World) (hx : Ints w w.heap.size A xs) (hy : Ints w w.heap.size A' ys) (hp : 2 ≤ places ∧ places ≤ 8) :
    Calls Try.prog 195 #[.slice A xs.length c, .int .i64 places, .slice A' ys.length c'] w (Says (.bool (allTo (ascAt places ys xs) xs.length)) w) := by
  have hlen := hx.1
  have HX := Lib.hid hx
  have HY := Lib.hid hy
  clear hx hy
  go_enter Try.func195, Try.ntmps195
  go_wp2
  go_loopg [7, 9, 12] xs.length (fun gg s7 _ s12 wr => ∃ (k : Nat) (l : Int), k ≤ xs.length ∧ xs.length - k ≤ gg ∧ s12 = .int .i64 k ∧ s7 = .int .i64 l ∧ -1 ≤ l ∧ l ≤ 8 ∧ Aside (l = if k = 0 then -1 else xs.getD (k - 1) 0) ∧ Aside (Below w.heap.size w wr) ∧ Aside (allTo (ascAt places ys xs) k = true))
  case atStart => exact ⟨0, -1, Nat.zero_le _, by omega, rfl, rfl, by omega, by omega, rfl, Below.refl _ _, rfl⟩
  case round =>
    obtain ⟨k, l, hk, hgg, rfl, rfl, hl1, hl8, HL, EW, AN⟩ := hrel
    by_cases hlt : k < xs.length
    · have hltz : (k : Int) < (xs.length : Int) := by omega
      obtain ⟨b, off, rfl, hb, hc⟩ := (HX.out.later EW.out).at_ hlt
      have HA : Hid (ascAt places ys xs k = (inB xs[k] (l + 1) (places - 1) && !(ys.any fun y => decide (y = xs[k])))) := by
        show _ = _
        unfold ascAt
        rw [getD_get hlt, ← HL.out]
      have HN : Hid (xs[k] = if k + 1 = 0 then -1 else xs.getD (k + 1 - 1) 0) := by
        show _ = _
        rw [if_neg (by omega), Nat.add_sub_cancel, getD_get hlt]
      generalize xs[k] = y at hc HA HN
      cases q1 : inB y (l + 1) (places - 1) with
      | false =>
        have HS : Hid (allTo (ascAt places ys xs) xs.length = false) := allTo_fail hlt (by rw [HA.out, q1]; rfl)
        go_wp2_with (go_at_call 135; refine (impl_in _ _ _ _).mono ?_; rintro e w' ⟨rfl, rfl⟩)
        go_ret
        exact ⟨by rw [HS.out]; rfl, EW.out⟩
      | true =>
        have hyb := inB_iff.1 q1
        go_wp2_with fail
        refine (impl_in _ _ _ _).mono ?_; rintro e w' ⟨rfl, rfl⟩
        go_wp2_with fail
        refine (contains_int A' c' ys y _ (HY.out.later EW.out)).mono ?_; rintro e w2 ⟨rfl, hb2⟩
        have EW2 := Lib.hid (EW.out.trans (hb2.mono EW.out.size))
        clear hb2
        cases q2 : (ys.any fun z => decide (z = y)) with
        | true =>
          have HS : Hid (allTo (ascAt places ys xs) xs.length = false) := allTo_fail hlt (by rw [HA.out, q1, q2]; rfl)
          go_wp2
          go_ret
          exact ⟨by rw [HS.out]; rfl, EW2.out⟩
        | false =>
          have HS : Hid (allTo (ascAt places ys xs) (k + 1) = true) := allTo_step AN.out (by rw [HA.out, q1, q2]; rfl)
          go_wp2
          go_roundg (xs.length - (k + 1))
          case measure => omega
          case rel => exact ⟨k + 1, y, by omega, by omega, by go_num, rfl, by omega, by omega, HN.out, EW2.out, HS.out⟩
    · have hltz : ¬ (k : Int) < (xs.length : Int) := by omega
      have he' : k = xs.length := by omega
      have HE := Lib.hid he'
      clear he'
      go_wp2
      go_ret
      have h1 := AN.out
      rw [HE.out] at h1
      exact ⟨by rw [h1]; rfl, EW.out⟩

theorem take_any_succ (xs : List Int) (n : Nat) (hn : n < xs.length) (p : Int → Bool) : (xs.take (n + 1)).any p = ((xs.take n).any p || p xs[n]) := by
  rw [List.take_succ_eq_append_getElem hn, List.any_append]; simp

/-- Ascending, but for place 1, as the reference says it. -/
theorem asc_in (places : Int) (xs : List Int) : ∀ n, n ≤ xs.length → allTo (ascAt places [1] xs) n = (allTo (risesAt 0 (places - 1) xs) n && !((xs.take n).any fun y => decide (y = 1)))
  | 0, _ => by simp [allTo]
  | n + 1, hn => by
    rw [allTo_succ, allTo_succ, asc_in places xs n (by omega), take_any_succ xs n (by omega)]
    cases h : allTo (risesAt 0 (places - 1) xs) n with
    | false => simp
    | true =>
      have e : ascAt places [1] xs n = (risesAt 0 (places - 1) xs n && !decide (xs[n] = 1)) := by
        unfold ascAt risesAt
        rw [getD_get (by omega : n < xs.length)]
        have e1 : ([1].any fun y : Int => decide (y = xs[n])) = decide (xs[n] = 1) := by simp [eq_comm]
        rw [e1]
        congr 1
        by_cases h0 : n = 0
        · subst h0; simp
        · have hp := allTo_get h (k := n - 1) (by omega)
          unfold risesAt at hp
          rw [Bool.and_eq_true] at hp
          have hb := inB_iff.1 hp.1
          rw [getD_get (by omega : n - 1 < xs.length)] at hb ⊢
          rw [if_neg h0]
          simp only [h0, decide_false, Bool.false_or]
          rw [Bool.eq_iff_iff, Bool.and_eq_true, inB_iff, inB_iff, decide_eq_true_eq]
          omega
      rw [e]
      cases risesAt 0 (places - 1) xs n <;> cases ((xs.take n).any fun y => decide (y = 1)) <;> cases decide (xs[n] = 1) <;> rfl

/-- Ascending from place 2 on, as the reference says it. -/
theorem asc_clear (places : Int) (xs : List Int) : ∀ n, n ≤ xs.length → allTo (ascAt places [0, 1] xs) n = allTo (risesAt 2 (places - 1) xs) n := fun n hn => by
  refine (allTo_congr n fun k hk h => ?_).symm
  unfold ascAt risesAt
  rw [getD_get (by omega : k < xs.length)]
  by_cases h0 : k = 0
  · subst h0
    simp only [decide_true, Bool.true_or, Bool.and_true, if_true]
    rw [Bool.eq_iff_iff, Bool.and_eq_true, inB_iff, inB_iff]
    simp only [List.any_cons, List.any_nil, Bool.or_false, Bool.not_eq_true', Bool.or_eq_false_iff, decide_eq_false_iff_not]
    omega
  · have hp := allTo_get h (k := k - 1) (by omega)
    unfold risesAt at hp
    rw [Bool.and_eq_true] at hp
    have hb := inB_iff.1 hp.1
    rw [getD_get (by omega : k - 1 < xs.length)] at hb ⊢
    rw [if_neg h0]
    simp only [h0, decide_false, Bool.false_or]
    rw [Bool.eq_iff_iff, Bool.and_eq_true, Bool.and_eq_true, inB_iff, inB_iff, decide_eq_true_eq]
    simp only [List.any_cons, List.any_nil, Bool.or_false, Bool.not_eq_true', Bool.or_eq_false_iff, decide_eq_false_iff_not]
    omega
theorem rises_len (lo hi : Int) (xs : List Int) : ∀ n, n ≤ xs.length → allTo (risesAt lo hi xs) n = true → n = 0 ∨ (lo + n ≤ hi + 1 ∧ lo + n ≤ xs.getD (n - 1) 0 + 1)
  | 0, _, _ => .inl rfl
  | n + 1, hn, h => by
    rw [allTo_succ, Bool.and_eq_true] at h
    have hp := h.2
    unfold risesAt at hp
    rw [Bool.and_eq_true] at hp
    have hb := inB_iff.1 hp.1
    have h2 := hp.2
    rcases rises_len lo hi xs n (by omega) h.1 with h0 | ⟨h1, h3⟩
    · subst h0
      right
      simp only [Nat.zero_add, Nat.sub_self]
      omega
    · right
      rw [Nat.add_sub_cancel]
      by_cases h0 : n = 0
      · subst h0; omega
      · simp only [h0, decide_false, Bool.false_or, decide_eq_true_eq] at h2
        omega
theorem asc_in_eq (places : Int) (xs : List Int) : (inB xs.length 1 3 && allTo (ascAt places [1] xs) xs.length) = (rises xs 1 3 0 (places - 1) && !(xs.any fun y => decide (y = 1))) := by
  rw [asc_in places xs _ (Nat.le_refl _), List.take_length, rises, Bool.and_assoc]
theorem asc_clear_eq (places : Int) (hp : 2 ≤ places) (xs : List Int) : allTo (ascAt places [0, 1] xs) xs.length = rises xs 0 places 2 (places - 1) := by
  rw [asc_clear places xs _ (Nat.le_refl _), rises]
  cases h : allTo (risesAt 2 (places - 1) xs) xs.length with
  | false => simp
  | true =>
    rcases rises_len _ _ xs _ (Nat.le_refl _) h with h0 | ⟨h1, _⟩
    · rw [inB_true (by omega) (by omega)]; rfl
    · rw [inB_true (by omega) (by omega)]; rfl
end Go.Proofs.Ytkkjljpokannkaa
