/- The walk of FnPplDid: it returns true. -/
import Derived.Test.YtkngpmmjmhidcaaDrawDid
namespace Go.Proofs.Ytkngpmmjmhidcaa
open Go.RowKit

theorem any_step {α : Type} (p : α → Bool) (xs : List α) (k : Nat) (hk : k < xs.length) : (xs.take (k + 1)).any p = ((xs.take k).any p || p xs[k]) := by
  rw [List.take_succ_eq_append_getElem hk, List.any_append]; simp

set_option maxHeartbeats 1000000 in
theorem walk_FnPplDid (A : Option Addr) (c : Nat) (xs : List Int) (w : World) (h : Code w w.heap.size A c xs) :
    Calls Try.prog 4 #[.slice A xs.length c] w fun e w' => e = .returned (.bool true) ∧ Below w.heap.size w w' := by
  have hlen := h.1.1
  have HC := Lib.hid h
  clear h
  by_cases hl : 1048576 < xs.length
  · have hlz : (1048576 : Int) < (xs.length : Int) := by omega
    go_enter Try.func4, Try.ntmps4
    go_wp2
    go_ret
    exact ⟨rfl, Below.refl _ _⟩
  have hlz : ¬ (1048576 : Int) < (xs.length : Int) := by omega
  go_enter Try.func4, Try.ntmps4
  go_wp2_with fail
  refine (DrawPplDid A c xs w HC.out).mono ?_
  rintro e w1 ⟨A', c', ds, who, task, rfl, hd4, hrow, hw0, hw4, ht0, ht3, hb1⟩
  have D1 := Lib.hid hrow
  have B1 := Lib.hid hb1
  clear hrow hb1
  go_wp2_with fail
  refine (impl_PplDid A' c' ds who task w1 none D1.out).mono ?_
  rintro e w2 ⟨rfl, hb2⟩
  have D2 := Lib.hid (D1.out.later hb2)
  have B2 := Lib.hid (B1.out.trans (hb2.mono B1.out.size))
  clear hb2
  go_wp2_with fail
  refine (spec_PplDid A' c' ds who task w2 _ none D2.out).mono ?_
  rintro e w3 ⟨rfl, rfl⟩
  have he := fun a b c d w => eqDid a b c d w
  have hg := fun op o p x y w => guardDid op o p x y w
  generalize hP : pplDid ds who task = P
  have HP := Lib.hid hP
  clear hP
  go_wp2
  go_loopg [7, 8] ds.length (fun gg s7 s8 wr => ∃ k : Nat, k ≤ ds.length ∧ ds.length - k ≤ gg ∧ s8 = .int .i64 k ∧ s7 = .bool (pplDid (ds.take k) who task) ∧ Aside (w2 = wr))
  case atStart => exact ⟨0, Nat.zero_le _, by omega, rfl, by simp [pplDid], rfl⟩
  case round =>
    obtain ⟨k, hk, hgg, rfl, rfl, EW⟩ := hrel
    obtain rfl := EW.out
    by_cases hlt : k < ds.length
    · have hltz : (k : Int) < (ds.length : Int) := by omega
      obtain ⟨b, off, rfl, hb, hc0, hc1⟩ := did_at D2.out hlt
      have HM := Lib.hid (any_step (fun d : GDid => decide (d.who = who) && decide (d.task = task)) ds k hlt)
      generalize ds[k] = y at hc0 hc1 HM
      cases hq : pplDid (ds.take k) who task with
      | true =>
        have HS : Hid (pplDid (ds.take (k + 1)) who task = true) := HM.out.trans (by show (pplDid (ds.take k) who task || _) = _; rw [hq]; rfl)
        clear hq
        go_wp2
        go_roundg (ds.length - (k + 1))
        case measure => omega
        case rel => exact ⟨k + 1, by omega, by omega, by go_num, by rw [HS.out], rfl⟩
      | false =>
        have HS : Hid (pplDid (ds.take (k + 1)) who task = (y.task == task && y.who == who)) := HM.out.trans (by
          show (pplDid (ds.take k) who task || _) = _; rw [hq]
          by_cases h1 : y.task = task <;> by_cases h2 : y.who = who <;> simp [h1, h2])
        clear hq
        go_wp2
        go_roundg (ds.length - (k + 1))
        case measure => omega
        case rel => exact ⟨k + 1, by omega, by omega, by go_num, by rw [HS.out], rfl⟩
    · have hltz : ¬ (k : Int) < (ds.length : Int) := by omega
      have he' : k = ds.length := by omega
      subst he'
      rw [List.take_length, HP.out]
      go_wp2_with fail
      refine callsAt fun W hW => ?_
      have b0 : Bk W w2.heap.size 32 #[.int .i64 2, .int .i64 1] := by rw [hW]; exact Bk.new rfl
      have hB : Below w2.heap.size w2 W := by rw [hW]; exact (Below.refl _ _).alloc (Nat.le_refl _) _
      clear hW
      refine (impl_PplDid (some ⟨w2.heap.size, 0, none⟩) 1 [⟨2, 1⟩] 1 2 W none ?_).mono ?_
      · refine ⟨by simp, fun _ => ⟨w2.heap.size, 0, rfl, ⟨b0.lt, fun lo h => by cases h⟩, fun j x hx => ?_⟩⟩
        match j, hx with
        | 0, hx =>
          simp only [List.getElem?_cons_zero, Option.some.injEq] at hx
          subst hx
          exact ⟨_, rfl, fun i u hu => by simp only [Nat.zero_mul, Nat.zero_add]; rw [b0.cell]; simpa [GDid.cells] using hu⟩
        | j + 1, hx => simp at hx
      rintro e w4 ⟨rfl, hb4⟩
      have B4 := Lib.hid (B2.out.trans ((hB.trans (hb4.mono hB.size)).mono B2.out.size))
      clear hb4
      go_wp2
      go_ret
      exact ⟨by rfl, B4.out⟩
end Go.Proofs.Ytkngpmmjmhidcaa
