/- Slices of slices of ints marked, and asked for their marks. -/
import Derived.Test.YtkkjljpokannkaaMany
namespace Go.Proofs.Ytkkjljpokannkaa
open Go.RowKit
set_option linter.unusedSimpArgs false
set_option linter.unusedVariables false

set_option maxHeartbeats 2000000 in
theorem laws_markIntSS (A : Option Addr) (c : Nat) (n : Nat) (b : Nat → Nat) (x : Nat → List Int) (base : Nat) (w : World) (h : SS w base A n b x) (hinj : ∀ i i', i < n → i' < n → b i = b i' → i = i') (hp : ∀ i, i < n → 0 < (x i).length) (hn : n ≤ 1000) (hl : ∀ i, (x i).length ≤ 1000) :
    Calls Try.prog 35 #[.slice A n c, .int .i64 1] w fun e w' => e = .returned (.int .i64 (1 + (totTo x n : Nat))) ∧ SS w' base A n b (fun i => seqI (1 + (totTo x i : Nat)) (x i).length) ∧ Inside base w.heap.size w w' := by
  have HH := Lib.hid h
  have HL := Lib.hid hl
  have HJ := Lib.hid hinj
  have HP := Lib.hid hp
  clear h hl hinj hp
  go_enter Try.func35, Try.ntmps35
  go_wp2
  go_loopg [1, 5] n (fun gg s1 s5 wr => ∃ k : Nat, k ≤ n ∧ n - k ≤ gg ∧ s5 = .int .i64 k ∧ s1 = .int .i64 (1 + (totTo x k : Nat)) ∧ Aside (Inside base w.heap.size w wr) ∧ Aside (SS wr base A n b (markedTo 1 x k)))
  case atStart => exact ⟨0, Nat.zero_le _, by omega, rfl, rfl, Inside.refl _ _ _, HH.out⟩
  case round =>
    obtain ⟨k, hk, hg, rfl, rfl, IN, SW⟩ := hrel
    have htl := totTo_le x HL.out k
    by_cases hlt : k < n
    · have hltz : (k : Int) < (n : Int) := by omega
      have hxl := HL.out k
      have hml : (markedTo 1 x k k).length = (x k).length := markedTo_len _ _ _ _
      have hmk : markedTo 1 x k k = x k := by unfold markedTo; rw [if_neg (by omega)]
      obtain ⟨G, rfl, _, hG, hrow⟩ := SW.out (by omega)
      obtain ⟨⟨e1, hc⟩, hbb, hbG, hw⟩ := hrow k hlt
      rw [hmk] at hc hw
      have HW := Lib.hid hw
      have hbs : b k < w.heap.size := by have := hw.lt; rw [IN.out.size] at this; exact this
      have HT : Hid (totTo x (k + 1) = totTo x k + (x k).length) := (rfl : totTo x (k + 1) = totTo x k + (x k).length)
      clear hrow hw
      go_wp2_with (go_at_call 74; refine (laws_markIntS_own (some ⟨b k, 0, none⟩) e1 (x k) (1 + (totTo x k : Nat)) wr (b k) (b k + 1) (fun _ => ⟨b k, rfl, Nat.le_refl _, HW.out⟩) (fun _ g hg => by cases hg; omega) (by omega) (by omega) (by omega)).mono ?_; rintro e w2 ⟨rfl, how, hin⟩; have HO := Lib.hid how; have HI := Lib.hid hin; clear how hin)
      go_roundg (n - (k + 1))
      case measure => omega
      case rel =>
        refine ⟨k + 1, by omega, by omega, by go_num, by rw [HT.out]; go_num, ?_, ?_⟩
        · exact IN.out.trans ⟨HI.out.os, HI.out.tape, HI.out.output, HI.out.size, fun i hi => HI.out.block i (by omega)⟩
        · refine SW.out.mark hlt HJ.out HI.out ?_
          obtain ⟨g, hg, _, hw2⟩ := HO.out (by rw [seqI_len]; exact HP.out k hlt)
          cases hg
          exact hw2
    · have hltz : ¬ (k : Int) < (n : Int) := by omega
      have he : k = n := by omega
      subst he
      go_wp2
      go_ret
      refine ⟨rfl, ?_, IN.out⟩
      intro h0
      obtain ⟨G, hA, h1, h2, h3⟩ := SW.out h0
      refine ⟨G, hA, h1, h2, fun j hj => ?_⟩
      have h4 := h3 j hj
      unfold markedTo at h4
      rw [if_pos hj] at h4
      exact h4

set_option maxHeartbeats 2000000 in
theorem laws_heldIntSS (A : Option Addr) (c : Nat) (n : Nat) (b : Nat → Nat) (x : Nat → List Int) (base : Nat) (w : World) (h : SS w base A n b (fun i => seqI (1 + (totTo x i : Nat)) (x i).length)) (hn : n ≤ 1000) (hl : ∀ i, (x i).length ≤ 1000) :
    Calls Try.prog 36 #[.slice A n c, .int .i64 1] w fun e w' => e = .returned (.int .i64 (1 + (totTo x n : Nat))) ∧ w = w' := by
  have HH := Lib.hid h
  have HL := Lib.hid hl
  clear h hl
  go_enter Try.func36, Try.ntmps36
  go_wp2
  go_loopg [1, 5] n (fun gg s1 s5 wr => ∃ k : Nat, k ≤ n ∧ n - k ≤ gg ∧ s5 = .int .i64 k ∧ s1 = .int .i64 (1 + (totTo x k : Nat)) ∧ Aside (w = wr))
  case atStart => exact ⟨0, Nat.zero_le _, by omega, rfl, rfl, rfl⟩
  case round =>
    obtain ⟨k, hk, hg, rfl, rfl, EW⟩ := hrel
    obtain rfl := EW.out
    have htl := totTo_le x HL.out k
    by_cases hlt : k < n
    · have hltz : (k : Int) < (n : Int) := by omega
      have hxl := HL.out k
      obtain ⟨G, e1, rfl, hG, hc, hr⟩ := HH.out.at_ hlt (by show (seqI _ _).length ≤ 1000; rw [seqI_len]; exact hxl)
      have hc' : w.cell? ⟨G, k, none⟩ = some (.slice (some ⟨b k, 0, none⟩) (x k).length e1) := by rw [hc]; show some (Value.slice _ (seqI _ _).length e1) = _; rw [seqI_len]
      have HR := Lib.hid hr
      have HT : Hid (totTo x (k + 1) = totTo x k + (x k).length) := (rfl : totTo x (k + 1) = totTo x k + (x k).length)
      clear hc hr
      have hneg : ¬ (1 + (totTo x k : Int) + ((x k).length : Int)) < 0 := by omega
      go_wp2_with (go_at_call 115; refine (laws_heldIntS (some ⟨b k, 0, none⟩) e1 (x k).length (1 + (totTo x k : Nat)) w w.heap.size HR.out (by omega) (by omega) (by omega)).mono ?_; rintro e w2 ⟨rfl, rfl⟩)
      go_roundg (n - (k + 1))
      case measure => omega
      case rel => exact ⟨k + 1, by omega, by omega, by go_num, by rw [HT.out]; go_num, rfl⟩
    · have hltz : ¬ (k : Int) < (n : Int) := by omega
      have he : k = n := by omega
      subst he
      go_wp2
      go_ret
      exact ⟨rfl, rfl⟩
end Go.Proofs.Ytkkjljpokannkaa
