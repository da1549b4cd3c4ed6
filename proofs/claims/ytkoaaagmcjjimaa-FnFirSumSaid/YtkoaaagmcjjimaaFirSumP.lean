/- What marks behind a task come to, in plain lists. -/
import Derived.Test.YtkoaaagmcjjimaaFir
namespace Go.Proofs.Ytkoaaagmcjjimaa
open Go.RowKit

theorem splTo_pos {t : GTask} {places tasks : Int} {d : List Int} (h : taskOk t places tasks = true) (hp : places ≤ 8) (hd : datOk d = true) : 1 ≤ (splTo t d t.out.length).length := by
  obtain ⟨h3, h1, _, _⟩ := ok_flows h hp
  unfold taskOk at h
  simp only [Bool.and_eq_true] at h
  have hf := h.1.2.2.2.2
  unfold flowsOk at hf
  rw [Bool.and_eq_true] at hf
  obtain ⟨k, hk⟩ : ∃ k, t.out.length = k + 1 := ⟨t.out.length - 1, by omega⟩
  have hf2 := allTo_get hf.2 (by omega : k < t.out.length)
  unfold flowAt at hf2
  rw [Bool.and_eq_true, Bool.and_eq_true, Bool.and_eq_true] at hf2
  obtain ⟨_, ha, hq, _⟩ := hf2
  have hop : (t.out.getD k flow0).ask.op = 0 := by
    have h4 : (decide (k + 1 = t.out.length) || decide (t.split = 1)) = true := by simp [hk]
    rw [h4] at hq
    simpa using hq
  have hh : holds (t.out.getD k flow0).ask d = true := by
    unfold holds
    rw [ha, hd, hop]
    simp
  rw [hk]
  by_cases hs : splSkip t k (splTo t d k).length = true
  · rw [splTo_no (.inr hs)]
    unfold splSkip at hs
    simp only [Bool.or_eq_true, Bool.and_eq_true, decide_eq_true_eq] at hs
    omega
  · rw [splTo_yes hh (by simpa using hs), List.length_append]
    simp

theorem firOf_yes {x : GNet} {ms d out : List Int} {t : Int} (h : firOf x ms t d = (out, true)) :
    mrkOk x ms = true ∧ inB t 0 ((x.tasks.length : Int) - 1) = true ∧ datOk d = true ∧ marksOk x out = true ∧ out = firOut (x.tasks.getD t.toNat task0) ms d := by
  unfold firOf at h
  split at h
  · rename_i h1
    split at h
    · rename_i h2
      simp only [Prod.mk.injEq, and_true] at h
      subst h
      exact ⟨h1.1, h1.2.1, h1.2.2, h2, rfl⟩
    · simp at h
  · simp at h

/-- The law of FnFirSum. -/
theorem fir_law {x : GNet} {ms d out : List Int} {t : Int} (h : firOf x ms t d = (out, true)) :
    ∃ (j : Nat) (hj : j < x.tasks.length), t = j ∧ x.tasks.length ≤ 6 ∧ out.length = ms.length ∧ ms.length ≤ 8 ∧ okM ms ∧ okM out ∧ (x.tasks[j]).out.length ≤ 3 ∧
      out.sum - ms.sum ≤ (splTo x.tasks[j] d (x.tasks[j]).out.length).length ∧ 1 ≤ (splTo x.tasks[j] d (x.tasks[j]).out.length).length ∧
      ((x.tasks[j]).clear.length = 0 → out.sum - ms.sum = (splTo x.tasks[j] d (x.tasks[j]).out.length).length ∧ ∀ (i : Nat) (h : i < out.length) (h' : i < ms.length), ms[i] ≤ out[i]) := by
  obtain ⟨h1, h2, h3, h4, h5⟩ := firOf_yes h
  unfold mrkOk at h1
  rw [Bool.and_eq_true] at h1
  obtain ⟨hn, hm⟩ := h1
  obtain ⟨hml, hmo⟩ := marksOk_iff.1 hm
  obtain ⟨hol, hoo⟩ := marksOk_iff.1 h4
  have hn2 := hn
  unfold netOk at hn2
  simp only [Bool.and_eq_true, inB_iff] at hn2
  rw [inB_iff] at h2
  obtain ⟨j, rfl⟩ := Int.eq_ofNat_of_zero_le h2.1
  have hj : j < x.tasks.length := by omega
  have ht := netOk_task hn hj
  have hp8 : x.places ≤ 8 := by omega
  rw [Int.toNat_natCast, getD_get hj] at h5
  obtain ⟨hnd, hfit⟩ := spl_fit ht hp8 d
  have hsum : (firOut x.tasks[j] ms d).sum = (clearTo ms (x.tasks[j]).clear).sum + (splTo x.tasks[j] d (x.tasks[j]).out.length).length := by
    unfold firOut
    exact giveTo_sum _ _ fun p hp => by
      have := hfit p hp
      rw [clearTo_len]
      omega
  have hcl := clearTo_sum (x.tasks[j]).clear ms hmo
  refine ⟨j, hj, rfl, by omega, by omega, by omega, hmo, hoo, (ok_flows ht hp8).1, by rw [h5, hsum]; omega, splTo_pos ht hp8 h3, fun hc => ?_⟩
  have hc0 : (x.tasks[j]).clear = [] := List.eq_nil_of_length_eq_zero hc
  have hcm : clearTo ms (x.tasks[j]).clear = ms := by rw [hc0]; rfl
  refine ⟨by rw [h5, hsum, hcm]; omega, fun i hi hi' => ?_⟩
  have hg := giveTo_get (splTo x.tasks[j] d (x.tasks[j]).out.length) ms i hi'
  have ho : out.getD i 0 = (giveTo ms (splTo x.tasks[j] d (x.tasks[j]).out.length)).getD i 0 := by
    rw [h5]
    unfold firOut
    rw [hcm]
  rw [getD_get hi] at ho
  rw [getD_get hi'] at hg
  omega
end Go.Proofs.Ytkoaaagmcjjimaa
