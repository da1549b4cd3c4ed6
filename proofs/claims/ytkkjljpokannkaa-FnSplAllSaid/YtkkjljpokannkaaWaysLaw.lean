/- All the ways of a task: where it leads to with data is one of them. -/
import Derived.Test.YtkkjljpokannkaaWays
import Derived.Test.YtkkjljpokannkaaSpl
namespace Go.Proofs.Ytkkjljpokannkaa
open Go.RowKit
set_option linter.unusedSimpArgs false

theorem holds_op0 {e : GAsk} {d : List Int} (h : askOk e = true) (hd : datOk d = true) (h0 : e.op = 0) : holds e d = true := by
  unfold holds
  rw [h, hd, h0]
  simp
/-- What is asked for of a task's ways. -/
structure WayFit (t : GTask) (d : List Int) : Prop where
  s : t.split = 1 ∨ t.split = 2 ∨ t.split = 3
  n : 1 ≤ t.out.length ∧ t.out.length ≤ 3
  h : ∀ i, i < t.out.length → (i + 1 = t.out.length ∨ t.split = 1) → holds (t.out.getD i flow0).ask d = true
theorem wayFit {t : GTask} {places tasks : Int} {d : List Int} (ht : taskOk t places tasks = true) (hd : datOk d = true) : WayFit t d := by
  unfold taskOk at ht
  simp only [Bool.and_eq_true, inB_iff] at ht
  obtain ⟨⟨_, hs, _, _, hf⟩, _⟩ := ht
  unfold flowsOk at hf
  rw [Bool.and_eq_true, inB_iff] at hf
  refine ⟨by omega, by omega, fun i hi hq => ?_⟩
  have h2 := allTo_get hf.2 hi
  unfold flowAt at h2
  simp only [Bool.and_eq_true] at h2
  obtain ⟨_, h3, h4, _⟩ := h2
  refine holds_op0 h3 hd ?_
  have h5 : (decide (i + 1 = t.out.length) || decide (t.split = 1)) = true := by simpa using hq
  rw [h5] at h4
  simpa using h4.symm
set_option maxHeartbeats 4000000 in
theorem ways_law {t : GTask} {d : List Int} (h : WayFit t d) :
    splTo t d t.out.length ∈ waysOf t ∧ (∀ y ∈ waysOf t, 1 ≤ y.length ∧ (t.split = 2 → y.length = 1) ∧ (t.split = 1 → y.length = t.out.length)) ∧ (t.split = 2 → (waysOf t).length = t.out.length) ∧ (t.split = 1 → (waysOf t).length = 1) := by
  obtain ⟨hs, hn, hh⟩ := h
  obtain ⟨j, s, inn, out, cl, ro, ap, al, ne⟩ := t
  simp only at hs hn hh
  rcases out with _ | ⟨a, _ | ⟨b, _ | ⟨c, _ | ⟨e, l⟩⟩⟩⟩
  · simp at hn
  · have h1 := hh 0 (by simp) (by simp)
    simp at h1
    rcases hs with rfl | rfl | rfl <;> simp [waysOf, waysTo, rowTo, bitOf, fitWay, splTo, splStep, splSkip, h1]
  · have h1 := hh 1 (by simp) (by simp)
    simp at h1
    rcases hs with rfl | rfl | rfl
    · have h0 := hh 0 (by simp) (by simp)
      simp at h0
      simp [waysOf, waysTo, rowTo, bitOf, fitWay, splTo, splStep, splSkip, h0, h1]
    · cases h0 : holds a.ask d <;> simp [waysOf, waysTo, rowTo, bitOf, fitWay, splTo, splStep, splSkip, h0, h1]
    · cases h0 : holds a.ask d <;> simp [waysOf, waysTo, rowTo, bitOf, fitWay, splTo, splStep, splSkip, h0, h1]
  · have h2 := hh 2 (by simp) (by simp)
    simp at h2
    rcases hs with rfl | rfl | rfl
    · have h0 := hh 0 (by simp) (by simp)
      have h1 := hh 1 (by simp) (by simp)
      simp at h0 h1
      simp [waysOf, waysTo, rowTo, bitOf, fitWay, splTo, splStep, splSkip, h0, h1, h2]
    · cases h0 : holds a.ask d <;> cases h1 : holds b.ask d <;> simp [waysOf, waysTo, rowTo, bitOf, fitWay, splTo, splStep, splSkip, h0, h1, h2]
    · cases h0 : holds a.ask d <;> cases h1 : holds b.ask d <;> simp [waysOf, waysTo, rowTo, bitOf, fitWay, splTo, splStep, splSkip, h0, h1, h2]
  · simp at hn
end Go.Proofs.Ytkkjljpokannkaa
