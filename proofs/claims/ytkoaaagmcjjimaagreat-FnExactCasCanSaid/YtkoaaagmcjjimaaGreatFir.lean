/- Marks behind a task: FirGive of the program and of the reference. -/
import Derived.Test.YtkoaaagmcjjimaaGreatSpl
import Derived.Test.YtkoaaagmcjjimaaGreatFirPlain
import Derived.Test.YtkoaaagmcjjimaaGreatBusyImpl
import Derived.StillTailTactics
namespace Go.Proofs.YtkoaaagmcjjimaaGreat
open Go.RowKit
set_option linter.unusedSimpArgs false
set_option linter.unusedVariables false

theorem OwnV.put {w : World} {base g n c : Nat} {xs : List Int} (h : OwnV w base (.slice (some ⟨g, 0, none⟩) n c) xs) (j : Nat) (z : Int) : OwnV (w.setCell ⟨g, j, none⟩ (.int .i64 z)) base (.slice (some ⟨g, 0, none⟩) n c) (xs.set j z) := by
  have hn : n = xs.length := by
    obtain ⟨A', c', hv, _⟩ := h.form
    simp only [Value.slice.injEq] at hv
    exact hv.2.1
  subst hn
  unfold OwnV
  rw [List.length_set, show iv (xs.set j z) = (iv xs).set j (.int .i64 z) from by simp [iv, List.map_set]]
  exact (World.ownsRow.stored h j (.int .i64 z)).1
theorem OwnV.at_ {w : World} {base g n c : Nat} {xs : List Int} (h : OwnV w base (.slice (some ⟨g, 0, none⟩) n c) xs) (j : Nat) (hj : j < xs.length) : w.cell? ⟨g, j, none⟩ = some (.int .i64 (xs.getD j 0)) ∧ w.frozen? ⟨g, j, none⟩ = false := by
  obtain ⟨A, c', hv, hA⟩ := h.form
  obtain ⟨g', hg, _, hw⟩ := hA (by omega)
  simp only [Value.slice.injEq] at hv
  obtain ⟨h1, -, -⟩ := hv
  rw [hg] at h1
  cases h1
  rw [getD_get hj]
  exact ⟨hw.cell (iv_get (List.getElem?_eq_getElem hj)), hw.frozen j⟩

theorem Kept.cell {base : Nat} {w : World} {p : Addr} (hp : p.block < base) (u : Value) : Kept base w (w.setCell p u) :=
  ⟨by simp [World.setCell], fun b _ hlo => Below.heap_setCell w p u b (by omega)⟩
theorem OwnV.keptK {w w' : World} {base : Nat} {v : Value} {xs : List Int} (h : OwnV w base v xs) (hk : Kept base w w') : OwnV w' base v xs := by
  refine ⟨h.1, ?_⟩
  rcases h.2 with hn | ⟨g, cap, cur, hv, hb, hgg, rest⟩
  · exact .inl hn
  · exact .inr ⟨g, cap, cur, hv, hb, (hk.2 g (Array.getElem?_eq_some_iff.1 hgg).1 hb).trans hgg, rest⟩
theorem netOk_task {n : GNet} (h : netOk n = true) {j : Nat} (hj : j < n.tasks.length) : taskOk n.tasks[j] n.places n.tasks.length = true := by
  unfold netOk at h
  simp only [Bool.and_eq_true, List.all_eq_true] at h
  exact h.2.2 n.tasks[j] (List.getElem_mem hj)
theorem rises_mem {xs : List Int} {least most lo hi : Int} (h : rises xs least most lo hi = true) : ∀ i (hi' : i < xs.length), lo ≤ xs[i] ∧ xs[i] ≤ hi := fun i hi' => by
  unfold rises at h
  rw [Bool.and_eq_true] at h
  have h1 := allTo_get h.2 hi'
  unfold risesAt at h1
  rw [Bool.and_eq_true, inB_iff, getD_get hi'] at h1
  exact h1.1
theorem ok_clear {t : GTask} {places tasks : Int} (h : taskOk t places tasks = true) : ∀ i (hi' : i < t.clear.length), 2 ≤ t.clear[i] ∧ t.clear[i] ≤ places - 1 := by
  unfold taskOk at h
  simp only [Bool.and_eq_true] at h
  exact rises_mem h.2.1
theorem ok_clear_len {t : GTask} {places tasks : Int} (h : taskOk t places tasks = true) : (t.clear.length : Int) ≤ places := by
  unfold taskOk rises at h
  simp only [Bool.and_eq_true, inB_iff] at h
  omega
theorem ok_flows {t : GTask} {places tasks : Int} (h : taskOk t places tasks = true) (hp : places ≤ 8) : t.out.length ≤ 3 ∧ 1 ≤ t.out.length ∧ (t.out.map GFlow.to).Nodup ∧ ∀ y ∈ t.out.map GFlow.to, 1 ≤ y ∧ y ≤ places - 1 := by
  unfold taskOk at h
  simp only [Bool.and_eq_true] at h
  have hf := h.1.2.2.2.2
  unfold flowsOk at hf
  rw [Bool.and_eq_true, inB_iff] at hf
  have h1 := (flow_few t places hp t.out.length (Nat.le_refl _) hf.2).1
  rw [List.take_length] at h1
  refine ⟨by omega, by omega, h1, fun y hy => ?_⟩
  obtain ⟨f, hfm, rfl⟩ := List.mem_map.1 hy
  obtain ⟨i, hi, rfl⟩ := List.getElem_of_mem hfm
  have h2 := allTo_get hf.2 hi
  unfold flowAt at h2
  rw [Bool.and_eq_true, inB_iff, getD_get hi] at h2
  exact h2.1
theorem splTo_sub (t : GTask) (d : List Int) : ∀ k, k ≤ t.out.length → (splTo t d k).Sublist ((t.out.take k).map GFlow.to)
  | 0, _ => by simp [splTo]
  | k + 1, hk => by
    have ih := splTo_sub t d k (by omega)
    rw [List.take_succ_eq_append_getElem (by omega : k < t.out.length), List.map_append]
    show (splStep t d (splTo t d k) k).Sublist _
    unfold splStep
    rw [getD_get (by omega : k < t.out.length)]
    split
    · exact List.Sublist.append ih (List.Sublist.refl _)
    · exact ih.trans (List.sublist_append_left _ _)
theorem spl_fit {t : GTask} {places tasks : Int} (h : taskOk t places tasks = true) (hp : places ≤ 8) (d : List Int) :
    ((splTo t d t.out.length).map Int.toNat).Nodup ∧ ∀ y ∈ splTo t d t.out.length, 1 ≤ y ∧ y ≤ places - 1 := by
  have hs := splTo_sub t d t.out.length (Nat.le_refl _)
  rw [List.take_length] at hs
  obtain ⟨_, _, h1, h2⟩ := ok_flows h hp
  have h3 : ∀ y ∈ splTo t d t.out.length, 1 ≤ y ∧ y ≤ places - 1 := fun y hy => h2 y (hs.subset hy)
  refine ⟨?_, h3⟩
  refine List.pairwise_map.2 ((h1.sublist hs).imp_of_mem fun ha hb hne e => hne ?_)
  have := h3 _ ha
  have := h3 _ hb
  omega
theorem marksOk_iff {x : GNet} {ms : List Int} : marksOk x ms = true ↔ (ms.length : Int) = x.places ∧ okM ms := by
  unfold marksOk okM
  rw [Bool.and_eq_true, decide_eq_true_eq, Bool.not_eq_true', List.any_eq_false]
  simp [inB_iff]

/-- Marks behind a task that has ended. -/
def firOut (y : GTask) (ms d : List Int) : List Int := giveTo (clearTo ms y.clear) (splTo y d y.out.length)
def firOf (x : GNet) (ms : List Int) (t : Int) (d : List Int) : List Int × Bool :=
  if mrkOk x ms = true ∧ inB t 0 ((x.tasks.length : Int) - 1) = true ∧ datOk d = true then
    (if marksOk x (firOut (x.tasks.getD t.toNat task0) ms d) = true then (firOut (x.tasks.getD t.toNat task0) ms d, true) else ([], false))
  else ([], false)
theorem firOf_no {x : GNet} {ms d : List Int} {t : Int} (h : mrkOk x ms = false ∨ inB t 0 ((x.tasks.length : Int) - 1) = false ∨ datOk d = false) : firOf x ms t d = ([], false) := by
  unfold firOf
  rw [if_neg]
  rintro ⟨h1, h2, h3⟩
  rcases h with h | h | h <;> simp_all
theorem firOf_len (x : GNet) (ms : List Int) (t : Int) (d : List Int) (h : ms.length ≤ 1048576) : (firOf x ms t d).1.length ≤ 1048576 := by
  unfold firOf
  split
  · split
    · show (giveTo (clearTo ms _) _).length ≤ _
      rw [giveTo_len, clearTo_len]; exact h
    · simp
  · simp
/-- What FirGive leaves. -/
def GivesFir (r : List Int × Bool) (w : World) (e : Ending) (w' : World) : Prop := ∃ v, e = .returned (.tuple #[v, .bool r.2]) ∧ OwnV w' w.heap.size v r.1 ∧ Below w.heap.size w w'
theorem firOut_len (y : GTask) (ms d : List Int) : (firOut y ms d).length = ms.length := by rw [firOut, giveTo_len, clearTo_len]

end Go.Proofs.YtkoaaagmcjjimaaGreat
