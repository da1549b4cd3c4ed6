/- Marks put and taken away, as plain lists. -/
namespace Go.Proofs.Ytkkjljpokannkaa

def giveAt (ms : List Int) (p : Int) : List Int := ms.set p.toNat (ms.getD p.toNat 0 + 1)
def giveTo (ms ps : List Int) : List Int := ps.foldl giveAt ms
def clearAt (ms : List Int) (p : Int) : List Int := ms.set p.toNat 0
def clearTo (ms ps : List Int) : List Int := ps.foldl clearAt ms
def okM (ms : List Int) : Prop := ∀ z ∈ ms, 0 ≤ z ∧ z ≤ 4

theorem giveTo_len : ∀ (ps ms : List Int), (giveTo ms ps).length = ms.length
  | [], _ => rfl
  | p :: ps, ms => by
    show (giveTo (giveAt ms p) ps).length = _
    rw [giveTo_len ps]
    simp [giveAt]
theorem clearTo_len : ∀ (ps ms : List Int), (clearTo ms ps).length = ms.length
  | [], _ => rfl
  | p :: ps, ms => by
    show (clearTo (clearAt ms p) ps).length = _
    rw [clearTo_len ps]
    simp [clearAt]
theorem giveTo_snoc (ms ps : List Int) (k : Nat) (hk : k < ps.length) : giveTo ms (ps.take (k + 1)) = giveAt (giveTo ms (ps.take k)) ps[k] := by
  unfold giveTo
  rw [List.take_succ_eq_append_getElem hk, List.foldl_append]
  rfl
theorem clearTo_snoc (ms ps : List Int) (k : Nat) (hk : k < ps.length) : clearTo ms (ps.take (k + 1)) = clearAt (clearTo ms (ps.take k)) ps[k] := by
  unfold clearTo
  rw [List.take_succ_eq_append_getElem hk, List.foldl_append]
  rfl
theorem getD_set (ms : List Int) (i j : Nat) (z : Int) (hi : i < ms.length) : (ms.set j z).getD i 0 = if j = i then z else ms.getD i 0 := by
  simp only [List.getD_eq_getElem?_getD, List.getElem?_set]
  split
  · rename_i h
    subst h
    rw [if_pos hi]; rfl
  · rfl
/-- At each place there are as many more as were put there. -/
theorem giveTo_get : ∀ (ps ms : List Int) (i : Nat), i < ms.length → (giveTo ms ps).getD i 0 = ms.getD i 0 + (ps.countP fun p => p.toNat = i : Nat)
  | [], ms, i, _ => by simp [giveTo]
  | p :: ps, ms, i, hi => by
    show (giveTo (giveAt ms p) ps).getD i 0 = _
    rw [giveTo_get ps (giveAt ms p) i (by simp [giveAt]; exact hi)]
    unfold giveAt
    rw [getD_set ms i _ _ hi, List.countP_cons]
    by_cases h : p.toNat = i
    · simp [h]; omega
    · simp [h]
theorem clearTo_ok : ∀ (ps ms : List Int), okM ms → okM (clearTo ms ps)
  | [], _, h => h
  | p :: ps, ms, h => by
    refine clearTo_ok ps (clearAt ms p) fun z hz => ?_
    rcases List.mem_or_eq_of_mem_set hz with h1 | h1
    · exact h z h1
    · subst h1; omega
theorem okM_at {ms : List Int} (h : okM ms) (i : Nat) : 0 ≤ ms.getD i 0 ∧ ms.getD i 0 ≤ 4 := by
  rw [List.getD_eq_getElem?_getD]
  cases hq : ms[i]? with
  | none => simp
  | some z => exact h z (List.mem_of_getElem? hq)
theorem okM_of {ms : List Int} (h : ∀ i, i < ms.length → 0 ≤ ms.getD i 0 ∧ ms.getD i 0 ≤ 4) : okM ms := fun z hz => by
  obtain ⟨i, hi, he⟩ := List.getElem_of_mem hz
  have h1 := h i hi
  rw [List.getD_eq_getElem?_getD, List.getElem?_eq_getElem hi] at h1
  simp only [Option.getD_some] at h1
  rw [he] at h1
  exact h1
theorem giveTo_bd {ms : List Int} (h : okM ms) (ps : List Int) (i : Nat) (hi : i < ms.length) : 0 ≤ (giveTo ms ps).getD i 0 ∧ (giveTo ms ps).getD i 0 ≤ 4 + ps.length := by
  have h1 := okM_at h i
  have h2 := giveTo_get ps ms i hi
  have h3 : (ps.countP fun p => decide (p.toNat = i)) ≤ ps.length := List.countP_le_length
  omega
theorem count_take {ps : List Int} (hn : (ps.map Int.toNat).Nodup) {k : Nat} (hk : k < ps.length) : ((ps.take k).countP fun p => decide (p.toNat = ps[k].toNat)) = 0 := by
  rw [List.countP_eq_zero]
  intro p hp hq
  obtain ⟨i, hi, he⟩ := List.getElem_of_mem hp
  simp only [decide_eq_true_eq] at hq
  rw [List.getElem_take] at he
  have hik : i < k := by simp at hi; omega
  have h := (List.pairwise_iff_getElem.1 hn) i k (by simp; omega) (by simp; omega) hik
  simp only [List.getElem_map] at h
  rw [he] at h
  exact h hq
theorem count_one {ps : List Int} (hn : (ps.map Int.toNat).Nodup) (i : Nat) : (ps.countP fun p => decide (p.toNat = i)) ≤ 1 := by
  induction ps with
  | nil => simp
  | cons p ps ih =>
    rw [List.map_cons, List.nodup_cons] at hn
    rw [List.countP_cons]
    have := ih hn.2
    by_cases h : p.toNat = i
    · have h0 : (ps.countP fun p => decide (p.toNat = i)) = 0 := by
        rw [List.countP_eq_zero]
        intro q hq hq2
        simp only [decide_eq_true_eq] at hq2
        exact hn.1 (by rw [h, ← hq2]; exact List.mem_map_of_mem hq)
      simp [h, h0]
    · simp [h]; exact this
/-- What lies at the place that comes next has not been turned. -/
theorem giveTo_next {ms ps : List Int} (hn : (ps.map Int.toNat).Nodup) {k : Nat} (hk : k < ps.length) (hi : ps[k].toNat < ms.length) : (giveTo ms (ps.take k)).getD ps[k].toNat 0 = ms.getD ps[k].toNat 0 := by
  rw [giveTo_get _ _ _ hi, count_take hn hk]; simp
/-- One place is full: too many. -/
theorem give_fail {ms ps : List Int} {k : Nat} (hk : k < ps.length) (hi : ps[k].toNat < ms.length) (h4 : ms.getD ps[k].toNat 0 = 4) : ¬ okM (giveTo ms ps) := fun ho => by
  have h1 := (okM_at ho ps[k].toNat).2
  rw [giveTo_get _ _ _ hi, h4] at h1
  have h2 : 0 < ps.countP fun p => decide (p.toNat = ps[k].toNat) := by
    rw [List.countP_pos_iff]
    exact ⟨ps[k], List.getElem_mem hk, by simp⟩
  omega
theorem give_fits {ms ps : List Int} (h : okM ms) (hn : (ps.map Int.toNat).Nodup) (h4 : ∀ k (hk : k < ps.length), ms.getD ps[k].toNat 0 ≠ 4) : okM (giveTo ms ps) := by
  refine okM_of fun i hi => ?_
  rw [giveTo_len] at hi
  rw [giveTo_get _ _ _ hi]
  have h1 := okM_at h i
  have h2 := count_one hn i
  by_cases hc : (ps.countP fun p => decide (p.toNat = i)) = 0
  · rw [hc]; omega
  · have h3 : 0 < ps.countP fun p => decide (p.toNat = i) := by omega
    rw [List.countP_pos_iff] at h3
    obtain ⟨p, hp, hq⟩ := h3
    obtain ⟨k, hk, he⟩ := List.getElem_of_mem hp
    have h5 := h4 k hk
    simp only [decide_eq_true_eq] at hq
    rw [he, hq] at h5
    omega
/-- Sums. -/
theorem sum_set : ∀ (ms : List Int) (i : Nat) (z : Int), i < ms.length → (ms.set i z).sum = ms.sum - ms.getD i 0 + z
  | [], i, _, h => by simp at h
  | m :: ms, 0, z, _ => by simp; omega
  | m :: ms, i + 1, z, h => by
    have ih := sum_set ms i z (by simpa using h)
    simp only [List.set_cons_succ, List.sum_cons, ih]
    simp; omega
theorem giveTo_sum : ∀ (ps ms : List Int), (∀ p ∈ ps, p.toNat < ms.length) → (giveTo ms ps).sum = ms.sum + ps.length
  | [], _, _ => by simp [giveTo]
  | p :: ps, ms, h => by
    show (giveTo (giveAt ms p) ps).sum = _
    rw [giveTo_sum ps (giveAt ms p) (fun q hq => by simp [giveAt]; exact h q (by simp [hq]))]
    unfold giveAt
    rw [sum_set _ _ _ (h p (by simp))]
    simp; omega
theorem clearTo_sum : ∀ (ps ms : List Int), okM ms → (clearTo ms ps).sum ≤ ms.sum
  | [], _, _ => Int.le_refl _
  | p :: ps, ms, h => by
    have h1 := clearTo_sum ps (clearAt ms p) (clearTo_ok [p] ms h)
    have h2 : (clearAt ms p).sum ≤ ms.sum := by
      unfold clearAt
      by_cases hp : p.toNat < ms.length
      · rw [sum_set _ _ _ hp]
        have := (okM_at h p.toNat).1
        omega
      · rw [List.set_eq_of_length_le (by omega)]
        exact Int.le_refl _
    exact Int.le_trans h1 h2
end Go.Proofs.Ytkkjljpokannkaa
