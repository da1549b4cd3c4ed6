/- What a new rule does to the ways and the answers: the plain law. -/
import Derived.Test.YtnnhhmdeoedmmaaAddPlain
namespace Go.Proofs.Ytnnhhmdeoedmmaa
open Go.RowKit

theorem canAdd_parts {t : List GRule} {d : List Int} {x : GAsk} {a : Int} (h : canAdd t d x a = true) : treeOk t = true ∧ datOk d = true ∧ holds x d = true ∧ inB a 0 2 = true ∧ t.length ≠ 12 ∧ clash t d x = false := by
  simp [canAdd, addOk] at h
  exact ⟨h.1.1, h.1.2.1, h.1.2.2.1, h.1.2.2.2.1, h.1.2.2.2.2, h.2⟩
theorem patched_length (t : List GRule) (d : List Int) : (patched t d).length = t.length := by unfold patched; split <;> simp
theorem added_length (t : List GRule) (d : List Int) (x : GAsk) (a : Int) : (added t d x a).length = t.length + 1 := by unfold added; rw [List.length_append, patched_length]; rfl

theorem pos_nat' {t : List GRule} (h : treeOk t = true) {d : List Int} {n : Nat} (hp : pos t d n ≠ -1) : ∃ i : Nat, pos t d n = i ∧ n ≤ i ∧ i < t.length := by
  rcases pos_ok h d n with h1 | ⟨h1, h2⟩
  · exact absurd h1 hp
  · exact ⟨(pos t d n).toNat, by omega, by omega, by omega⟩

theorem pointed_parts (y : GRule) (h : Bool) (n : Int) : (pointed y h n).stone = y.stone ∧ (pointed y h n).ask = y.ask ∧ (pointed y h n).ans = y.ans ∧ (pointed y h n).yes = (if h then n else y.yes) ∧ (pointed y h n).no = (if h then y.no else n) := by
  cases h <;> exact ⟨rfl, rfl, rfl, rfl, rfl⟩
/-- The last place of a way: where it ends. -/
theorem way_last {t : List GRule} (h : treeOk t = true) (d : List Int) (h0 : 0 < t.length) : ∃ n i : Nat, n < t.length ∧ pos t d (n + 1) = -1 ∧ pos t d n = i ∧ i < t.length ∧ (∀ j, j < n + 1 → pos t d j ≠ -1) ∧ wayL t d = posTo t d (n + 1) ∧ asked t d = i := by
  obtain ⟨N, hN, hp, hall, hw⟩ := wayL_is h d
  have hN0 : N ≠ 0 := by
    intro h1
    subst h1
    unfold pos at hp
    rw [if_neg (by omega)] at hp
    cases hp
  obtain ⟨n, rfl⟩ : ∃ n, N = n + 1 := ⟨N - 1, by omega⟩
  have ha : asked t d = pos t d n := by
    unfold asked
    rw [hw, posTo_succ, lastOf_snoc]
  rcases pos_ok h d n with h1 | ⟨h1, h2⟩
  · exact absurd h1 (hall n (by omega))
  · exact ⟨n, (pos t d n).toNat, by omega, hp, by omega, by omega, hall, hw, by rw [ha]; omega⟩

section
variable {t : List GRule} {d : List Int} {x : GAsk} {a : Int}

/-- Rule i of the longer list, i an old one. -/
theorem rule_old {p : Nat} (hp : asked t d = p) (hpl : p < t.length) {i : Nat} (hi : i < t.length) : rule (added t d x a) (i : Int) = if i = p then pointed t[p] (lastHolds t d) t.length else t[i] := by
  rw [rule_get (by rw [added_length]; omega)]
  have h1 : (added t d x a)[i]'(by rw [added_length]; omega) = (patched t d)[i]'(by rw [patched_length]; exact hi) := by
    unfold added
    rw [List.getElem_append_left]
  rw [h1]
  have h2 : patched t d = t.set p (pointed t[p] (lastHolds t d) t.length) := by
    unfold patched
    rw [hp, if_neg (by omega), rule_get hpl, Int.toNat_natCast]
  by_cases hip : i = p
  · subst hip
    rw [if_pos rfl]
    simp [h2]
  · rw [if_neg hip]
    simp [h2, Ne.symm hip]
theorem rule_new : rule (added t d x a) (t.length : Int) = ⟨x, -1, -1, a, d⟩ := by
  rw [rule_get (by rw [added_length]; omega)]
  unfold added
  rw [List.getElem_append_right (by rw [patched_length]; exact Nat.le_refl _)]
  simp [patched_length]

/-- Where the old rules lead with d's last one and d's way of it: nowhere. -/
theorem last_end (hq : treeOk t = true) (h0 : 0 < t.length) {p : Nat} (hp : asked t d = p) (hpl : p < t.length) : (if lastHolds t d then t[p].yes else t[p].no) = -1 := by
  obtain ⟨n, i, hn, h1, h2, h3, _, _, h5⟩ := way_last hq d h0
  rw [hp] at h5
  have hip : p = i := by omega
  subst hip
  have h6 : pos t d (n + 1) = next t d (pos t d n) := rfl
  rw [h1, h2] at h6
  unfold next at h6
  rw [if_neg (by omega), rule_get hpl] at h6
  unfold lastHolds
  rw [hp, rule_get hpl]
  exact h6.symm

/-- What is asked next, of the longer list. -/
theorem next_old (_ : treeOk t = true) (_ : 0 < t.length) {p : Nat} (hp : asked t d = p) (hpl : p < t.length) (o : List Int) {i : Nat} (hi : i < t.length) :
    next (added t d x a) o (i : Int) = if i = p ∧ holds t[p].ask o = lastHolds t d then (t.length : Int) else next t o (i : Int) := by
  have h1 : ¬ ((i : Int) = -1) := by omega
  unfold next
  rw [if_neg h1, if_neg h1, rule_old hp hpl hi, rule_get hi]
  by_cases hip : i = p
  · subst hip
    rw [show (if i = i then pointed t[i] (lastHolds t d) (t.length : Int) else t[i]) = pointed t[i] (lastHolds t d) (t.length : Int) from if_pos rfl]
    obtain ⟨_, e2, _, e4, e5⟩ := pointed_parts t[i] (lastHolds t d) (t.length : Int)
    rw [e2, e4, e5]
    generalize lastHolds t d = lh
    generalize holds t[i].ask o = ho
    cases lh <;> cases ho <;> simp
  · have hc : ¬ (i = p ∧ holds t[p].ask o = lastHolds t d) := fun h => hip h.1
    rw [if_neg hip, if_neg hc]

/-- The longer list's way for any data. -/
theorem way_added (hq : treeOk t = true) (h0 : 0 < t.length) (h12 : t.length < 12) (o : List Int) :
    wayL (added t d x a) o = if asked t o = asked t d ∧ lastHolds t o = lastHolds t d then wayL t o ++ [(t.length : Int)] else wayL t o := by
  obtain ⟨n, i, hn, h1, h2, h3, hall, hw, ho⟩ := way_last hq o h0
  obtain ⟨p, hp, hpl⟩ := asked_some hq h0 d
  have hpos0 : pos (added t d x a) o 0 = pos t o 0 := by
    unfold pos
    rw [if_neg (by rw [added_length]; omega), if_neg (by omega)]
  have hend := last_end hq h0 hp hpl
  -- the old rules are asked as before
  have same : ∀ k, k ≤ n → pos (added t d x a) o k = pos t o k := by
    intro k
    induction k with
    | zero => exact fun _ => hpos0
    | succ k ih =>
      intro hk
      obtain ⟨j, hj, _, hjl⟩ := pos_nat' hq (hall k (by omega))
      show next (added t d x a) o (pos (added t d x a) o k) = next t o (pos t o k)
      rw [ih (by omega), hj, next_old hq h0 hp hpl o hjl]
      split
      · rename_i hc
        obtain ⟨rfl, hc2⟩ := hc
        exfalso
        have h7 : pos t o (k + 1) = next t o (pos t o k) := rfl
        rw [hj] at h7
        unfold next at h7
        rw [if_neg (by omega), rule_get hjl, hc2, hend] at h7
        exact hall (k + 1) (by omega) h7
      · rfl
  have hlo : lastHolds t o = holds t[i].ask o := by
    unfold lastHolds
    rw [ho, rule_get h3]
  have hstep : pos (added t d x a) o (n + 1) = if i = p ∧ holds t[p].ask o = lastHolds t d then (t.length : Int) else -1 := by
    show next (added t d x a) o (pos (added t d x a) o n) = _
    rw [same n (Nat.le_refl _), h2, next_old hq h0 hp hpl o h3]
    have h8 : next t o (i : Int) = -1 := by rw [← h2]; exact h1
    rw [h8]
  have hall' : ∀ j, j < n + 1 → pos (added t d x a) o j ≠ -1 := fun j hj => by rw [same j (by omega)]; exact hall j hj
  have hto : posTo (added t d x a) o (n + 1) = posTo t o (n + 1) := by
    unfold posTo
    apply List.map_congr_left
    intro j hj
    have := List.mem_range.1 hj
    exact same j (by omega)
  by_cases hc : i = p ∧ holds t[p].ask o = lastHolds t d
  · rw [if_pos hc] at hstep
    obtain ⟨rfl, hc2⟩ := hc
    have hcond : asked t o = asked t d ∧ lastHolds t o = lastHolds t d := ⟨by rw [ho, hp], by rw [hlo, hc2]⟩
    rw [if_pos hcond]
    have hlast : pos (added t d x a) o (n + 1 + 1) = -1 := by
      show next (added t d x a) o (pos (added t d x a) o (n + 1)) = -1
      rw [hstep]
      unfold next
      rw [if_neg (by omega), rule_new]
      split <;> rfl
    rw [way_eq hlast (fun j hj => by
      rcases (by omega : j < n + 1 ∨ j = n + 1) with h | h
      · exact hall' j h
      · rw [h, hstep]; omega) (by omega), posTo_succ, hto, hstep, hw]
  · rw [if_neg hc] at hstep
    have hcond : ¬ (asked t o = asked t d ∧ lastHolds t o = lastHolds t d) := by
      rintro ⟨e1, e2⟩
      rw [ho, hp] at e1
      have hip : i = p := by omega
      subst hip
      exact hc ⟨rfl, by rw [← hlo, e2]⟩
    rw [if_neg hcond, way_eq hstep hall' (by omega), hto, hw]

theorem sum_set (f : GRule → Nat) : ∀ (t : List GRule) (p : Nat) (hp : p < t.length) (r : GRule), ((t.set p r).map f).sum + f t[p] = (t.map f).sum + f r
  | r0 :: t, 0, _, r => by
    simp only [List.set_cons_zero, List.map_cons, List.sum_cons, List.getElem_cons_zero]
    omega
  | r0 :: t, p + 1, hp, r => by
    have h := sum_set f t p (by simpa using hp) r
    simp only [List.set_cons_succ, List.map_cons, List.sum_cons, List.getElem_cons_succ]
    omega
theorem named_all (t : List GRule) (j : Nat) : named t t.length j = (t.map fun r => hit r.yes j + hit r.no j).sum := by unfold named; rw [List.take_length]
theorem hit_neg (j : Nat) : hit (-1) j = 0 := by unfold hit; rw [if_neg (by omega)]
theorem named_big (hq : treeOk t = true) : ∀ k, k ≤ t.length → named t k t.length = 0 := fun k hk => by
  induction k with
  | zero => exact named_zero _ _
  | succ k ih =>
    obtain ⟨_, _, hy, hn, _⟩ := treeOk_at hq (i := k) (by omega)
    have big : ∀ y, nextOk y k t.length = true → hit y t.length = 0 := fun y h => by
      unfold hit
      rw [if_neg]
      rcases nextOk_pos h with h1 | ⟨_, h1⟩ <;> omega
    rw [named_succ t k _ hk, ih (by omega), big _ hy, big _ hn]
theorem named_added (hq : treeOk t = true) (h0 : 0 < t.length) (j : Nat) : named (added t d x a) (added t d x a).length j = named t t.length j + (if j = t.length then 1 else 0) := by
  obtain ⟨p, hp, hpl⟩ := asked_some hq h0 d
  have hend := last_end hq h0 hp hpl
  have h2 : patched t d = t.set p (pointed t[p] (lastHolds t d) t.length) := by
    unfold patched
    rw [hp, if_neg (by omega), rule_get hpl, Int.toNat_natCast]
  have hs := sum_set (fun r => hit r.yes j + hit r.no j) t p hpl (pointed t[p] (lastHolds t d) t.length)
  obtain ⟨_, _, _, e4, e5⟩ := pointed_parts t[p] (lastHolds t d) (t.length : Int)
  rw [named_all, named_all]
  unfold added
  rw [List.map_append, List.sum_append, h2]
  simp only [List.map_cons, List.map_nil, List.sum_cons, List.sum_nil, hit_neg, Nat.add_zero]
  have hh : hit (t.length : Int) j = if j = t.length then 1 else 0 := by
    unfold hit
    by_cases h : j = t.length
    · rw [if_pos h, if_pos (by omega)]
    · rw [if_neg h, if_neg (by omega)]
  rw [e4, e5] at hs
  cases hl : lastHolds t d with
  | true =>
    rw [hl] at hs hend
    have hend' : t[p].yes = -1 := hend
    rw [hend', hit_neg] at hs
    simp only [if_true] at hs
    rw [hh] at hs
    omega
  | false =>
    rw [hl] at hs hend
    have hend' : t[p].no = -1 := hend
    rw [hend', hit_neg] at hs
    simp only [Bool.false_eq_true, if_false] at hs
    rw [hh] at hs
    omega

theorem allTo_all {p : Nat → Bool} {n : Nat} (h : ∀ i, i < n → p i = true) : allTo p n = true := by
  unfold allTo
  rw [List.all_eq_true]
  intro i hi
  exact h i (List.mem_range.1 hi)
theorem nextOk_more {y : Int} {i n : Nat} (h : nextOk y i n = true) : nextOk y i (n + 1) = true := by
  simp [nextOk, inB] at h ⊢
  omega

/-- The longer list is a list of rules that are ok. -/
theorem treeOk_added (h : canAdd t d x a = true) : treeOk (added t d x a) = true := by
  obtain ⟨hq, hd, hx, ha, h12, _⟩ := canAdd_parts h
  have hlen := treeOk_len hq
  have hal := added_length t d x a
  unfold treeOk
  rw [Bool.and_eq_true]
  refine ⟨by simp [hal]; omega, allTo_all fun i hi => ?_⟩
  rw [Bool.and_eq_true]
  rw [hal] at hi
  rcases Nat.eq_zero_or_pos t.length with h0 | h0
  · have ht : t = [] := List.eq_nil_of_length_eq_zero h0
    subst ht
    have hi0 : i = 0 := by simpa using hi
    subst hi0
    have hP : patched [] d = [] := by
      unfold patched
      split <;> simp
    have hA : added [] d x a = [⟨x, -1, -1, a, d⟩] := by unfold added; rw [hP]; rfl
    rw [hA]
    constructor
    · simp [ruleAt, hx, ha, nextOk]
    · simp [onceAt, named, hit]
  · obtain ⟨p, hp, hpl⟩ := asked_some hq h0 d
    have hr : (added t d x a).getD i rule0 = rule (added t d x a) (i : Int) := by unfold rule; rw [Int.toNat_natCast]
    constructor
    · unfold ruleAt
      rw [hr, hal]
      by_cases hin : i < t.length
      · rw [rule_old hp hpl hin]
        obtain ⟨g1, g2, g3, g4, _⟩ := treeOk_at hq hin
        by_cases hip : i = p
        · subst hip
          rw [if_pos rfl]
          obtain ⟨e1, e2, e3, e4, e5⟩ := pointed_parts t[i] (lastHolds t d) (t.length : Int)
          have hnn : nextOk (t.length : Int) i (t.length + 1) = true := by simp [nextOk, inB]; omega
          rw [e1, e2, e3, e4, e5, g1, g2]
          cases lastHolds t d
          · simp [hnn, nextOk_more g3]
          · simp [hnn, nextOk_more g4]
        · rw [if_neg hip, g1, g2, nextOk_more g3, nextOk_more g4]; rfl
      · have hie : i = t.length := by omega
        subst hie
        rw [rule_new]
        simp [hx, ha, nextOk]
    · unfold onceAt
      rw [named_added hq h0]
      by_cases hin : i < t.length
      · rw [if_neg (by omega)]
        have := (treeOk_at hq hin).2.2.2.2
        rw [Nat.add_zero, this]; simp
      · have hie : i = t.length := by omega
        subst hie
        rw [if_pos rfl, named_big hq t.length (Nat.le_refl _), if_neg (by omega)]; simp

/-- Data end where those of the new rule did. -/
def meets (t : List GRule) (d o : List Int) : Prop := t.length = 0 ∨ (asked t o = asked t d ∧ lastHolds t o = lastHolds t d)
instance (t : List GRule) (d o : List Int) : Decidable (meets t d o) := by unfold meets; infer_instance

theorem way_meets (h : canAdd t d x a = true) (o : List Int) : wayL (added t d x a) o = if meets t d o then wayL t o ++ [(t.length : Int)] else wayL t o := by
  obtain ⟨hq, hd, hx, ha, h12, _⟩ := canAdd_parts h
  have hlen := treeOk_len hq
  rcases Nat.eq_zero_or_pos t.length with h0 | h0
  · have ht : t = [] := List.eq_nil_of_length_eq_zero h0
    subst ht
    have hP : patched [] d = [] := by
      unfold patched
      split <;> simp
    have hA : added [] d x a = [⟨x, -1, -1, a, d⟩] := by unfold added; rw [hP]; rfl
    rw [if_pos (.inl rfl), hA]
    have hp0 : pos [⟨x, -1, -1, a, d⟩] o 0 = 0 := rfl
    have hp1 : pos [⟨x, -1, -1, a, d⟩] o 1 = -1 := by
      show next _ o (pos _ o 0) = -1
      rw [hp0]
      unfold next
      rw [if_neg (by decide)]
      split <;> rfl
    rw [way_eq (n := 1) hp1 (fun j hj => by
      have : j = 0 := by omega
      rw [this, hp0]; decide) (by omega)]
    rw [way_eq (n := 0) (t := []) (by rfl) (fun j hj => absurd hj (Nat.not_lt_zero _)) (by omega)]
    simp [posTo, hp0]
  · rw [way_added hq h0 (by omega) o]
    by_cases hm : asked t o = asked t d ∧ lastHolds t o = lastHolds t d
    · rw [if_pos hm, if_pos (.inr hm)]
    · rw [if_neg hm, if_neg]
      rintro (h1 | h1)
      · omega
      · exact hm h1

/-- Old rules hold, and answer, as before. -/
theorem rule_asks (h : canAdd t d x a = true) {i : Nat} (hi : i < t.length) : (rule (added t d x a) (i : Int)).ask = (rule t (i : Int)).ask ∧ (rule (added t d x a) (i : Int)).ans = (rule t (i : Int)).ans ∧ (rule (added t d x a) (i : Int)).stone = (rule t (i : Int)).stone := by
  obtain ⟨hq, _⟩ := canAdd_parts h
  obtain ⟨p, hp, hpl⟩ := asked_some hq (by omega) d
  rw [rule_old hp hpl hi, rule_get hi]
  split
  · rename_i hip
    subst hip
    obtain ⟨e1, e2, e3, _, _⟩ := pointed_parts t[i] (lastHolds t d) (t.length : Int)
    exact ⟨e2, e3, e1⟩
  · exact ⟨rfl, rfl, rfl⟩
theorem heldOf_old (h : canAdd t d x a = true) (o : List Int) (l : List Int) (hl : ∀ b ∈ l, ∃ i : Nat, b = i ∧ i < t.length) : heldOf (added t d x a) o l = heldOf t o l := by
  unfold heldOf
  have key : ∀ (l : List Int) (z : Int), (∀ b ∈ l, ∃ i : Nat, b = i ∧ i < t.length) → l.foldl (fun h b => if holds (rule (added t d x a) b).ask o then b else h) z = l.foldl (fun h b => if holds (rule t b).ask o then b else h) z := by
    intro l
    induction l with
    | nil => exact fun _ _ => rfl
    | cons b l ih =>
      intro z hb
      obtain ⟨i, rfl, hi⟩ := hb b (by simp)
      simp only [List.foldl_cons]
      rw [(rule_asks h hi).1]
      exact ih _ fun c hc => hb c (by simp [hc])
  exact key l (-1) hl

/-- The answer of the longer list. -/
theorem ask_added (h : canAdd t d x a = true) {o : List Int} (ho : datOk o = true) : rdrAsk (added t d x a) o = if meets t d o ∧ holds x o = true then a else rdrAsk t o := by
  obtain ⟨hq, _, _, _, _, _⟩ := canAdd_parts h
  have hqa := treeOk_added h
  have hin := wayL_in hq o
  have hw := way_meets h o
  have hr1 : rdrHeld (added t d x a) o = heldOf (added t d x a) o (wayL (added t d x a) o) := by
    unfold rdrHeld rdrWay
    rw [hqa, ho]; rfl
  have hr2 : rdrHeld t o = heldOf t o (wayL t o) := by
    unfold rdrHeld rdrWay
    rw [hq, ho]; rfl
  have hold : heldOf (added t d x a) o (wayL t o) = heldOf t o (wayL t o) := heldOf_old h o _ hin
  have hans : ∀ z : Int, (z = -1 ∨ ∃ i : Nat, z = i ∧ i < t.length) → (if z = -1 then 0 else (rule (added t d x a) z).ans) = (if z = -1 then 0 else (rule t z).ans) := by
    rintro z (rfl | ⟨i, rfl, hi⟩)
    · rfl
    · rw [(rule_asks h hi).2.1]
  have hz := heldOf_in (t := t) (d := o) (wayL t o) hin
  unfold rdrAsk
  rw [hr1, hr2, hw]
  by_cases hm : meets t d o
  · rw [if_pos hm, heldOf_snoc, rule_new]
    by_cases hxo : holds x o = true
    · rw [if_pos (show meets t d o ∧ holds x o = true from ⟨hm, hxo⟩)]
      simp only [hxo, if_true]
      rw [if_neg (show ¬ (t.length : Int) = -1 by omega), rule_new]
    · rw [if_neg (show ¬ (meets t d o ∧ holds x o = true) from fun hc => hxo hc.2)]
      simp only [if_neg hxo]
      rw [hold]
      exact hans _ hz
  · rw [if_neg hm, if_neg (show ¬ (meets t d o ∧ holds x o = true) from fun hc => hm hc.1), hold]
    exact hans _ hz

theorem meets_self (t : List GRule) (d : List Int) : meets t d d := .inr ⟨rfl, rfl⟩
theorem clash_no (_ : treeOk t = true) (hc : clash t d x = false) {i : Nat} (hi : i < t.length) : ¬ (meets t d t[i].stone ∧ holds x t[i].stone = true) := by
  rintro ⟨hm, hh⟩
  have h1 : (sameL t t[i].stone d && holds x t[i].stone) = true := by
    rw [hh, Bool.and_true]
    rcases hm with hm | ⟨h2, h3⟩
    · omega
    · unfold sameL
      unfold lastHolds at h3
      rw [h2] at h3 ⊢
      rw [h3]
      simp
  have h2 : clash t d x = true := List.any_eq_true.2 ⟨t[i], List.getElem_mem hi, h1⟩
  rw [hc] at h2
  cases h2
/-- Old data have their old answers. -/
theorem ask_stone (h : canAdd t d x a = true) {i : Nat} (hi : i < t.length) : rdrAsk (added t d x a) t[i].stone = rdrAsk t t[i].stone := by
  obtain ⟨hq, _, _, _, _, hc⟩ := canAdd_parts h
  rw [ask_added h (holds_dat (treeOk_at hq hi).1).2, if_neg (clash_no hq hc hi)]
theorem ask_new (h : canAdd t d x a = true) : rdrAsk (added t d x a) d = a := by
  obtain ⟨_, hd, hx, _⟩ := canAdd_parts h
  rw [ask_added h hd, if_pos ⟨meets_self t d, hx⟩]
/-- Who is answered otherwise has come to the new rule, and it holds. -/
theorem ask_other (h : canAdd t d x a = true) {o : List Int} (ho : datOk o = true) (hne : rdrAsk (added t d x a) o ≠ rdrAsk t o) : (t.length : Int) ∈ rdrWay (added t d x a) o ∧ holds x o = true := by
  rw [ask_added h ho] at hne
  by_cases hm : meets t d o ∧ holds x o = true
  · refine ⟨?_, hm.2⟩
    unfold rdrWay
    rw [treeOk_added h, ho]
    simp only [Bool.and_self, if_true]
    rw [way_meets h o, if_pos hm.1]
    simp
  · rw [if_neg hm] at hne
    exact absurd rfl hne

/-- Each rule answers its ownT data. -/
def ownT (t : List GRule) : Prop := treeOk t = true ∧ ∀ r ∈ t, rdrAsk t r.stone = r.ans
theorem ownT_nil : ownT [] := ⟨rfl, fun r hr => by cases hr⟩
theorem ownT_added (ht : ownT t) (h : canAdd t d x a = true) : ownT (added t d x a) := by
  refine ⟨treeOk_added h, fun r hr => ?_⟩
  obtain ⟨i, hi, rfl⟩ := List.mem_iff_getElem.1 hr
  rw [added_length] at hi
  have hri : (added t d x a)[i]'(by rw [added_length]; exact hi) = rule (added t d x a) (i : Int) := (rule_get (by rw [added_length]; exact hi)).symm
  rw [hri]
  by_cases hin : i < t.length
  · obtain ⟨_, e2, e3⟩ := rule_asks h hin
    rw [e3, e2, rule_get hin, ask_stone h hin]
    exact ht.2 _ (List.getElem_mem hin)
  · have hie : i = t.length := by omega
    subst hie
    rw [rule_new]
    exact ask_new h
theorem ownT_add (ht : ownT t) : ownT (rdrAdd t d x a) := by
  unfold rdrAdd
  split
  · rename_i h
    exact ownT_added ht h
  · exact ht
end
end Go.Proofs.Ytnnhhmdeoedmmaa
