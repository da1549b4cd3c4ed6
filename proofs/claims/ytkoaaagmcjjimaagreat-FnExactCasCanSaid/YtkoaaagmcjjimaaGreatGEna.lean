/- What can be come to from some places of a net: a sweep over its tasks, over and over; and that a walk from many places at once comes to just what walks from each come to. Plain. -/
import Derived.Test.YtkoaaagmcjjimaaGreatBusyOk
import Derived.Test.YtkoaaagmcjjimaaGreatMrkOk
import Derived.Test.YtkoaaagmcjjimaaGreatGBase
import Derived.Test.YtkoaaagmcjjimaaGreatFir
import Derived.Test.YtkoaaagmcjjimaaGreatAny0
import Derived.Test.YtkoaaagmcjjimaaGreatBusyImpl
namespace Go.Proofs.YtkoaaagmcjjimaaGreat

def bAt (m : List Bool) (i : Nat) : Bool := m.getD i false
def markAll (m : List Bool) (fs : List GFlow) : List Bool := fs.foldl (fun m f => m.set f.to.toNat true) m
def fires (m : List Bool) (t : GTask) : Bool := t.inn.any fun p => bAt m p.toNat
def stepT (x : GNet) (but : Int) (m : List Bool) (k : Nat) : List Bool :=
  if (k : Int) = but then m else if fires m (x.tasks.getD k task0) = true then markAll m (x.tasks.getD k task0).out else m
def sweepTo (x : GNet) (but : Int) (m : List Bool) : Nat → List Bool
  | 0 => m
  | k + 1 => stepT x but (sweepTo x but m k) k
def sweep (x : GNet) (but : Int) (m : List Bool) : List Bool := sweepTo x but m x.tasks.length
def spread (x : GNet) (but : Int) (m : List Bool) : Nat → List Bool
  | 0 => m
  | k + 1 => sweep x but (spread x but m k)
def cl (x : GNet) (but : Int) (m : List Bool) : List Bool := spread x but m x.places.toNat
def LeB (m m' : List Bool) : Prop := ∀ i, bAt m i = true → bAt m' i = true
def cntF (m : List Bool) : Nat := m.countP (fun b => !b)
def single (n p : Nat) : List Bool := (List.replicate n false).set p true
def ClosedB (x : GNet) (but : Int) (c : List Bool) : Prop :=
  ∀ k, k < x.tasks.length → (k : Int) ≠ but → fires c (x.tasks.getD k task0) = true → ∀ f ∈ (x.tasks.getD k task0).out, f.to.toNat < c.length → bAt c f.to.toNat = true

theorem bAt_lt {m : List Bool} {i : Nat} (h : bAt m i = true) : i < m.length := by
  by_cases hi : i < m.length
  · exact hi
  · unfold bAt at h
    rw [List.getD_eq_getElem?_getD, List.getElem?_eq_none (by omega)] at h
    cases h
theorem bAt_get {m : List Bool} {i : Nat} (h : i < m.length) : bAt m i = m[i] := by
  unfold bAt
  rw [List.getD_eq_getElem?_getD, List.getElem?_eq_getElem h]; rfl
theorem bAt_set (m : List Bool) (j i : Nat) : bAt (m.set j true) i = true ↔ bAt m i = true ∨ (i = j ∧ i < m.length) := by
  unfold bAt
  rw [List.getD_eq_getElem?_getD, List.getD_eq_getElem?_getD, List.getElem?_set]
  by_cases h : j = i
  · subst h
    by_cases h2 : j < m.length
    · simp [h2]
    · simp [h2]
  · have h' : ¬ i = j := fun e => h e.symm
    simp [h, h']
theorem markAll_len : ∀ (fs : List GFlow) (m : List Bool), (markAll m fs).length = m.length
  | [], m => rfl
  | f :: fs, m => by
    show (markAll (m.set f.to.toNat true) fs).length = _
    rw [markAll_len fs]; simp
theorem bAt_markAll : ∀ (fs : List GFlow) (m : List Bool) (i : Nat), bAt (markAll m fs) i = true ↔ bAt m i = true ∨ (i < m.length ∧ ∃ f ∈ fs, f.to.toNat = i)
  | [], m, i => by simp [markAll]
  | f :: fs, m, i => by
    show bAt (markAll (m.set f.to.toNat true) fs) i = true ↔ _
    rw [bAt_markAll fs, bAt_set, List.length_set]
    constructor
    · rintro ((h | ⟨h1, h2⟩) | ⟨h1, g, hg, h2⟩)
      · exact .inl h
      · exact .inr ⟨h2, f, by simp, h1.symm⟩
      · exact .inr ⟨h1, g, by simp [hg], h2⟩
    · rintro (h | ⟨h1, g, hg, h2⟩)
      · exact .inl (.inl h)
      · rcases List.mem_cons.1 hg with rfl | hg
        · exact .inl (.inr ⟨h2.symm, h1⟩)
        · exact .inr ⟨h1, g, hg, h2⟩
theorem markAll_snoc (m : List Bool) (fs : List GFlow) (k : Nat) (hk : k < fs.length) : markAll m (fs.take (k + 1)) = (markAll m (fs.take k)).set fs[k].to.toNat true := by
  unfold markAll
  rw [List.take_succ_eq_append_getElem hk, List.foldl_append]; rfl
theorem stepT_len (x : GNet) (but : Int) (m : List Bool) (k : Nat) : (stepT x but m k).length = m.length := by
  unfold stepT
  split
  · rfl
  · split
    · exact markAll_len _ _
    · rfl
theorem sweepTo_len (x : GNet) (but : Int) (m : List Bool) : ∀ k, (sweepTo x but m k).length = m.length
  | 0 => rfl
  | k + 1 => by rw [sweepTo, stepT_len, sweepTo_len x but m k]
theorem spread_len (x : GNet) (but : Int) (m : List Bool) : ∀ k, (spread x but m k).length = m.length
  | 0 => rfl
  | k + 1 => by rw [spread, sweep, sweepTo_len, spread_len x but m k]
theorem cl_len (x : GNet) (but : Int) (m : List Bool) : (cl x but m).length = m.length := spread_len _ _ _ _
theorem stepT_iff (x : GNet) (but : Int) (m : List Bool) (k i : Nat) :
    bAt (stepT x but m k) i = true ↔ bAt m i = true ∨ ((k : Int) ≠ but ∧ fires m (x.tasks.getD k task0) = true ∧ i < m.length ∧ ∃ f ∈ (x.tasks.getD k task0).out, f.to.toNat = i) := by
  unfold stepT
  by_cases h : (k : Int) = but
  · simp [h]
  · rw [if_neg h]
    by_cases h2 : fires m (x.tasks.getD k task0) = true
    · rw [if_pos h2, bAt_markAll]
      constructor
      · rintro (h3 | h3)
        · exact .inl h3
        · exact .inr ⟨h, h2, h3⟩
      · rintro (h3 | ⟨_, _, h3⟩)
        · exact .inl h3
        · exact .inr h3
    · rw [if_neg h2]
      constructor
      · exact .inl
      · rintro (h3 | ⟨_, h3, _⟩)
        · exact h3
        · exact absurd h3 h2
theorem LeB.refl (m : List Bool) : LeB m m := fun _ h => h
theorem LeB.trans {a b c : List Bool} (h : LeB a b) (k : LeB b c) : LeB a c := fun i hi => k i (h i hi)
theorem LeB.eq {a b : List Bool} (h : LeB a b) (k : LeB b a) (hl : a.length = b.length) : a = b := by
  apply List.ext_getElem hl
  intro i h1 h2
  have e1 := h i
  have e2 := k i
  rw [bAt_get h1, bAt_get h2] at e1 e2
  rw [Bool.eq_iff_iff]
  exact ⟨e1, e2⟩
theorem fires_mono {m m' : List Bool} {t : GTask} (h : LeB m m') (hf : fires m t = true) : fires m' t = true := by
  unfold fires at *
  rw [List.any_eq_true] at *
  obtain ⟨p, hp, hb⟩ := hf
  exact ⟨p, hp, h _ hb⟩
theorem le_stepT (x : GNet) (but : Int) (m : List Bool) (k : Nat) : LeB m (stepT x but m k) := fun i h => (stepT_iff x but m k i).2 (.inl h)
theorem le_sweepTo (x : GNet) (but : Int) (m : List Bool) (j : Nat) : ∀ d, LeB (sweepTo x but m j) (sweepTo x but m (j + d))
  | 0 => LeB.refl _
  | d + 1 => (le_sweepTo x but m j d).trans (le_stepT _ _ _ _)
theorem le_sweep (x : GNet) (but : Int) (m : List Bool) : LeB m (sweep x but m) := by
  have := le_sweepTo x but m 0 x.tasks.length
  rw [Nat.zero_add] at this
  exact this
theorem le_spread (x : GNet) (but : Int) (m : List Bool) : ∀ k, LeB m (spread x but m k)
  | 0 => LeB.refl _
  | k + 1 => (le_spread x but m k).trans (le_sweep _ _ _)
theorem stepT_min {x : GNet} {but : Int} {m c : List Bool} (h : LeB m c) (hl : m.length = c.length) (hc : ClosedB x but c) {k : Nat} (hk : k < x.tasks.length) : LeB (stepT x but m k) c := fun i hi => by
  rcases (stepT_iff x but m k i).1 hi with h1 | ⟨h1, h2, h3, f, hf, rfl⟩
  · exact h i h1
  · exact hc k hk h1 (fires_mono h h2) f hf (by omega)
theorem sweepTo_min {x : GNet} {but : Int} {m c : List Bool} (h : LeB m c) (hl : m.length = c.length) (hc : ClosedB x but c) : ∀ k, k ≤ x.tasks.length → LeB (sweepTo x but m k) c
  | 0, _ => h
  | k + 1, hk => stepT_min (sweepTo_min h hl hc k (by omega)) (by rw [sweepTo_len]; exact hl) hc hk
theorem spread_min {x : GNet} {but : Int} {m c : List Bool} (h : LeB m c) (hl : m.length = c.length) (hc : ClosedB x but c) : ∀ k, LeB (spread x but m k) c
  | 0 => h
  | k + 1 => sweepTo_min (spread_min h hl hc k) (by rw [spread_len]; exact hl) hc _ (Nat.le_refl _)
theorem closed_of_fix {x : GNet} {but : Int} {m : List Bool} (h : sweep x but m = m) : ClosedB x but m := fun k hk hb hf f hfm hl => by
  have e1 : LeB m (sweepTo x but m k) := by
    have := le_sweepTo x but m 0 k
    rwa [Nat.zero_add] at this
  have e2 : LeB (sweepTo x but m (k + 1)) m := by
    have := le_sweepTo x but m (k + 1) (x.tasks.length - (k + 1))
    rw [show k + 1 + (x.tasks.length - (k + 1)) = x.tasks.length from by omega] at this
    exact fun i hi => by have := this i hi; rw [← h]; exact this
  refine e2 _ ((stepT_iff x but _ k _).2 (.inr ⟨hb, fires_mono e1 hf, by rw [sweepTo_len]; exact hl, f, hfm, rfl⟩))
theorem cnt_le : ∀ (m m' : List Bool), m.length = m'.length → LeB m m' → cntF m' ≤ cntF m ∧ (cntF m' = cntF m → m = m')
  | [], [], _, _ => ⟨Nat.le_refl _, fun _ => rfl⟩
  | a :: m, b :: m', hl, h => by
    have hab : a = true → b = true := fun ha => by have := h 0; simp [bAt] at this; exact this ha
    obtain ⟨i1, i2⟩ := cnt_le m m' (by simpa using hl) fun i hi => by have := h (i + 1); simpa [bAt] using this (by simpa [bAt] using hi)
    unfold cntF at *
    cases a <;> cases b <;> simp_all
    omega
theorem cnt_lt {m m' : List Bool} (hl : m.length = m'.length) (h : LeB m m') (hne : m ≠ m') : cntF m' < cntF m := by
  obtain ⟨h1, h2⟩ := cnt_le m m' hl h
  have : cntF m' ≠ cntF m := fun e => hne (h2 e)
  omega
theorem cnt_len (m : List Bool) : cntF m ≤ m.length := List.countP_le_length
theorem spread_fix (x : GNet) (but : Int) (m : List Bool) : ∀ k, cntF (spread x but m k) + k ≤ m.length ∨ sweep x but (spread x but m k) = spread x but m k
  | 0 => .inl (by have := cnt_len m; show cntF m + 0 ≤ _; omega)
  | k + 1 => by
    rcases spread_fix x but m k with h | h
    · by_cases e : sweep x but (spread x but m k) = spread x but m k
      · right
        show sweep x but (sweep x but (spread x but m k)) = sweep x but (spread x but m k)
        rw [e, e]
      · left
        have hl : (spread x but m k).length = (sweep x but (spread x but m k)).length := by rw [sweep, sweepTo_len]
        have := cnt_lt hl (le_sweep x but _) (fun h => e h.symm)
        show cntF (sweep x but (spread x but m k)) + (k + 1) ≤ _
        omega
    · right
      show sweep x but (sweep x but (spread x but m k)) = sweep x but (spread x but m k)
      rw [h, h]
theorem cl_fix {x : GNet} {but : Int} {m : List Bool} (hm : m.length ≤ x.places.toNat) : sweep x but (cl x but m) = cl x but m := by
  rcases spread_fix x but m x.places.toNat with h | h
  · by_cases e : sweep x but (cl x but m) = cl x but m
    · exact e
    · have hl : (cl x but m).length = (sweep x but (cl x but m)).length := by rw [sweep, sweepTo_len]
      have h1 := cnt_lt hl (le_sweep x but _) (fun h => e h.symm)
      have h2 : cntF (cl x but m) + x.places.toNat ≤ m.length := h
      omega
  · exact h
theorem cl_closed {x : GNet} {but : Int} {m : List Bool} (hm : m.length ≤ x.places.toNat) : ClosedB x but (cl x but m) := closed_of_fix (cl_fix hm)
theorem cl_eq {x : GNet} {but : Int} {m out : List Bool} (hm : m.length ≤ x.places.toNat) (k : Nat) (ho : out = spread x but m k) (hf : sweep x but out = out) : out = cl x but m := by
  subst ho
  have hl : (spread x but m k).length = (cl x but m).length := by rw [spread_len, cl_len]
  refine LeB.eq (spread_min (le_spread _ _ _ _) (spread_len _ _ _ _).symm (cl_closed hm) k) ?_ hl
  exact spread_min (le_spread _ _ _ _) (by rw [spread_len]) (closed_of_fix hf) _
theorem bAt_single (n p i : Nat) : bAt (single n p) i = true ↔ i = p ∧ i < n := by
  unfold single
  rw [bAt_set]
  constructor
  · rintro (h | ⟨h1, h2⟩)
    · have hlt := bAt_lt h
      rw [bAt_get hlt] at h
      simp at h
    · exact ⟨h1, by simpa using h2⟩
  · rintro ⟨h1, h2⟩
    exact .inr ⟨h1, by simpa using h2⟩
theorem single_len (n p : Nat) : (single n p).length = n := by simp [single]
/-- From many places at once as from each. -/
theorem cl_iff {x : GNet} {but : Int} {m : List Bool} (hm : m.length = x.places.toNat) (q : Nat) :
    bAt (cl x but m) q = true ↔ ∃ p, bAt m p = true ∧ bAt (cl x but (single x.places.toNat p)) q = true := by
  have hs : ∀ p, (single x.places.toNat p).length ≤ x.places.toNat := fun p => by rw [single_len]; exact Nat.le_refl _
  constructor
  · intro h
    let U : List Bool := (List.range m.length).map fun i => (List.range m.length).any fun p => bAt m p && bAt (cl x but (single x.places.toNat p)) i
    have hUl : U.length = m.length := by simp [U]
    have hU : ∀ i, bAt U i = true ↔ i < m.length ∧ ∃ p, bAt m p = true ∧ bAt (cl x but (single x.places.toNat p)) i = true := fun i => by
      constructor
      · intro h
        have hi := bAt_lt h
        rw [bAt_get hi] at h
        simp only [U, List.getElem_map, List.getElem_range, List.any_eq_true, Bool.and_eq_true, List.mem_range] at h
        obtain ⟨p, _, h1, h2⟩ := h
        exact ⟨by omega, p, h1, h2⟩
      · rintro ⟨hi, p, h1, h2⟩
        rw [bAt_get (by omega)]
        simp only [U, List.getElem_map, List.getElem_range, List.any_eq_true, Bool.and_eq_true, List.mem_range]
        exact ⟨p, bAt_lt h1, h1, h2⟩
    have hle : LeB m U := fun i hi => (hU i).2 ⟨bAt_lt hi, i, hi, le_spread _ _ _ _ i ((bAt_single _ _ _).2 ⟨rfl, by have := bAt_lt hi; omega⟩)⟩
    have hcl : ClosedB x but U := fun k hk hb hf f hfm hl => by
      unfold fires at hf
      rw [List.any_eq_true] at hf
      obtain ⟨p0, hp0, hb0⟩ := hf
      obtain ⟨_, p, h1, h2⟩ := (hU _).1 hb0
      refine (hU _).2 ⟨by omega, p, h1, cl_closed (hs p) k hk hb ?_ f hfm (by rw [cl_len, single_len]; omega)⟩
      unfold fires
      rw [List.any_eq_true]
      exact ⟨p0, hp0, h2⟩
    exact ((hU q).1 (spread_min hle hUl.symm hcl _ q h)).2
  · rintro ⟨p, h1, h2⟩
    refine spread_min (c := cl x but m) (fun i hi => ?_) (by rw [single_len, cl_len]; omega) (cl_closed (by omega)) _ q h2
    obtain ⟨rfl, _⟩ := (bAt_single _ _ _).1 hi
    exact le_spread _ _ _ _ i h1
/-- Whether a mark was turned. -/
theorem set_new {s m : List Bool} (h : LeB s m) (j : Nat) (hj : j < m.length) : decide (m.set j true ≠ s) = (decide (m ≠ s) || !bAt m j) := by
  cases hb : bAt m j with
  | true =>
    have : m.set j true = m := by
      rw [bAt_get hj] at hb
      apply List.ext_getElem (by simp)
      intro i h1 h2
      rw [List.getElem_set]
      split
      · rename_i e; subst e; exact hb.symm
      · rfl
    rw [this]; simp
  | false =>
    have : m.set j true ≠ s := fun e => by
      have h1 : bAt s j = true := by rw [← e, bAt_set]; exact .inr ⟨rfl, hj⟩
      have := h j h1
      rw [hb] at this
      cases this
    simp [this]
end Go.Proofs.YtkoaaagmcjjimaaGreat

/- Which tasks of a net may begin, as plain functions; and that the two ways of asking what may still come give the same. -/
namespace Go.Proofs.YtkoaaagmcjjimaaGreat

def taskAt (x : GNet) (k : Nat) : GTask := x.tasks.getD k task0
def mAt (ms : List Int) (p : Int) : Int := ms.getD p.toNat 0
def someP (ms l : List Int) : Bool := l.any fun p => decide (0 < mAt ms p)
def allP (ms l : List Int) : Bool := l.all fun p => decide (0 < mAt ms p)
def fromAt (ms : List Int) (t : GTask) (p : Nat) : Bool := decide (0 < ms.getD p 0) && !(t.inn.any fun y => decide (y = (p : Int)))
def fromTo (n : Nat) (ms : List Int) (t : GTask) (k : Nat) : List Bool := (List.range k).map (fromAt ms t) ++ List.replicate (n - k) false
def busyTo (x : GNet) (m : List Bool) (bs : List GItem) : List Bool := bs.foldl (fun m b => markAll m (taskAt x b.task.toNat).out) m
def fromB (x : GNet) (ms : List Int) (bs : List GItem) (t : GTask) : List Bool := busyTo x (fromTo x.places.toNat ms t x.places.toNat) bs
def hitB (ms : List Int) (t : GTask) (c : List Bool) : Bool := t.inn.any fun q => decide (mAt ms q = 0) && bAt c q.toNat
def coming (x : GNet) (ms : List Int) (bs : List GItem) (k : Nat) : Bool := hitB ms (taskAt x k) (cl x k (fromB x ms bs (taskAt x k)))
def fromL1 (ms : List Int) (t : GTask) (k : Nat) : List Int := ((List.range k).filter (fromAt ms t)).map Int.ofNat
def outsL (x : GNet) (bs : List GItem) : List Int := (bs.map fun b => (taskAt x b.task.toNat).out.map GFlow.to).flatten
def fromL (x : GNet) (ms : List Int) (bs : List GItem) (t : GTask) : List Int := fromL1 ms t ms.length ++ outsL x bs
def comingI (x : GNet) (ms : List Int) (bs : List GItem) (k : Nat) : Bool := (fromL x ms bs (taskAt x k)).any fun p => hitB ms (taskAt x k) (cl x k (single x.places.toNat p.toNat))
def canP (x : GNet) (ms : List Int) (bs : List GItem) (k : Nat) : Bool :=
  if (taskAt x k).join = 1 then allP ms (taskAt x k).inn else if (taskAt x k).join = 2 then someP ms (taskAt x k).inn else someP ms (taskAt x k).inn && (allP ms (taskAt x k).inn || !coming x ms bs k)
def enaTo (p : Nat → Bool) (k : Nat) : List Int := ((List.range k).filter p).map Int.ofNat
def enaOf (x : GNet) (ms : List Int) (bs : List GItem) : List Int := if (mrkOk x ms && busyOk x bs) = true then enaTo (canP x ms bs) x.tasks.length else []

theorem fromTo_len {n : Nat} {ms : List Int} {t : GTask} {k : Nat} (h : k ≤ n) : (fromTo n ms t k).length = n := by simp [fromTo]; omega
theorem fromTo_set {n : Nat} {ms : List Int} {t : GTask} {k : Nat} (h : k < n) : (fromTo n ms t k).set k (fromAt ms t k) = fromTo n ms t (k + 1) := by
  unfold fromTo
  rw [List.set_append_right _ _ (by simp), show n - k = (n - (k + 1)) + 1 from by omega, List.replicate_succ]
  simp [List.range_succ]
theorem bAt_from (n : Nat) (ms : List Int) (t : GTask) (p : Nat) : bAt (fromTo n ms t n) p = true ↔ p < n ∧ fromAt ms t p = true := by
  constructor
  · intro h
    have hl := bAt_lt h
    have hn : p < n := by rw [fromTo_len (Nat.le_refl _)] at hl; exact hl
    rw [bAt_get hl] at h
    exact ⟨hn, by simpa [fromTo, hn] using h⟩
  · rintro ⟨h1, h2⟩
    rw [bAt_get (by rw [fromTo_len (Nat.le_refl _)]; exact h1)]
    simpa [fromTo, h1] using h2
theorem busyTo_len (x : GNet) : ∀ (bs : List GItem) (m : List Bool), (busyTo x m bs).length = m.length
  | [], m => rfl
  | b :: bs, m => by
    show (busyTo x (markAll m _) bs).length = _
    rw [busyTo_len x bs, markAll_len]
theorem busyTo_snoc (x : GNet) (m : List Bool) (bs : List GItem) (k : Nat) (hk : k < bs.length) : busyTo x m (bs.take (k + 1)) = markAll (busyTo x m (bs.take k)) (taskAt x bs[k].task.toNat).out := by
  unfold busyTo
  rw [List.take_succ_eq_append_getElem hk, List.foldl_append]; rfl
theorem bAt_busyTo (x : GNet) : ∀ (bs : List GItem) (m : List Bool) (p : Nat), bAt (busyTo x m bs) p = true ↔ bAt m p = true ∨ (p < m.length ∧ ∃ b ∈ bs, ∃ f ∈ (taskAt x b.task.toNat).out, f.to.toNat = p)
  | [], m, p => by simp [busyTo]
  | b :: bs, m, p => by
    show bAt (busyTo x (markAll m (taskAt x b.task.toNat).out) bs) p = true ↔ _
    rw [bAt_busyTo x bs, bAt_markAll, markAll_len]
    constructor
    · rintro ((h | ⟨h1, f, hf, h2⟩) | ⟨h1, b', hb, h2⟩)
      · exact .inl h
      · exact .inr ⟨h1, b, by simp, f, hf, h2⟩
      · exact .inr ⟨h1, b', by simp [hb], h2⟩
    · rintro (h | ⟨h1, b', hb, f, hf, h2⟩)
      · exact .inl (.inl h)
      · rcases List.mem_cons.1 hb with rfl | hb
        · exact .inl (.inr ⟨h1, f, hf, h2⟩)
        · exact .inr ⟨h1, b', hb, f, hf, h2⟩
theorem fromB_len (x : GNet) (ms : List Int) (bs : List GItem) (t : GTask) : (fromB x ms bs t).length = x.places.toNat := by
  rw [fromB, busyTo_len, fromTo_len (Nat.le_refl _)]
theorem mem_fromL {x : GNet} {ms : List Int} {bs : List GItem} {t : GTask} {z : Int} : z ∈ fromL x ms bs t ↔ (∃ p : Nat, p < ms.length ∧ fromAt ms t p = true ∧ z = p) ∨ ∃ b ∈ bs, ∃ f ∈ (taskAt x b.task.toNat).out, f.to = z := by
  unfold fromL fromL1 outsL
  rw [List.mem_append, List.mem_map, List.mem_flatten]
  constructor
  · rintro (⟨p, hp, rfl⟩ | ⟨l, hl, hz⟩)
    · obtain ⟨h1, h2⟩ := List.mem_filter.1 hp
      exact .inl ⟨p, List.mem_range.1 h1, h2, rfl⟩
    · obtain ⟨b, hb, rfl⟩ := List.mem_map.1 hl
      obtain ⟨f, hf, rfl⟩ := List.mem_map.1 hz
      exact .inr ⟨b, hb, f, hf, rfl⟩
  · rintro (⟨p, h1, h2, rfl⟩ | ⟨b, hb, f, hf, rfl⟩)
    · exact .inl ⟨p, List.mem_filter.2 ⟨List.mem_range.2 h1, h2⟩, rfl⟩
    · exact .inr ⟨_, List.mem_map.2 ⟨b, hb, rfl⟩, List.mem_map.2 ⟨f, hf, rfl⟩⟩
/-- What may still come, asked place by place or at once. -/
theorem coming_eq {x : GNet} {ms : List Int} {bs : List GItem} {k : Nat} (hl : (ms.length : Int) = x.places) : comingI x ms bs k = coming x ms bs k := by
  have hn : ms.length = x.places.toNat := by omega
  have hb : ∀ p, bAt (fromB x ms bs (taskAt x k)) p = true ↔ p < x.places.toNat ∧ ∃ z ∈ fromL x ms bs (taskAt x k), z.toNat = p := fun p => by
    rw [fromB, bAt_busyTo, bAt_from, fromTo_len (Nat.le_refl _)]
    constructor
    · rintro (⟨h1, h2⟩ | ⟨h1, b, hb, f, hf, h2⟩)
      · exact ⟨h1, _, mem_fromL.2 (.inl ⟨p, by omega, h2, rfl⟩), by simp⟩
      · exact ⟨h1, _, mem_fromL.2 (.inr ⟨b, hb, f, hf, rfl⟩), h2⟩
    · rintro ⟨h1, z, hz, h2⟩
      rcases mem_fromL.1 hz with ⟨p', h3, h4, rfl⟩ | ⟨b, hb, f, hf, rfl⟩
      · have : p' = p := by simpa using h2
        subst this
        exact .inl ⟨h1, h4⟩
      · exact .inr ⟨h1, b, hb, f, hf, h2⟩
  rw [Bool.eq_iff_iff]
  unfold comingI coming hitB
  simp only [List.any_eq_true, Bool.and_eq_true]
  constructor
  · rintro ⟨z, hz, q, hq, h0, hc⟩
    refine ⟨q, hq, h0, (cl_iff (fromB_len _ _ _ _) _).2 ⟨z.toNat, ?_, hc⟩⟩
    obtain ⟨p', hp', _⟩ := (cl_iff (single_len _ _) _).1 hc
    obtain ⟨rfl, hlt⟩ := (bAt_single _ _ _).1 hp'
    exact (hb _).2 ⟨hlt, z, hz, rfl⟩
  · rintro ⟨q, hq, h0, hc⟩
    obtain ⟨p, hp, hc⟩ := (cl_iff (fromB_len _ _ _ _) _).1 hc
    obtain ⟨_, z, hz, rfl⟩ := (hb _).1 hp
    exact ⟨z, hz, q, hq, h0, hc⟩
theorem enaTo_yes {p : Nat → Bool} {k : Nat} (h : p k = true) : enaTo p (k + 1) = enaTo p k ++ [(k : Int)] := by simp [enaTo, List.range_succ, h]
theorem enaTo_no {p : Nat → Bool} {k : Nat} (h : p k = false) : enaTo p (k + 1) = enaTo p k := by simp [enaTo, List.range_succ, h]
theorem enaTo_len (p : Nat → Bool) (k : Nat) : (enaTo p k).length ≤ k := by
  unfold enaTo
  rw [List.length_map]
  exact Nat.le_trans (List.length_filter_le _ _) (by simp)
theorem enaTo_mem {p : Nat → Bool} {k : Nat} {z : Int} (h : z ∈ enaTo p k) : ∃ i : Nat, i < k ∧ z = i ∧ p i = true := by
  unfold enaTo at h
  obtain ⟨i, hi, rfl⟩ := List.mem_map.1 h
  obtain ⟨h1, h2⟩ := List.mem_filter.1 hi
  exact ⟨i, List.mem_range.1 h1, rfl, h2⟩
theorem enaOf_len (x : GNet) (ms : List Int) (bs : List GItem) : (enaOf x ms bs).length ≤ 6 := by
  unfold enaOf
  split
  · rename_i h
    have := enaTo_len (canP x ms bs) x.tasks.length
    rw [Bool.and_eq_true, mrkOk, Bool.and_eq_true] at h
    have := netOk_len h.1.1
    omega
  · simp
end Go.Proofs.YtkoaaagmcjjimaaGreat

/- Rows of bools of the call's own; and what a net that is ok bounds. -/
namespace Go.Proofs.YtkoaaagmcjjimaaGreat
open Go.RowKit

def bv (m : List Bool) : List Value := m.map Value.bool
theorem bv_len (m : List Bool) : (bv m).length = m.length := by simp [bv]
theorem bv_get {m : List Bool} {i : Nat} (h : i < m.length) : (bv m)[i]? = some (.bool (bAt m i)) := by
  rw [bAt_get h]; simp [bv, h]
theorem bv_set (m : List Bool) (i : Nat) (b : Bool) : (bv m).set i (.bool b) = bv (m.set i b) := by simp [bv, List.map_set]
def boolC : Cod Bool := flat 1 (fun x => [.bool x]) fun _ => rfl
theorem info_bool : (Tryz.prog.info? 4).map (fun i => (i.zero, i.size, i.bytes)) = some (some (.bool false), 1, 1) := by kernel_rfl
theorem bv_flat (m : List Bool) : (m.map fun x => [Value.bool x]).flatten = bv m := by
  induction m with
  | nil => rfl
  | cons a m ih => rw [List.map_cons, List.flatten_cons, ih]; rfl
theorem Wr.bools {w : World} {g : Nat} {t : TypeId} {m : List Bool} (h : Wr w g t (bv m)) (hl : m.length ≤ 1000) : Rows boolC none w w.heap.size (some ⟨g, 0, none⟩) m :=
  ⟨by omega, fun _ => ⟨g, 0, rfl, ⟨h.lt, fun lo hlo => by cases hlo⟩, fun j x hx => ⟨[.bool x], rfl, fun i u hu => by
    have hj := (List.getElem?_eq_some_iff.1 hx).1
    match i, hu with
    | 0, hu =>
      simp only [List.getElem?_cons_zero, Option.some.injEq] at hu
      subst hu
      rw [show 0 + j * boolC.k + 0 = j from by show 0 + j * 1 + 0 = j; omega]
      refine h.cell ?_
      simp [bv, hx]
    | i + 1, hu => simp at hu⟩⟩⟩
theorem OwnC.bools {w : World} {base : Nat} {v : Value} {m : List Bool} (h : OwnC boolC 4 w base v m) (hn : 0 < m.length) : ∃ g c, v = .slice (some ⟨g, 0, none⟩) m.length c ∧ base ≤ g ∧ Wr w g 4 (bv m) := by
  obtain ⟨css, h1, h2, h3⟩ := h
  have hcs : css = m.map fun x => [Value.bool x] := List.ext_getElem? fun j => by
    rw [List.getElem?_map]
    cases hj : css[j]? with
    | none =>
      have : m[j]? = none := List.getElem?_eq_none (by have := List.getElem?_eq_none_iff.1 hj; omega)
      rw [this]; rfl
    | some cs =>
      obtain ⟨y, lo, B', hy', _, _, _, hR⟩ := h2 j cs hj
      rw [hy']
      exact congrArg some (show cs = [Value.bool y] from hR)
  subst hcs
  rw [bv_flat] at h3
  rcases h3.2 with ⟨hv, h0⟩ | ⟨g, cap, cur, hv, hb, hgg, hcap, hmax, hcs, htake⟩
  · omega
  · exact ⟨g, cap, hv, hb, cur, hgg, by rw [bv_len, ← Nat.mul_one m.length]; exact htake⟩

/-- What a net that is ok bounds. -/
def NetFit (x : GNet) : Prop :=
  (2 ≤ x.places ∧ x.places ≤ 8 ∧ 1 ≤ x.tasks.length ∧ x.tasks.length ≤ 6) ∧ ∀ j (hj : j < x.tasks.length), (x.tasks[j].inn.length ≤ 3 ∧ x.tasks[j].out.length ≤ 3) ∧ (∀ y ∈ x.tasks[j].inn, 0 ≤ y ∧ y ≤ x.places - 1) ∧ ∀ f ∈ x.tasks[j].out, 1 ≤ f.to ∧ f.to ≤ x.places - 1
theorem netFit {x : GNet} (h : netOk x = true) : NetFit x := by
  obtain ⟨h1, h2, h3, h4⟩ := netOk_len h
  refine ⟨⟨h3, h4, h1, h2⟩, fun j hj => ?_⟩
  have ht := netOk_task h hj
  have hf := ok_flows ht h4
  generalize x.tasks[j] = t at ht hf
  have hin : rises t.inn 1 3 0 (x.places - 1) = true := by
    unfold taskOk at ht
    simp only [Bool.and_eq_true] at ht
    exact ht.1.2.2.1
  have hl : t.inn.length ≤ 3 := by
    unfold rises at hin
    simp only [Bool.and_eq_true, inB_iff] at hin
    omega
  refine ⟨⟨hl, hf.1⟩, fun y hy => ?_, fun f hm => hf.2.2.2 _ (List.mem_map.2 ⟨f, hm, rfl⟩)⟩
  obtain ⟨i, hi, rfl⟩ := List.mem_iff_getElem.1 hy
  exact rises_mem hin i hi
theorem taskAt_get {x : GNet} {j : Nat} (hj : j < x.tasks.length) : taskAt x j = x.tasks[j] := getD_get hj
end Go.Proofs.YtkoaaagmcjjimaaGreat

/- What can be come to, as the reference asks: l2Spread. -/
namespace Go.Proofs.YtkoaaagmcjjimaaGreat
open Go.RowKit
set_option linter.unusedSimpArgs false
set_option linter.unusedVariables false

theorem anyB_snoc {α : Type} (p : α → Bool) (xs : List α) (k : Nat) (hk : k < xs.length) : (xs.take (k + 1)).any p = ((xs.take k).any p || p xs[k]) := by
  rw [List.take_succ_eq_append_getElem hk, List.any_append]; simp
theorem Bk.belowG {g : Nat} {t : TypeId} {cs : Array Value} {B : Nat} {w w' : World} (h : Bk w g t cs) (hb : Below B w w') (hg : g < B) : Bk w' g t cs := (hb.block g hg).trans h
theorem spread_next (x : GNet) (but : Int) (m : List Bool) (k : Nat) : spread x but m (k + 1) = sweepTo x but (spread x but m k) x.tasks.length := rfl
theorem step_no {x : GNet} {but : Int} {m : List Bool} {k : Nat} (h : fires m (taskAt x k) = false ∨ (k : Int) = but) : stepT x but m k = m := by
  unfold stepT
  by_cases h2 : (k : Int) = but
  · rw [if_pos h2]
  · rw [if_neg h2, if_neg]
    rcases h with h | h
    · rw [show x.tasks.getD k task0 = taskAt x k from rfl, h]; simp
    · exact absurd h h2
theorem step_yes {x : GNet} {but : Int} {m : List Bool} {k : Nat} (h : fires m (taskAt x k) = true) (h2 : (k : Int) ≠ but) : stepT x but m k = markAll m (taskAt x k).out := by
  unfold stepT
  rw [if_neg h2, if_pos (show fires m (x.tasks.getD k task0) = true from h)]; rfl

/-- What asking what can be come to leaves. -/
def GivesB (m : List Bool) (w : World) (e : Ending) (w' : World) : Prop :=
  ∃ g c, e = .returned (.slice (some ⟨g, 0, none⟩) m.length c) ∧ w.heap.size ≤ g ∧ Wr w' g 4 (bv m) ∧ Below w.heap.size w w'

set_option maxRecDepth 100000 in
set_option maxHeartbeats 4000000 in
theorem spec_l2Spread (x : GNet) (A : Option Addr) (c : Nat) (g0 c0 : Nat) (m : List Bool) (but : Int) (mo : Option Nat) (w : World) (hfit : NetFit x)
    (hx : Rows taskC mo w w.heap.size A x.tasks) (hm : Wr w g0 4 (bv m)) (hml : m.length = x.places.toNat) :
    Calls Tryz.prog 104 #[.agg (netCells x A c), .slice (some ⟨g0, 0, none⟩) m.length c0, .int .i64 but] w (GivesB (cl x but m) w) := by
  obtain ⟨bA, oA, _, _, _, _, _, _, hAA, _⟩ := task_at hx (j := 0) (by have := hfit.1; omega)
  subst hAA
  have HX := Lib.hid hx
  have HM := Lib.hid hm
  have HF := Lib.hid hfit
  obtain ⟨⟨hp2, hp8, ht1, ht6⟩, _⟩ := hfit
  obtain ⟨np, hnp⟩ := Int.eq_ofNat_of_zero_le (by omega : 0 ≤ x.places)
  have hml8 : m.length ≤ 8 := by omega
  have hml2 : 2 ≤ m.length := by omega
  have HMN : Hid (m.length = np) := (by omega : m.length = np)
  have HNP := Lib.hid hnp
  have hnp8 : np ≤ 8 := by omega
  clear hx hm hml
  go_enter Tryz.func104, Tryz.ntmps104
  have hA0 : Hid (OwnC boolC 4 (World.alloc (World.alloc w (.cells (netCells x (some ⟨bA, oA, none⟩) c) 36)) (.cells #[] 4)) (w.heap.size + 1) (.slice (some ⟨w.heap.size + 1, 0, none⟩) 0 0) []) := by
    show OwnC _ _ _ _ _ _
    have h := OwnC.made (C := boolC) (e := 4) (w := World.alloc w (.cells (netCells x (some ⟨bA, oA, none⟩) c) 36)) (base := w.heap.size + 1) (by simp) 0 #[] (by decide) rfl
    simpa using h
  have hIN : Hid (Rows boolC none (World.alloc (World.alloc w (.cells (netCells x (some ⟨bA, oA, none⟩) c) 36)) (.cells #[] 4)) w.heap.size (some ⟨g0, 0, none⟩) m) := by
    show Rows _ _ _ _ _ _
    exact (HM.out.bools (by omega)).below (((Below.refl _ _).alloc (Nat.le_refl _) _).alloc (by simp) _)
  have hP0 : Hid (Bk (World.alloc (World.alloc w (.cells (netCells x (some ⟨bA, oA, none⟩) c) 36)) (.cells #[] 4)) w.heap.size 36 (netCells x (some ⟨bA, oA, none⟩) c)) := (Bk.new rfl).alloc _
  have hB0 : Hid (Below w.heap.size w (World.alloc (World.alloc w (.cells (netCells x (some ⟨bA, oA, none⟩) c) 36)) (.cells #[] 4))) := ((Below.refl _ _).alloc (Nat.le_refl _) _).alloc (by simp) _
  go_upto_region 2 with (at_builtin; refine append_flatA (k := 1) (cells := fun x => [Value.bool x]) (hk := fun _ => rfl) rfl (.tmp 13) (.tmp 14) 122 4 rfl _ 1 Tryz.underlying122 info_bool rfl (by decide) (by decide) (fun x u hu => by simp at hu; subst hu; rfl) (w.heap.size + 1) _ [] rfl hA0.out (some ⟨g0, 0, none⟩) c0 w.heap.size none m rfl hIN.out (by simp; omega) (by simp) ?_; intro v1 w1 hown hg hb; rw [List.nil_append] at hown; have O1 := Lib.hid hown; have HB1 := Lib.hid hb; clear hown hg hb)
  have P1 : Hid (Bk w1 w.heap.size 36 (netCells x (some ⟨bA, oA, none⟩) c)) := hP0.out.belowG HB1.out (by omega)
  have B1 : Hid (Below w.heap.size w w1) := hB0.out.trans (HB1.out.mono (by omega))
  obtain ⟨g, cg, hv, hgb, hwr⟩ := OwnC.bools O1.out (by omega)
  subst hv
  have HW := Lib.hid hwr
  have hl1 := hwr.lt
  clear hA0 hIN hP0 hB0 HB1 O1 hwr HM
  have k0 := fun i => P1.out.cell i
  rw [show netCells x (some ⟨bA, oA, none⟩) c = #[.int .i64 x.places, .slice (some ⟨bA, oA, none⟩) x.tasks.length c] from rfl, HNP.out] at k0
  go_wp2
  clear k0
  go_loopg [8] np (fun gg s8 wr => ∃ k : Nat, k ≤ np ∧ np - k ≤ gg ∧ s8 = .int .i64 k ∧ Aside (Below (w.heap.size + 1) w1 wr) ∧ Aside (Wr wr g 4 (bv (spread x but m k))))
  case atStart => exact ⟨0, Nat.zero_le _, by omega, rfl, Below.refl _ _, HW.out⟩
  case round =>
    obtain ⟨k, hk, hg, rfl, BW, WW⟩ := hrel
    have PW : Hid (Bk wr w.heap.size 36 (netCells x (some ⟨bA, oA, none⟩) c)) := P1.out.belowG BW.out (by omega)
    have k0 := fun i => PW.out.cell i
    rw [show netCells x (some ⟨bA, oA, none⟩) c = #[.int .i64 x.places, .slice (some ⟨bA, oA, none⟩) x.tasks.length c] from rfl, HNP.out] at k0
    by_cases hlt : k < np
    · have hltz : (k : Int) < (np : Int) := by omega
      have HCL := Lib.hid (spread_len x but m k)
      have HNX := Lib.hid (spread_next x but m k)
      generalize spread x but m k = cur at WW HCL HNX
      obtain ⟨wo, hwo⟩ : ∃ wo : World, wo = wr := ⟨_, rfl⟩
      subst hwo
      go_wp2
      clear k0
      go_loopg [9] x.tasks.length (fun gg s9 wr => ∃ i : Nat, i ≤ x.tasks.length ∧ x.tasks.length - i ≤ gg ∧ s9 = .int .i64 i ∧ Aside (Below (w.heap.size + 1) wo wr) ∧ Aside (Wr wr g 4 (bv (sweepTo x but cur i))))
      case atStart => exact ⟨0, Nat.zero_le _, by omega, rfl, Below.refl _ _, WW.out⟩
      case round =>
        obtain ⟨i, hi, hgi, rfl, BI, WI⟩ := hrel
        have PI : Hid (Bk wr w.heap.size 36 (netCells x (some ⟨bA, oA, none⟩) c)) := PW.out.belowG BI.out (by omega)
        have hs1 := BW.out.size
        have hs2 := BI.out.size
        have BX : Hid (Below w.heap.size w wr) := B1.out.trans ((BW.out.trans (BI.out.mono (Nat.le_refl _))).mono (by omega))
        have k0 := fun i => PI.out.cell i
        rw [show netCells x (some ⟨bA, oA, none⟩) c = #[.int .i64 x.places, .slice (some ⟨bA, oA, none⟩) x.tasks.length c] from rfl] at k0
        by_cases hil : i < x.tasks.length
        · have hiz : (i : Int) < (x.tasks.length : Int) := by omega
          have hfx := HF.out.2 i hil
          obtain ⟨b, off, a1, d1, a2, d2, a3, d3, hA, hbb, ⟨r1, r2, r3⟩, e0, e1, e2, e3, e4, e5, e6, e7, e8⟩ := task_at HX.out hil
          cases hA
          have HNO : Hid (fires (sweepTo x but cur i) x.tasks[i] = false ∨ (i : Int) = but → sweepTo x but cur (i + 1) = sweepTo x but cur i) := fun h => step_no (by rw [taskAt_get hil]; exact h)
          have HYES : Hid (fires (sweepTo x but cur i) x.tasks[i] = true → (i : Int) ≠ but → sweepTo x but cur (i + 1) = markAll (sweepTo x but cur i) x.tasks[i].out) := fun h h2 => by
            have h3 := step_yes (x := x) (but := but) (m := sweepTo x but cur i) (k := i) (by rw [taskAt_get hil]; exact h) h2
            rw [taskAt_get hil] at h3
            exact h3
          have hmi : (sweepTo x but cur i).length = m.length := by rw [sweepTo_len, HCL.out]
          generalize x.tasks[i] = y at HNO HYES hfx r1 r2 r3 e0 e1 e2 e3 e4 e5 e6 e7 e8
          generalize sweepTo x but cur i = mi at HNO HYES hmi WI
          have HMI := Lib.hid hmi
          obtain ⟨⟨hin3, hout3⟩, hin, hout⟩ := hfx
          have HIN := Lib.hid hin
          have HOUT := Lib.hid hout
          have TC : Hid (∀ W : World, Below w.heap.size w W → W.cell? ⟨bA, oA + i * 9 + 2, none⟩ = some (.slice a1 y.inn.length d1) ∧ W.cell? ⟨bA, oA + i * 9 + 3, none⟩ = some (.slice a2 y.out.length d2)) := fun W hb => ⟨(hb.cell (p := ⟨bA, oA + i * 9 + 2, none⟩) hbb).trans e2, (hb.cell (p := ⟨bA, oA + i * 9 + 3, none⟩) hbb).trans e3⟩
          have R1 := Lib.hid (r1.below BX.out)
          have R2 := Lib.hid r2
          have hm8 : (m.length : Int) = x.places := by have := HMN.out; have := HNP.out; omega
          have HM8 := Lib.hid hm8
          clear r1 r2 r3 e0 e1 e2 e3 e4 e5 e6 e7 e8 hmi hin hout hm8
          obtain ⟨wi, hwi⟩ : ∃ wi : World, wi = wr := ⟨_, rfl⟩
          subst hwi
          obtain ⟨t2, t3⟩ := TC.out _ BX.out
          go_wp2
          go_loopg [10, 11] y.inn.length (fun gg s10 s11 wr => ∃ j : Nat, j ≤ y.inn.length ∧ y.inn.length - j ≤ gg ∧ s11 = .int .i64 j ∧ s10 = .bool ((y.inn.take j).any fun p => bAt mi p.toNat) ∧ Aside (wi = wr))
          case atStart => exact ⟨0, Nat.zero_le _, by omega, rfl, by simp, rfl⟩
          case round =>
            obtain ⟨j, hj, hgj, rfl, rfl, EW⟩ := hrel
            obtain rfl := EW.out
            by_cases hjl : j < y.inn.length
            · have hjz : (j : Int) < (y.inn.length : Int) := by omega
              obtain ⟨b1, o1, hA1, _, hc1⟩ := R1.out.ints.at_ hjl
              subst hA1
              have hpb := HIN.out _ (List.getElem_mem hjl)
              have hsn := anyB_snoc (fun p => bAt mi p.toNat) y.inn j hjl
              obtain ⟨p, hp⟩ := Int.eq_ofNat_of_zero_le hpb.1
              rw [hp] at hc1 hpb hsn
              rw [Int.toNat_natCast] at hsn
              have HS := Lib.hid hsn
              have hpm : p < m.length := by have := HM8.out; omega
              have hpz : (p : Int) < (m.length : Int) := by omega
              have hcb := WI.out.cell (bv_get (m := mi) (i := p) (by have := HMI.out; omega))
              clear hsn hp
              cases q1 : (y.inn.take j).any fun p => bAt mi p.toNat with
              | true =>
                go_wp2
                go_roundg (y.inn.length - (j + 1))
                case measure => omega
                case rel => exact ⟨j + 1, by omega, by omega, by go_num, by rw [HS.out, q1]; rfl, rfl⟩
              | false =>
                go_wp2
                go_roundg (y.inn.length - (j + 1))
                case measure => omega
                case rel => exact ⟨j + 1, by omega, by omega, by go_num, by rw [HS.out, q1]; rfl, rfl⟩
            · have hjz : ¬ (j : Int) < (y.inn.length : Int) := by omega
              have he : j = y.inn.length := by omega
              subst he
              have hfi : ((y.inn.take y.inn.length).any fun p => bAt mi p.toNat) = fires mi y := by rw [List.take_length]; rfl
              rw [hfi]
              clear hfi
              cases q : fires mi y with
              | false =>
              go_wp2
              go_loopg [12] 0 (fun gg s12 wr => s12 = .int .i64 0 ∧ Aside (wi = wr))
              case atStart => exact ⟨rfl, rfl⟩
              case round =>
                obtain ⟨rfl, EW⟩ := hrel
                obtain rfl := EW.out
                have k0 := fun i => PI.out.cell i
                rw [show netCells x (some ⟨bA, oA, none⟩) c = #[.int .i64 x.places, .slice (some ⟨bA, oA, none⟩) x.tasks.length c] from rfl] at k0
                by_cases h0 : 0 < y.out.length
                · have h0z : (0 : Int) < (y.out.length : Int) := by omega
                  go_wp2
                  go_roundg (x.tasks.length - (i + 1))
                  case measure => omega
                  case rel => exact ⟨i + 1, by omega, by omega, by go_num, BI.out, by show Wr _ _ _ _; rw [HNO.out (.inl q)]; exact WI.out⟩
                · have h0z : ¬ (0 : Int) < (y.out.length : Int) := by omega
                  go_wp2
                  go_roundg (x.tasks.length - (i + 1))
                  case measure => omega
                  case rel => exact ⟨i + 1, by omega, by omega, by go_num, BI.out, by show Wr _ _ _ _; rw [HNO.out (.inl q)]; exact WI.out⟩
              | true =>
              by_cases hbut : (i : Int) = but
              · have hb1 : ((i : Int) != but) = false := by simp [hbut]
                have HBUT := Lib.hid hbut
                clear hbut
                go_wp2
                go_loopg [12] 0 (fun gg s12 wr => s12 = .int .i64 0 ∧ Aside (wi = wr))
                case atStart => exact ⟨rfl, rfl⟩
                case round =>
                  obtain ⟨rfl, EW⟩ := hrel
                  obtain rfl := EW.out
                  have k0 := fun i => PI.out.cell i
                  rw [show netCells x (some ⟨bA, oA, none⟩) c = #[.int .i64 x.places, .slice (some ⟨bA, oA, none⟩) x.tasks.length c] from rfl] at k0
                  by_cases h0 : 0 < y.out.length
                  · have h0z : (0 : Int) < (y.out.length : Int) := by omega
                    go_wp2
                    go_roundg (x.tasks.length - (i + 1))
                    case measure => omega
                    case rel => exact ⟨i + 1, by omega, by omega, by go_num, BI.out, by show Wr _ _ _ _; rw [HNO.out (.inr HBUT.out)]; exact WI.out⟩
                  · have h0z : ¬ (0 : Int) < (y.out.length : Int) := by omega
                    go_wp2
                    go_roundg (x.tasks.length - (i + 1))
                    case measure => omega
                    case rel => exact ⟨i + 1, by omega, by omega, by go_num, BI.out, by show Wr _ _ _ _; rw [HNO.out (.inr HBUT.out)]; exact WI.out⟩
              have hb1 : ((i : Int) != but) = true := by simp [hbut]
              have HBUT := Lib.hid hbut
              clear hbut
              go_wp2
              clear k0 t2 t3
              go_loopg [12] y.out.length (fun gg s12 wr => ∃ j : Nat, j ≤ y.out.length ∧ y.out.length - j ≤ gg ∧ s12 = .int .i64 j ∧ Aside (Below (w.heap.size + 1) wi wr) ∧ Aside (Wr wr g 4 (bv (markAll mi (y.out.take j)))))
              case atStart => exact ⟨0, Nat.zero_le _, by omega, rfl, Below.refl _ _, WI.out⟩
              case round =>
                obtain ⟨j, hj, hgj, rfl, BJ, WJ⟩ := hrel
                have PJ : Hid (Bk wr w.heap.size 36 (netCells x (some ⟨bA, oA, none⟩) c)) := PI.out.belowG BJ.out (by omega)
                have k0 := fun i => PJ.out.cell i
                rw [show netCells x (some ⟨bA, oA, none⟩) c = #[.int .i64 x.places, .slice (some ⟨bA, oA, none⟩) x.tasks.length c] from rfl] at k0
                have BXJ : Hid (Below w.heap.size w wr) := BX.out.trans (BJ.out.mono (by omega))
                obtain ⟨t2, t3⟩ := TC.out _ BXJ.out
                by_cases hjl : j < y.out.length
                · have hjz : (j : Int) < (y.out.length : Int) := by omega
                  obtain ⟨b2, o2, hA2, _, f0, f1, f2, f3⟩ := flow_at (R2.out.below BXJ.out) hjl
                  subst hA2
                  have hpb := HOUT.out _ (List.getElem_mem hjl)
                  have hsn := markAll_snoc mi y.out j hjl
                  have hml : (markAll mi (y.out.take j)).length = m.length := by rw [markAll_len, HMI.out]
                  obtain ⟨p, hp⟩ := Int.eq_ofNat_of_zero_le (by omega : 0 ≤ y.out[j].to)
                  rw [hp] at f0 hpb hsn
                  rw [Int.toNat_natCast] at hsn
                  have HS := Lib.hid hsn
                  have hpm : p < m.length := by have := HM8.out; omega
                  have hpz : (p : Int) < (m.length : Int) := by omega
                  have hold := WJ.out.cell (bv_get (m := markAll mi (y.out.take j)) (i := p) (by omega))
                  have hfr := WJ.out.frozen p
                  have hset := WJ.out.set p (.bool true)
                  rw [bv_set, ← hsn] at hset
                  have HSET := Lib.hid hset
                  have HBS := Lib.hid (BJ.out.setCell (p := ⟨g, p, none⟩) (by show w.heap.size + 1 ≤ g; omega) (.bool true))
                  clear hsn hp hset hml f1 f2 f3
                  go_wp2
                  go_roundg (y.out.length - (j + 1))
                  case measure => omega
                  case rel => exact ⟨j + 1, by omega, by omega, by go_num, HBS.out, HSET.out⟩
                · have hjz : ¬ (j : Int) < (y.out.length : Int) := by omega
                  have he : j = y.out.length := by omega
                  subst he
                  have WJ2 : Hid (Wr wr g 4 (bv (markAll mi y.out))) := by
                    have h := WJ.out
                    rw [List.take_length] at h
                    exact h
                  go_wp2
                  go_roundg (x.tasks.length - (i + 1))
                  case measure => omega
                  case rel => exact ⟨i + 1, by omega, by omega, by go_num, BI.out.trans BJ.out, by show Wr _ _ _ _; rw [HYES.out q HBUT.out]; exact WJ2.out⟩
        · have hiz : ¬ (i : Int) < (x.tasks.length : Int) := by omega
          have he : i = x.tasks.length := by omega
          subst he
          go_wp2
          go_roundg (np - (k + 1))
          case measure => omega
          case rel => exact ⟨k + 1, by omega, by omega, by go_num, BW.out.trans (BI.out.mono (Nat.le_refl _)), by show Wr _ _ _ _; rw [HNX.out]; exact WI.out⟩
    · have hltz : ¬ (k : Int) < (np : Int) := by omega
      have he : k = np := by omega
      subst he
      have HE : Hid (spread x but m k = cl x but m) := by show _ = _; rw [cl, HNP.out, Int.toNat_natCast]
      go_wp2
      go_ret
      exact ⟨g, cg, by rw [cl_len]; rfl, by omega, by rw [← HE.out]; exact WW.out, B1.out.trans (BW.out.mono (by omega))⟩
end Go.Proofs.YtkoaaagmcjjimaaGreat

/- What can be come to from a place, as the program asks: reach. -/
namespace Go.Proofs.YtkoaaagmcjjimaaGreat
open Go.RowKit
set_option linter.unusedSimpArgs false
set_option linter.unusedVariables false

/-- While places are marked: the net's box P, the marks' variable D, the marks in block g. -/
structure RSt (w0 : World) (P D g : Nat) (x : GNet) (A : Option Addr) (c n : Nat) (m : List Bool) (wr : World) : Prop where
  p : Bk wr P 36 (netCells x A c)
  d : Bk wr D 122 #[.slice (some ⟨g, 0, none⟩) n n]
  l : m.length = n
  m : Wr wr g 4 (bv m)
  b : Below w0.heap.size w0 wr
  o1 : P ≠ g
  o2 : D ≠ g
  o3 : w0.heap.size ≤ g
section
variable {w0 wr w' : World} {P D g : Nat} {x : GNet} {A : Option Addr} {c n : Nat} {m : List Bool}
theorem RSt.later (h : RSt w0 P D g x A c n m wr) (hb : Below wr.heap.size wr w') : RSt w0 P D g x A c n m w' :=
  ⟨h.p.later hb, h.d.later hb, h.l, h.m.later hb, h.b.trans (hb.mono h.b.size), h.o1, h.o2, h.o3⟩
theorem RSt.set (h : RSt w0 P D g x A c n m wr) (p : Nat) : RSt w0 P D g x A c n (m.set p true) (wr.setCell ⟨g, p, none⟩ (.bool true)) :=
  ⟨h.p.far (p := ⟨g, p, none⟩) h.o1 _, h.d.far (p := ⟨g, p, none⟩) h.o2 _, by rw [List.length_set]; exact h.l, by rw [← bv_set]; exact h.m.set p _, h.b.setCell (p := ⟨g, p, none⟩) h.o3 _, h.o1, h.o2, h.o3⟩
end

theorem reach_pred (D g n : Nat) (m : List Bool) (xs : List Int) (w : World) (hd : Bk w D 122 #[.slice (some ⟨g, 0, none⟩) n n]) (hm : Wr w g 4 (bv m)) (hx : ∀ y ∈ xs, 0 ≤ y ∧ y < n) (hl : m.length = n) (hl1 : n ≤ 1000) :
    PredIn 109 #[.pointer (some ⟨D, 0, none⟩)] (fun y => bAt m y.toNat) xs w := by
  intro W y hy hb
  obtain ⟨p, rfl⟩ := Int.eq_ofNat_of_zero_le (hx y hy).1
  have hp : p < m.length := by have := (hx _ hy).2; omega
  have hpz : (p : Int) < (n : Int) := by omega
  have hpn : p < n := by omega
  have kd : W.cell? ⟨D, 0, none⟩ = some (.slice (some ⟨g, 0, none⟩) n n) := (hb.cell (p := ⟨D, 0, none⟩) hd.lt).trans (hd.cell 0)
  have km := (hm.below hb hm.lt).cell (bv_get hp)
  show Calls Tryz.prog 109 #[.int .i64 (p : Int), .pointer (some ⟨D, 0, none⟩)] W _
  clear hx hy hd hm hb hl
  go_enter Tryz.func109, Tryz.ntmps109
  go_wp2
  go_ret
  exact ⟨rfl, Below.refl _ _⟩

theorem set_flag {s m : List Bool} (h : LeB s m) (j : Nat) (hj : j < m.length) : (!decide (m.set j true = s)) = ((!decide (m = s)) || !bAt m j) := by
  have := set_new h j hj
  simpa using this
theorem le_markAll (m : List Bool) (fs : List GFlow) : LeB m (markAll m fs) := fun i h => (bAt_markAll fs m i).2 (.inl h)
theorem le_sweepTo0 (x : GNet) (but : Int) (m : List Bool) (i : Nat) : LeB m (sweepTo x but m i) := by
  have := le_sweepTo x but m 0 i
  rwa [Nat.zero_add] at this

set_option maxRecDepth 100000 in
set_option maxHeartbeats 8000000 in
theorem impl_reach (x : GNet) (A : Option Addr) (c : Nat) (place : Nat) (but : Int) (mo : Option Nat) (w : World) (hfit : NetFit x)
    (hx : Rows taskC mo w w.heap.size A x.tasks) (hpl : (place : Int) < x.places) :
    Calls Tryz.prog 95 #[.agg (netCells x A c), .int .i64 place, .int .i64 but] w (GivesB (cl x but (single x.places.toNat place)) w) := by
  obtain ⟨bA, oA, _, _, _, _, _, _, hAA, _⟩ := task_at hx (j := 0) (by have := hfit.1; omega)
  subst hAA
  have eg : ∀ args w, (callFunc 109 args).run Tryz.prog w = .ok (.enter 109 args) w := enters_of Tryz.func109 (by kernel_rfl) rfl
  have HX := Lib.hid hx
  have HF := Lib.hid hfit
  obtain ⟨⟨hp2, hp8, ht1, ht6⟩, _⟩ := hfit
  obtain ⟨np, hnp⟩ := Int.eq_ofNat_of_zero_le (by omega : 0 ≤ x.places)
  have HNP := Lib.hid hnp
  have hnp8 : np ≤ 8 := by omega
  have hplz : (place : Int) < (np : Int) := by omega
  have hpln : place < np := by omega
  have hmk := run_make_row' (P := Tryz.prog) 122 4 (.bool false) 1 Tryz.underlying122 info_bool rfl .i64 .i64 np (by omega) (by omega)
  obtain ⟨s, hs⟩ : ∃ s, s = single x.places.toNat place := ⟨_, rfl⟩
  have HSI : Hid (s = (List.replicate np false).set place true) := by show _ = _; rw [hs, single, hnp, Int.toNat_natCast]
  have HSL : Hid (s.length = np) := by show _ = _; rw [hs, single_len, hnp, Int.toNat_natCast]
  have HSLE : Hid (s.length ≤ x.places.toNat) := by show _ ≤ _; rw [hs, single_len]; exact Nat.le_refl _
  rw [← hs]
  clear hx hnp hpl hs
  go_enter Tryz.func95, Tryz.ntmps95
  have hP0 : ∀ i, (World.alloc w (.cells (netCells x (some ⟨bA, oA, none⟩) c) 36)).cell? ⟨w.heap.size, i, none⟩ = #[Value.int .i64 (np : Int), .slice (some ⟨bA, oA, none⟩) x.tasks.length c][i]? := fun i => by
    rw [← HNP.out]
    exact (Bk.new (t := 36) (cs := netCells x (some ⟨bA, oA, none⟩) c) rfl).cell i
  go_upto_region 2 with fail
  clear hP0 hmk
  generalize hV : World.alloc (World.alloc (World.alloc w _) _) _ = w1
  have S1 : Hid (RSt w w.heap.size (w.heap.size + 2) (w.heap.size + 1) x (some ⟨bA, oA, none⟩) c np (List.replicate np false) w1) := by
    show RSt _ _ _ _ _ _ _ _ _ _
    rw [← hV]
    refine ⟨((Bk.new rfl).alloc _).alloc _, Bk.new (by simp), by simp, ?_, (((Below.refl _ _).alloc (Nat.le_refl _) _).alloc (by simp) _).alloc (by simp; omega) _, by omega, by omega, by omega⟩
    · have h := Wr.new (World.alloc w (.cells (netCells x (some ⟨bA, oA, none⟩) c) 36)) 4 (madeCells #[.bool false] np)
      rw [toList_madeCells_one] at h
      have h2 := h.alloc (.cells #[.slice (some ⟨w.heap.size + 1, 0, none⟩) np np] 122)
      simpa [bv] using h2
  clear hV
  have S2 := Lib.hid (S1.out.set place)
  rw [← HSI.out] at S2
  have kD := S1.out.d.cell 0
  have kG := S1.out.m.cell (bv_get (i := place) (by simp; omega))
  have fG := S1.out.m.frozen place
  go_upto_region 3 with fail
  clear kD kG fG S1
  generalize World.setCell w1 _ _ = w2 at S2 ⊢
  go_wp2
  go_loopg [8] (np + 2) (fun gg s8 wr => ∃ (k : Nat) (ch : Bool), (if ch = true then cntF (spread x but s k) + 1 else 0) ≤ gg ∧ s8 = .bool ch ∧ Aside (ch = false → sweep x but (spread x but s k) = spread x but s k) ∧ Aside (RSt w w.heap.size (w.heap.size + 2) (w.heap.size + 1) x (some ⟨bA, oA, none⟩) c np (spread x but s k) wr))
  case atStart => exact ⟨0, true, by simp only [if_true]; have := cnt_len s; rw [HSL.out] at this; show cntF s + 1 ≤ _; omega, rfl, (fun h => Bool.noConfusion h), S2.out⟩
  case round =>
    obtain ⟨k, ch, hg, rfl, CF, SS⟩ := hrel
    cases ch with
    | false =>
      have HE : Hid (spread x but s k = cl x but s) := cl_eq HSLE.out k rfl (CF.out rfl)
      have kD := SS.out.d.cell 0
      have hcl : (cl x but s).length = np := by rw [cl_len]; exact HSL.out
      have HCL := Lib.hid hcl
      clear hcl hg
      go_wp2
      go_ret
      exact ⟨w.heap.size + 1, np, by rw [HCL.out]; rfl, by omega, by rw [← HE.out]; exact SS.out.m, SS.out.b⟩
    | true =>
      simp only [if_true] at hg
      have HG := Lib.hid hg
      have HNX := Lib.hid (spread_next x but s k)
      have HCK := Lib.hid (fun (h1 : ¬ sweep x but (spread x but s k) = spread x but s k) => cnt_lt (m := spread x but s k) (m' := sweep x but (spread x but s k)) (by rw [sweep, sweepTo_len]) (le_sweep x but _) (fun h => h1 h.symm))
      generalize hm0 : spread x but s k = m0 at SS HNX HCK HG
      have HM0 := Lib.hid hm0
      clear hm0 CF hg
      obtain ⟨wo, hwo⟩ : ∃ wo : World, wo = wr := ⟨_, rfl⟩
      subst hwo
      have k0 := fun i => SS.out.p.cell i
      rw [show netCells x (some ⟨bA, oA, none⟩) c = #[.int .i64 x.places, .slice (some ⟨bA, oA, none⟩) x.tasks.length c] from rfl] at k0
      go_wp2
      clear k0
      go_loopg [8, 9, 10, 12, 23] x.tasks.length (fun gg s8 _ _ _ s23 wr => ∃ i : Nat, i ≤ x.tasks.length ∧ x.tasks.length - i ≤ gg ∧ s23 = .int .i64 i ∧ s8 = .bool (!decide (sweepTo x but m0 i = m0)) ∧ Aside (RSt w w.heap.size (w.heap.size + 2) (w.heap.size + 1) x (some ⟨bA, oA, none⟩) c np (sweepTo x but m0 i) wr))
      case atStart => exact ⟨0, Nat.zero_le _, by omega, rfl, by simp [sweepTo], SS.out⟩
      case round =>
        obtain ⟨i, hi, hgi, rfl, rfl, SI⟩ := hrel
        have BX := Lib.hid SI.out.b
        by_cases hil : i < x.tasks.length
        · have hiz : (i : Int) < (x.tasks.length : Int) := by omega
          have hfx := HF.out.2 i hil
          obtain ⟨b, off, a1, d1, a2, d2, a3, d3, hA, hbb, ⟨r1, r2, r3⟩, e0, e1, e2, e3, e4, e5, e6, e7, e8⟩ := task_at (HX.out.below BX.out) hil
          cases hA
          have HNO : Hid (fires (sweepTo x but m0 i) x.tasks[i] = false ∨ (i : Int) = but → sweepTo x but m0 (i + 1) = sweepTo x but m0 i) := fun h => step_no (by rw [taskAt_get hil]; exact h)
          have HYES : Hid (fires (sweepTo x but m0 i) x.tasks[i] = true → (i : Int) ≠ but → sweepTo x but m0 (i + 1) = markAll (sweepTo x but m0 i) x.tasks[i].out) := fun h h2 => by
            have h3 := step_yes (x := x) (but := but) (m := sweepTo x but m0 i) (k := i) (by rw [taskAt_get hil]; exact h) h2
            rw [taskAt_get hil] at h3
            exact h3
          have HLE := Lib.hid (le_sweepTo0 x but m0 i)
          generalize x.tasks[i] = y at HNO HYES hfx r1 r2 r3 e0 e1 e2 e3 e4 e5 e6 e7 e8
          generalize sweepTo x but m0 i = mi at HNO HYES HLE SI ⊢
          obtain ⟨⟨hin3, hout3⟩, hin, hout⟩ := hfx
          have HIN : Hid (∀ z ∈ y.inn, 0 ≤ z ∧ z < (np : Int)) := fun z hz => by have := hin z hz; have := HNP.out; omega
          have HOUT := Lib.hid hout
          have R1 := Lib.hid r1
          have R2 := Lib.hid r2
          have hlw := BX.out.size
          clear r1 r2 r3 hin hout
          obtain ⟨wi, hwi⟩ : ∃ wi : World, wi = wr := ⟨_, rfl⟩
          subst hwi
          go_upto_region 9 with fail
          clear e0 e1 e2 e3 e4 e5 e6 e7 e8
          generalize hV : World.alloc wi _ = wv
          have hbv : Below wi.heap.size wi wv := by rw [← hV]; exact (Below.refl _ _).alloc (Nat.le_refl _) _
          have TB : Hid (Bk wv wi.heap.size 82 #[.int .i64 y.join, .int .i64 y.split, .slice a1 y.inn.length d1, .slice a2 y.out.length d2, .slice a3 y.clear.length d3, .int .i64 y.role, .int .i64 y.apart, .int .i64 y.all, .int .i64 y.need]) := by show Bk _ _ _ _; rw [← hV]; exact Bk.new rfl
          have SV := Lib.hid (SI.out.later hbv)
          have R1 := Lib.hid (R1.out.ints.below (hbv.mono (by omega)))
          have R2 := Lib.hid (R2.out.below (hbv.mono (by omega)))
          have hlv := hbv.size
          clear hV hbv
          have kT := fun i => TB.out.cell i
          by_cases hbut : (i : Int) = but
          · have hb1 : ((i : Int) == but) = true := by simp [hbut]
            have HN2 := Lib.hid (HNO.out (.inr hbut))
            clear hbut
            go_wp2
            go_roundg (x.tasks.length - (i + 1))
            case measure => omega
            case rel => exact ⟨i + 1, by omega, by omega, by go_num, by rw [HN2.out], by show RSt _ _ _ _ _ _ _ _ _ _; rw [HN2.out]; exact SV.out⟩
          have hb1 : ((i : Int) == but) = false := by simp [hbut]
          have HBUT := Lib.hid hbut
          clear hbut
          go_wp2_with fail
          clear kT
          refine (containsFunc_in _ _ _ eg _ _ y.inn _ (reach_pred (w.heap.size + 2) (w.heap.size + 1) np mi y.inn wv SV.out.d SV.out.m HIN.out SV.out.l (by omega)) (R1.out.more (by omega))).mono ?_
          rintro e w5 ⟨rfl, hb5⟩
          have TB := Lib.hid (TB.out.later hb5)
          have S5 := Lib.hid (SV.out.later hb5)
          have R2 := Lib.hid (R2.out.below (hb5.mono (by omega)))
          have hl5 := hb5.size
          clear hb5
          have kT := fun i => TB.out.cell i
          cases q : fires mi y with
          | false =>
            have q' : (y.inn.any fun z => bAt mi z.toNat) = false := q
            rw [q']
            have HN2 := Lib.hid (HNO.out (.inl q))
            clear q q'
            go_wp2
            go_roundg (x.tasks.length - (i + 1))
            case measure => omega
            case rel => exact ⟨i + 1, by omega, by omega, by go_num, by rw [HN2.out], by show RSt _ _ _ _ _ _ _ _ _ _; rw [HN2.out]; exact S5.out⟩
          | true =>
            have q' : (y.inn.any fun z => bAt mi z.toNat) = true := q
            rw [q']
            have HN2 := Lib.hid (HYES.out q HBUT.out)
            clear q q'
            go_wp2
            clear kT
            go_loopg [8, 12, 41] y.out.length (fun gg s8 _ s41 wr => ∃ j : Nat, j ≤ y.out.length ∧ y.out.length - j ≤ gg ∧ s41 = .int .i64 j ∧ s8 = .bool (!decide (markAll mi (y.out.take j) = m0)) ∧ Aside (RSt w w.heap.size (w.heap.size + 2) (w.heap.size + 1) x (some ⟨bA, oA, none⟩) c np (markAll mi (y.out.take j)) wr))
            case atStart => exact ⟨0, Nat.zero_le _, by omega, rfl, rfl, S5.out⟩
            case round =>
              obtain ⟨j, hj, hgj, rfl, rfl, SJ⟩ := hrel
              by_cases hjl : j < y.out.length
              · have hjz : (j : Int) < (y.out.length : Int) := by omega
                have RJ : Hid (Rows flowC mo wr w.heap.size a2 y.out) := R2.out.keep fun b hb _ => (SJ.out.b.block b hb).trans (S5.out.b.block b hb).symm
                obtain ⟨b2, o2, hA2, _, f0, f1, f2, f3⟩ := flow_at RJ.out hjl
                subst hA2
                have hpb := HOUT.out _ (List.getElem_mem hjl)
                have hsn := markAll_snoc mi y.out j hjl
                have hle := HLE.out.trans (le_markAll mi (y.out.take j))
                have hml := SJ.out.l
                generalize y.out[j] = f at f0 f1 f2 f3 hpb hsn
                obtain ⟨fto, fa⟩ := f
                obtain ⟨p, rfl⟩ := Int.eq_ofNat_of_zero_le (by have := hpb.1; simp only at this; omega : 0 ≤ fto)
                simp only at f0 f1 f2 f3 hpb hsn
                rw [Int.toNat_natCast] at hsn
                have hpn : p < np := by have := HNP.out; omega
                have hpz : (p : Int) < (np : Int) := by omega
                have hfl := set_flag hle p (by omega)
                rw [← hsn] at hfl
                have SN := SJ.out.set p
                rw [← hsn] at SN
                have HFL := Lib.hid hfl
                have HSN := Lib.hid hsn
                generalize hcur : markAll mi (y.out.take j) = cur at SJ HSN HFL hml ⊢
                clear hsn hfl hle SN hcur
                have hlj := SJ.out.b.size
                go_upto_region 13 with fail
                clear f0 f1 f2 f3
                generalize hV : World.alloc wr _ = wf
                have hbf : Below wr.heap.size wr wf := by rw [← hV]; exact (Below.refl _ _).alloc (Nat.le_refl _) _
                have FB : Hid (Bk wf wr.heap.size 111 #[.int .i64 (p : Int), .int .i64 fa.op, .int .i64 fa.var, .int .i64 fa.k]) := by show Bk _ _ _ _; rw [← hV]; exact Bk.new rfl
                have SF := Lib.hid (SJ.out.later hbf)
                clear hV hbf
                have kF := fun i => FB.out.cell i
                have kD := SF.out.d.cell 0
                have kG := SF.out.m.cell (bv_get (i := p) (by rw [SF.out.l]; exact hpn))
                have fG := SF.out.m.frozen p
                have SN := Lib.hid (SF.out.set p)
                cases hq : (!decide (cur = m0)) <;> cases hq2 : bAt cur p
                all_goals
                  rw [hq2] at kG
                  rw [hq, hq2] at HFL
                  go_wp2
                  go_roundg (y.out.length - (j + 1))
                  case measure => omega
                  case rel => exact ⟨j + 1, by omega, by omega, by go_num, by rw [HFL.out]; rfl, by show RSt _ _ _ _ _ _ _ _ _ _; rw [HSN.out]; exact SN.out⟩
              · have hjz : ¬ (j : Int) < (y.out.length : Int) := by omega
                have he : j = y.out.length := by omega
                subst he
                have HTL : Hid (markAll mi (y.out.take y.out.length) = markAll mi y.out) := by show _ = _; rw [List.take_length]
                go_wp2
                go_roundg (x.tasks.length - (i + 1))
                case measure => omega
                case rel => exact ⟨i + 1, by omega, by omega, by go_num, by rw [HN2.out], by show RSt _ _ _ _ _ _ _ _ _ _; rw [HN2.out, ← HTL.out]; exact SJ.out⟩
        · have hiz : ¬ (i : Int) < (x.tasks.length : Int) := by omega
          have he : i = x.tasks.length := by omega
          subst he
          by_cases hsame : sweepTo x but m0 x.tasks.length = m0
          · have hd : (!decide (sweepTo x but m0 x.tasks.length = m0)) = false := by simp [hsame]
            have HS := Lib.hid hsame
            clear hsame
            rw [hd]
            clear hd
            go_wp2
            go_roundg 0
            case measure => have := HG.out; omega
            case rel => exact ⟨k + 1, false, by simp, rfl, (fun _ => by rw [HNX.out, HS.out]; exact HS.out), by show RSt _ _ _ _ _ _ _ _ _ _; rw [HNX.out]; exact SI.out⟩
          · have hd : (!decide (sweepTo x but m0 x.tasks.length = m0)) = true := by simp [hsame]
            have HC2 := Lib.hid (HCK.out hsame)
            clear hsame
            rw [hd]
            clear hd
            go_wp2
            go_roundg (cntF m0)
            case measure => have := HG.out; omega
            case rel => exact ⟨k + 1, true, by rw [if_pos rfl, HNX.out]; have := HC2.out; unfold sweep at this; omega, rfl, (fun h => Bool.noConfusion h), by show RSt _ _ _ _ _ _ _ _ _ _; rw [HNX.out]; exact SI.out⟩
end Go.Proofs.YtkoaaagmcjjimaaGreat

/- Which tasks may begin, as the reference asks: l3Some, l3Coming, l3Can, EnaCan, EnaTasks. -/
namespace Go.Proofs.YtkoaaagmcjjimaaGreat
open Go.RowKit
set_option linter.unusedSimpArgs false
set_option linter.unusedVariables false

theorem all_snocB {α : Type} (p : α → Bool) (xs : List α) (k : Nat) (hk : k < xs.length) : (xs.take (k + 1)).all p = ((xs.take k).all p && p xs[k]) := by
  rw [List.take_succ_eq_append_getElem hk, List.all_append]; simp
theorem getD_at {ms : List Int} {p : Nat} (h : p < ms.length) : ms.getD p 0 = ms[p] := by simp [List.getD_eq_getElem?_getD, List.getElem?_eq_getElem h]

set_option maxRecDepth 100000 in
set_option maxHeartbeats 1000000 in
theorem spec_l3Some (A : Option Addr) (c : Nat) (ms : List Int) (A2 : Option Addr) (c2 : Nat) (l : List Int) (w : World) (B : Nat) (h1 : Ints w B A ms) (h2 : Ints w B A2 l) (hb : ∀ y ∈ l, 0 ≤ y ∧ y < ms.length) :
    Calls Tryz.prog 84 #[.slice A ms.length c, .slice A2 l.length c2] w fun e w' => e = .returned (.tuple #[.bool (someP ms l), .bool (allP ms l)]) ∧ w = w' := by
  have n1 := h1.1
  have n2 := h2.1
  have H1 := Lib.hid h1
  have H2 := Lib.hid h2
  have HB := Lib.hid hb
  clear h1 h2 hb
  go_enter Tryz.func84, Tryz.ntmps84
  go_wp2
  go_loopg [6, 7, 8] l.length (fun gg s6 s7 s8 wr => ∃ k : Nat, k ≤ l.length ∧ l.length - k ≤ gg ∧ s8 = .int .i64 k ∧ s6 = .bool (someP ms (l.take k)) ∧ s7 = .bool (allP ms (l.take k)) ∧ Aside (w = wr))
  case atStart => exact ⟨0, Nat.zero_le _, by omega, rfl, by simp [someP], by simp [allP], rfl⟩
  case round =>
    obtain ⟨k, hk, hg, rfl, rfl, rfl, EW⟩ := hrel
    obtain rfl := EW.out
    by_cases hlt : k < l.length
    · have hltz : (k : Int) < (l.length : Int) := by omega
      have hyb := HB.out _ (List.getElem_mem hlt)
      obtain ⟨p, hp⟩ := Int.eq_ofNat_of_zero_le hyb.1
      have hs := anyB_snoc (fun p => decide (0 < mAt ms p)) l k hlt
      have ha := all_snocB (fun p => decide (0 < mAt ms p)) l k hlt
      obtain ⟨b2, o2, rfl, hb2, hc2⟩ := H2.out.at_ hlt
      rw [hp] at hyb hs ha hc2
      have hpl : p < ms.length := by omega
      have hpz : (p : Int) < (ms.length : Int) := by omega
      obtain ⟨b1, o1, rfl, hb1, hc1⟩ := H1.out.at_ hpl
      have hz : mAt ms (p : Int) = ms[p] := by rw [mAt, Int.toNat_natCast, getD_at hpl]
      rw [hz] at hs ha
      have HS : Hid (someP ms (l.take (k + 1)) = (someP ms (l.take k) || decide (0 < ms[p]))) := hs
      have HA : Hid (allP ms (l.take (k + 1)) = (allP ms (l.take k) && decide (0 < ms[p]))) := ha
      generalize ms[p] = z at hc1 HS HA
      clear hs ha hz hp
      by_cases h0 : 0 < z
      · have hd : decide (0 < z) = true := by simp [h0]
        rw [hd] at HS HA
        cases q1 : someP ms (l.take k) <;> cases q2 : allP ms (l.take k)
        all_goals
          rw [q1] at HS
          rw [q2] at HA
          go_wp2
          go_roundg (l.length - (k + 1))
          case measure => omega
          case rel => exact ⟨k + 1, by omega, by omega, by go_num, by rw [HS.out]; rfl, by rw [HA.out]; rfl, rfl⟩
      · have hd : decide (0 < z) = false := by simp; omega
        rw [hd] at HS HA
        cases q1 : someP ms (l.take k) <;> cases q2 : allP ms (l.take k)
        all_goals
          rw [q1] at HS
          rw [q2] at HA
          go_wp2
          go_roundg (l.length - (k + 1))
          case measure => omega
          case rel => exact ⟨k + 1, by omega, by omega, by go_num, by rw [HS.out]; rfl, by rw [HA.out]; rfl, rfl⟩
    · have hltz : ¬ (k : Int) < (l.length : Int) := by omega
      have he : k = l.length := by omega
      subst he
      go_wp2
      go_ret2
      exact ⟨rfl, rfl⟩

theorem fromTo_zero (n : Nat) (ms : List Int) (t : GTask) : bv (fromTo n ms t 0) = List.replicate n (Value.bool false) := by simp [fromTo, bv]
theorem bvf_len {n : Nat} {ms : List Int} {t : GTask} {k : Nat} (h : k ≤ n) : (bv (fromTo n ms t k)).length = n := by rw [bv_len, fromTo_len h]

set_option maxRecDepth 100000 in
set_option maxHeartbeats 4000000 in
theorem spec_l3Coming (x : GNet) (A : Option Addr) (c : Nat) (A1 : Option Addr) (c1 : Nat) (ms : List Int) (A2 : Option Addr) (c2 : Nat) (bs : List GItem) (k : Nat) (mo m2 : Option Nat) (w : World) (hfit : NetFit x)
    (hx : Rows taskC mo w w.heap.size A x.tasks) (h1 : Ints w w.heap.size A1 ms) (h2 : Rows itemC m2 w w.heap.size A2 bs) (hml : (ms.length : Int) = x.places) (hk : k < x.tasks.length) (hbs : ∀ b ∈ bs, 0 ≤ b.task ∧ b.task < x.tasks.length) :
    Calls Tryz.prog 85 #[.agg (netCells x A c), .slice A1 ms.length c1, .slice A2 bs.length c2, .int .i64 k] w (Says (.bool (coming x ms bs k)) w) := by
  obtain ⟨bA, oA, a1, d1, a2, d2, a3, d3, hAA, hbb, ⟨r1, r2, r3⟩, e0, e1, e2, e3, e4, e5, e6, e7, e8⟩ := task_at hx hk
  subst hAA
  have hfx := hfit.2 k hk
  have HCO : Hid (coming x ms bs k = hitB ms x.tasks[k] (cl x k (fromB x ms bs x.tasks[k]))) := by show _ = _; rw [coming, taskAt_get hk]
  generalize x.tasks[k] = y at hfx r1 r2 r3 e0 e1 e2 e3 e4 e5 e6 e7 e8 HCO
  obtain ⟨⟨hin3, hout3⟩, hin, _⟩ := hfx
  have HIN := Lib.hid hin
  have nb := h2.1
  have hkz : (k : Int) < (x.tasks.length : Int) := by omega
  have HX := Lib.hid hx
  have H1 := Lib.hid h1
  have H2 := Lib.hid h2
  have R1 := Lib.hid r1
  have HBS := Lib.hid hbs
  have HF := Lib.hid hfit
  obtain ⟨⟨hp2, hp8, ht1, ht6⟩, _⟩ := hfit
  obtain ⟨np, hnp⟩ := Int.eq_ofNat_of_zero_le (by omega : 0 ≤ x.places)
  have HML : Hid (ms.length = np) := (by omega : ms.length = np)
  have hml2 : np ≤ ms.length := by omega
  have HNP := Lib.hid hnp
  have hnp8 : np ≤ 8 := by omega
  have hnp2 : 2 ≤ np := by omega
  have TC : Hid (∀ W : World, Below w.heap.size w W → W.cell? ⟨bA, oA + k * 9 + 2, none⟩ = some (.slice a1 y.inn.length d1)) := fun W hb => (hb.cell (p := ⟨bA, oA + k * 9 + 2, none⟩) hbb).trans e2
  clear hx h1 h2 hml hbs hin r1 r2 r3 e0 e1 e2 e3 e4 e5 e6 e7 e8 hnp
  have hmk := run_make_row' (P := Tryz.prog) 122 4 (.bool false) 1 Tryz.underlying122 info_bool rfl .i64 .i64 np (by omega) (by omega)
  go_enter Tryz.func85, Tryz.ntmps85
  have hP0 : ∀ i, (World.alloc w (.cells (netCells x (some ⟨bA, oA, none⟩) c) 36)).cell? ⟨w.heap.size, i, none⟩ = #[Value.int .i64 (np : Int), .slice (some ⟨bA, oA, none⟩) x.tasks.length c][i]? := fun i => by
    rw [← HNP.out]
    exact (Bk.new (t := 36) (cs := netCells x (some ⟨bA, oA, none⟩) c) rfl).cell i
  go_upto_region 2 with fail
  clear hP0 hmk
  generalize hV : World.alloc (World.alloc w _) _ = w1
  have P1 : Hid (Bk w1 w.heap.size 36 (netCells x (some ⟨bA, oA, none⟩) c)) := by show Bk _ _ _ _; rw [← hV]; exact (Bk.new rfl).alloc _
  have B1 : Hid (Below w.heap.size w w1) := by show Below _ _ _; rw [← hV]; exact ((Below.refl _ _).alloc (Nat.le_refl _) _).alloc (by simp) _
  have HW : Hid (Wr w1 (w.heap.size + 1) 4 (bv (fromTo np ms y 0))) := by
    show Wr _ _ _ _
    have h := Wr.new (World.alloc w (.cells (netCells x (some ⟨bA, oA, none⟩) c) 36)) 4 (madeCells #[.bool false] np)
    rw [toList_madeCells_one] at h
    rw [← hV, fromTo_zero]
    simpa using h
  have hl1 := HW.out.lt
  clear hV
  go_wp2
  go_loopg [10] np (fun gg s10 wr => ∃ p : Nat, p ≤ np ∧ np - p ≤ gg ∧ s10 = .int .i64 p ∧ Aside (Below (w.heap.size + 1) w1 wr) ∧ Aside (Wr wr (w.heap.size + 1) 4 (bv (fromTo np ms y p))))
  case atStart => exact ⟨0, Nat.zero_le _, by omega, rfl, Below.refl _ _, HW.out⟩
  case round =>
    obtain ⟨p, hp, hg, rfl, BW, WW⟩ := hrel
    have PW : Hid (Bk wr w.heap.size 36 (netCells x (some ⟨bA, oA, none⟩) c)) := P1.out.belowG BW.out (by omega)
    have BX : Hid (Below w.heap.size w wr) := B1.out.trans (BW.out.mono (by omega))
    have k0 := fun i => PW.out.cell i
    rw [show netCells x (some ⟨bA, oA, none⟩) c = #[.int .i64 x.places, .slice (some ⟨bA, oA, none⟩) x.tasks.length c] from rfl, HNP.out] at k0
    have t2 := TC.out _ BX.out
    by_cases hlt : p < np
    · have hltz : (p : Int) < (np : Int) := by omega
      have hpm : p < ms.length := by omega
      have hpz : (p : Int) < (ms.length : Int) := by omega
      obtain ⟨b1, o1, hA1, hb1, hc1⟩ := (H1.out.below BX.out).at_ hpm
      subst hA1
      have hst := fromTo_set (n := np) (ms := ms) (t := y) hlt
      have hfa : fromAt ms y p = (decide (0 < ms[p]) && !(y.inn.any fun z => decide (z = (p : Int)))) := by rw [fromAt, getD_at hpm]
      have hold := WW.out.cell (bv_get (m := fromTo np ms y p) (i := p) (by rw [fromTo_len (by omega)]; exact hlt))
      have hfr := WW.out.frozen p
      generalize hq : fromAt ms y p = q at hst hfa
      have hset := WW.out.set p (.bool q)
      rw [bv_set, hst] at hset
      have HSET := Lib.hid hset
      have HBS2 := Lib.hid (BW.out.setCell (p := ⟨w.heap.size + 1, p, none⟩) (Nat.le_refl _) (.bool q))
      generalize ms[p] = z at hc1 hfa
      clear hst hset hq
      by_cases h0 : 0 < z
      · have hq2 : (!(y.inn.any fun z => decide (z = (p : Int)))) = q := by rw [hfa]; simp [h0]
        have HQ2 := Lib.hid hq2
        clear hfa hq2
        go_wp2_with (go_at_call 87; refine (l2Has _ _ y.inn _ _ w.heap.size (R1.out.below BX.out).ints).mono ?_; rintro e w' ⟨rfl, rfl⟩; rw [← Bool.not_not (y.inn.any _), HQ2.out])
        go_roundg (np - (p + 1))
        case measure => omega
        case rel => exact ⟨p + 1, by omega, by omega, by go_num, HBS2.out, HSET.out⟩
      · have hq2 : q = false := by rw [hfa]; simp; omega
        subst hq2
        clear hfa
        go_wp2
        go_roundg (np - (p + 1))
        case measure => omega
        case rel => exact ⟨p + 1, by omega, by omega, by go_num, HBS2.out, HSET.out⟩
    · have hltz : ¬ (p : Int) < (np : Int) := by omega
      have he : p = np := by omega
      subst he
      have hfl : (fromTo p ms y p).length = p := fromTo_len (Nat.le_refl _)
      have HFB : Hid (fromB x ms bs y = busyTo x (fromTo p ms y p) bs) := by show _ = _; rw [fromB, HNP.out, Int.toNat_natCast]
      generalize fromTo p ms y p = fr at WW hfl HFB
      have HFL := Lib.hid hfl
      clear hfl t2 hg hlt hltz
      obtain ⟨wo, hwo⟩ : ∃ wo : World, wo = wr := ⟨_, rfl⟩
      subst hwo
      go_wp2
      clear k0
      go_loopg [11] bs.length (fun gg s11 wr => ∃ i : Nat, i ≤ bs.length ∧ bs.length - i ≤ gg ∧ s11 = .int .i64 i ∧ Aside (Below (w.heap.size + 1) w1 wr) ∧ Aside (Wr wr (w.heap.size + 1) 4 (bv (busyTo x fr (bs.take i)))))
      case atStart => exact ⟨0, Nat.zero_le _, by omega, rfl, BW.out, WW.out⟩
      case round =>
        obtain ⟨i, hi, hgi, rfl, BI, WI⟩ := hrel
        have PI : Hid (Bk wr w.heap.size 36 (netCells x (some ⟨bA, oA, none⟩) c)) := P1.out.belowG BI.out (by omega)
        have BXI : Hid (Below w.heap.size w wr) := B1.out.trans (BI.out.mono (by omega))
        have k0 := fun i => PI.out.cell i
        rw [show netCells x (some ⟨bA, oA, none⟩) c = #[.int .i64 x.places, .slice (some ⟨bA, oA, none⟩) x.tasks.length c] from rfl] at k0
        by_cases hil : i < bs.length
        · have hiz : (i : Int) < (bs.length : Int) := by omega
          obtain ⟨b3, o3, hA3, hb3, f0, f1, f2⟩ := item_at (H2.out.below BXI.out) hil
          subst hA3
          have hbt := HBS.out _ (List.getElem_mem hil)
          have hsn := busyTo_snoc x fr bs i hil
          obtain ⟨q, hq⟩ := Int.eq_ofNat_of_zero_le hbt.1
          rw [hq] at f0 hbt hsn
          rw [Int.toNat_natCast] at hsn
          have hql : q < x.tasks.length := by omega
          have hqz : (q : Int) < (x.tasks.length : Int) := by omega
          rw [taskAt_get hql] at hsn
          obtain ⟨bA', oA', a1', d1', a2', d2', a3', d3', hAA', hbb', ⟨_, r2', _⟩, _, _, _, e3', _, _, _, _, _⟩ := task_at HX.out hql
          cases hAA'
          have hfx' := HF.out.2 q hql
          have hv3 := hfx'.1.2
          have hmi : (busyTo x fr (bs.take i)).length = p := by rw [busyTo_len, HFL.out]
          generalize x.tasks[q] = v at hsn r2' e3' hfx' hv3
          generalize busyTo x fr (bs.take i) = mi at hsn hmi WI
          have HSN := Lib.hid hsn
          have HMI := Lib.hid hmi
          have TV : Hid (∀ W : World, Below w.heap.size w W → W.cell? ⟨bA, oA + q * 9 + 3, none⟩ = some (.slice a2' v.out.length d2')) := fun W hb => (hb.cell (p := ⟨bA, oA + q * 9 + 3, none⟩) hbb').trans e3'
          have R2 := Lib.hid r2'
          have HOUT := Lib.hid hfx'.2.2
          have t3 := TV.out _ BXI.out
          clear hsn hmi r2' e3' hfx' hq f1 f2
          obtain ⟨wi, hwi⟩ : ∃ wi : World, wi = wr := ⟨_, rfl⟩
          subst hwi
          go_wp2
          go_quiet (fail)
          go_wp2
          clear k0 t3
          go_loopg [13] v.out.length (fun gg s13 wr => ∃ j : Nat, j ≤ v.out.length ∧ v.out.length - j ≤ gg ∧ s13 = .int .i64 j ∧ Aside (Below (w.heap.size + 1) wi wr) ∧ Aside (Wr wr (w.heap.size + 1) 4 (bv (markAll mi (v.out.take j)))))
          case atStart => exact ⟨0, Nat.zero_le _, by omega, rfl, bdN (Below.refl _ _) _, WI.out⟩
          case round =>
            obtain ⟨j, hj, hgj, rfl, BJ, WJ⟩ := hrel
            have BXJ : Hid (Below w.heap.size w wr) := BXI.out.trans (BJ.out.mono (by omega))
            by_cases hjl : j < v.out.length
            · have hjz : (j : Int) < (v.out.length : Int) := by omega
              obtain ⟨b2, o2, hA2, _, f0, f1, f2, f3⟩ := flow_at (R2.out.below BXJ.out) hjl
              subst hA2
              have hpb := HOUT.out _ (List.getElem_mem hjl)
              have hsn := markAll_snoc mi v.out j hjl
              have hml : (markAll mi (v.out.take j)).length = p := by rw [markAll_len, HMI.out]
              obtain ⟨z, hz⟩ := Int.eq_ofNat_of_zero_le (by omega : 0 ≤ v.out[j].to)
              rw [hz] at f0 hpb hsn
              rw [Int.toNat_natCast] at hsn
              have hzm : z < p := by have := HNP.out; omega
              have hzz : (z : Int) < (p : Int) := by omega
              have hold := WJ.out.cell (bv_get (m := markAll mi (v.out.take j)) (i := z) (by omega))
              have hfr := WJ.out.frozen z
              have hset := WJ.out.set z (.bool true)
              rw [bv_set, ← hsn] at hset
              have HSET := Lib.hid hset
              have HBS := Lib.hid (BJ.out.setCell (p := ⟨w.heap.size + 1, z, none⟩) (Nat.le_refl _) (.bool true))
              clear hsn hz hset hml f1 f2 f3
              go_wp2
              go_roundg (v.out.length - (j + 1))
              case measure => omega
              case rel => exact ⟨j + 1, by omega, by omega, by go_num, HBS.out, HSET.out⟩
            · have hjz : ¬ (j : Int) < (v.out.length : Int) := by omega
              have he : j = v.out.length := by omega
              subst he
              have WJ2 : Hid (Wr wr (w.heap.size + 1) 4 (bv (markAll mi v.out))) := by
                have h := WJ.out
                rw [List.take_length] at h
                exact h
              go_wp2
              go_roundg (bs.length - (i + 1))
              case measure => omega
              case rel => exact ⟨i + 1, by omega, by omega, by go_num, BI.out.trans BJ.out, by show Wr _ _ _ _; rw [HSN.out]; exact WJ2.out⟩
        · have hiz : ¬ (i : Int) < (bs.length : Int) := by omega
          have he : i = bs.length := by omega
          subst he
          have WF : Hid (Wr wr (w.heap.size + 1) 4 (bv (fromB x ms bs y))) := by
            have h := WI.out
            rw [List.take_length, ← HFB.out] at h
            exact h
          have hsp := spec_l2Spread x (some ⟨bA, oA, none⟩) c (w.heap.size + 1) p (fromB x ms bs y) (k : Int) mo wr HF.out (HX.out.later BXI.out) WF.out (fromB_len _ _ _ _)
          have hfb : (fromB x ms bs y).length = p := by rw [fromB_len, HNP.out, Int.toNat_natCast]
          have hcl : (cl x k (fromB x ms bs y)).length = p := by rw [cl_len, hfb]
          rw [hfb] at hsp
          unfold GivesB at hsp
          rw [hcl] at hsp
          have HSP := Lib.hid hsp
          have HCO2 : Hid (coming x ms bs k = hitB ms y (cl x k (fromB x ms bs y))) := HCO.out
          generalize cl x k (fromB x ms bs y) = cc at HSP HCO2 hcl
          have HCL := Lib.hid hcl
          clear hsp hfb hcl
          go_wp2_with fail
          refine HSP.out.mono ?_
          rintro e w5 ⟨g5, c5, rfl, hg5, hw5, hb5⟩
          have P5 := Lib.hid (PI.out.later hb5)
          have B5 := Lib.hid (BXI.out.trans (hb5.mono BXI.out.size))
          have W5 := Lib.hid hw5
          clear hb5 hw5 k0 HSP
          have k0 := fun i => P5.out.cell i
          rw [show netCells x (some ⟨bA, oA, none⟩) c = #[.int .i64 x.places, .slice (some ⟨bA, oA, none⟩) x.tasks.length c] from rfl] at k0
          have t2 := TC.out _ B5.out
          go_wp2
          go_loopg [15] y.inn.length (fun gg s15 wr => ∃ j : Nat, j ≤ y.inn.length ∧ y.inn.length - j ≤ gg ∧ s15 = .int .i64 j ∧ Aside (w5 = wr) ∧ Aside ((y.inn.take j).any (fun q => decide (mAt ms q = 0) && bAt cc q.toNat) = false))
          case atStart => exact ⟨0, Nat.zero_le _, by omega, rfl, rfl, by show (y.inn.take 0).any _ = false; simp⟩
          case round =>
            obtain ⟨j, hj, hgj, rfl, EW, AN⟩ := hrel
            obtain rfl := EW.out
            by_cases hjl : j < y.inn.length
            · have hjz : (j : Int) < (y.inn.length : Int) := by omega
              obtain ⟨b1, o1, hA1, _, hc1⟩ := (R1.out.below B5.out).ints.at_ hjl
              subst hA1
              have hpb := HIN.out _ (List.getElem_mem hjl)
              have hmiss := any_miss (fun q => decide (mAt ms q = 0) && bAt cc q.toNat) y.inn j hjl AN.out
              have hhit := any_hit (fun q => decide (mAt ms q = 0) && bAt cc q.toNat) y.inn j hjl
              obtain ⟨q, hq⟩ := Int.eq_ofNat_of_zero_le hpb.1
              rw [hq] at hc1 hpb hmiss hhit
              rw [Int.toNat_natCast] at hmiss hhit
              have hqp : q < p := by have := HNP.out; omega
              have hqm : q < ms.length := by omega
              have hqz : (q : Int) < (p : Int) := by omega
              have hqz2 : (q : Int) < (ms.length : Int) := by omega
              obtain ⟨b4, o4, hA4, _, hc4⟩ := (H1.out.below B5.out).at_ hqm
              subst hA4
              have hcb := W5.out.cell (bv_get (m := cc) (i := q) (by have := HCL.out; omega))
              rw [show mAt ms (q : Int) = ms[q] from by rw [mAt, Int.toNat_natCast, getD_at hqm]] at hmiss hhit
              have HMISS := Lib.hid hmiss
              have HHIT := Lib.hid hhit
              generalize ms[q] = z at hc4 HMISS HHIT
              clear hmiss hhit hq
              by_cases h0 : z = 0
              · have hb0 : (z == 0) = true := by simp [h0]
                cases qc : bAt cc q with
                | true =>
                  have HS := Lib.hid (HHIT.out (by simp [h0, qc]))
                  rw [qc] at hcb
                  clear h0
                  go_wp2
                  go_ret
                  exact ⟨by rw [HCO2.out, hitB, HS.out]; rfl, B5.out⟩
                | false =>
                  have HS := Lib.hid (HMISS.out (by simp [qc]))
                  rw [qc] at hcb
                  clear h0
                  go_wp2
                  go_roundg (y.inn.length - (j + 1))
                  case measure => omega
                  case rel => exact ⟨j + 1, by omega, by omega, by go_num, rfl, HS.out⟩
              · have hb0 : (z == 0) = false := by simp [h0]
                have HS := Lib.hid (HMISS.out (by simp [h0]))
                clear h0
                go_wp2
                go_roundg (y.inn.length - (j + 1))
                case measure => omega
                case rel => exact ⟨j + 1, by omega, by omega, by go_num, rfl, HS.out⟩
            · have hjz : ¬ (j : Int) < (y.inn.length : Int) := by omega
              have he : j = y.inn.length := by omega
              subst he
              have HS : Hid (hitB ms y cc = false) := by
                have h := AN.out
                rw [List.take_length] at h
                exact h
              go_wp2
              go_ret
              exact ⟨by rw [HCO2.out, HS.out]; rfl, B5.out⟩
end Go.Proofs.YtkoaaagmcjjimaaGreat

/- Which tasks may begin, as the reference asks: l3Can, EnaCan, EnaTasks. -/
namespace Go.Proofs.YtkoaaagmcjjimaaGreat
open Go.RowKit
set_option linter.unusedSimpArgs false
set_option linter.unusedVariables false

theorem canP_of {x : GNet} {ms : List Int} {bs : List GItem} {k : Nat} {y : GTask} (h : taskAt x k = y) :
    canP x ms bs k = if y.join = 1 then allP ms y.inn else if y.join = 2 then someP ms y.inn else someP ms y.inn && (allP ms y.inn || !coming x ms bs k) := by subst h; rfl

set_option maxRecDepth 100000 in
set_option maxHeartbeats 4000000 in
theorem spec_l3Can (x : GNet) (A : Option Addr) (c : Nat) (A1 : Option Addr) (c1 : Nat) (ms : List Int) (A2 : Option Addr) (c2 : Nat) (bs : List GItem) (k : Nat) (mo m2 : Option Nat) (w : World) (hfit : NetFit x)
    (hx : Rows taskC mo w w.heap.size A x.tasks) (h1 : Ints w w.heap.size A1 ms) (h2 : Rows itemC m2 w w.heap.size A2 bs) (hml : (ms.length : Int) = x.places) (hk : k < x.tasks.length) (hbs : ∀ b ∈ bs, 0 ≤ b.task ∧ b.task < x.tasks.length) :
    Calls Tryz.prog 67 #[.agg (netCells x A c), .slice A1 ms.length c1, .slice A2 bs.length c2, .int .i64 k] w (Says (.bool (canP x ms bs k)) w) := by
  obtain ⟨bA, oA, a1, d1, a2, d2, a3, d3, hAA, hbb, ⟨r1, r2, r3⟩, e0, e1, e2, e3, e4, e5, e6, e7, e8⟩ := task_at hx hk
  subst hAA
  have hfx := hfit.2 k hk
  have HCP := Lib.hid (canP_of (ms := ms) (bs := bs) (taskAt_get hk))
  have HCOM := Lib.hid (fun (W : World) (hb : Below w.heap.size w W) => spec_l3Coming x (some ⟨bA, oA, none⟩) c A1 c1 ms A2 c2 bs k mo m2 W hfit (hx.later hb) (h1.later hb) (h2.later hb) hml hk hbs)
  generalize x.tasks[k] = y at hfx r1 r2 r3 e0 e1 e2 e3 e4 e5 e6 e7 e8 HCP
  obtain ⟨_, hin, _⟩ := hfx
  have hkz : (k : Int) < (x.tasks.length : Int) := by omega
  have H1 := Lib.hid h1
  have R1 := Lib.hid r1
  have HIN : Hid (∀ z ∈ y.inn, 0 ≤ z ∧ z < ms.length) := fun z hz => by have := hin z hz; omega
  clear hx h1 h2 hbs hin r1 r2 r3 e1 e3 e4 e5 e6 e7 e8 hfit hml
  go_enter Tryz.func67, Tryz.ntmps67
  go_wp2_with fail
  refine callsAt fun W hW => ?_
  have P1 : Hid (Bk W w.heap.size 36 (netCells x (some ⟨bA, oA, none⟩) c)) := by show Bk _ _ _ _; rw [hW]; exact Bk.new rfl
  have B1 : Hid (Below w.heap.size w W) := by show Below _ _ _; rw [hW]; exact (Below.refl _ _).alloc (Nat.le_refl _) _
  clear hW
  have k0 := fun i => P1.out.cell i
  rw [show netCells x (some ⟨bA, oA, none⟩) c = #[.int .i64 x.places, .slice (some ⟨bA, oA, none⟩) x.tasks.length c] from rfl] at k0
  have t0 := (B1.out.cell (p := ⟨bA, oA + k * 9, none⟩) hbb).trans e0
  clear e0 e2
  refine (spec_l3Some A1 c1 ms a1 d1 y.inn W w.heap.size (H1.out.below B1.out) (R1.out.below B1.out).ints HIN.out).mono ?_
  rintro e w' ⟨rfl, rfl⟩
  by_cases j1 : y.join = 1
  · have hb1 : (y.join == 1) = true := by simp [j1]
    have HS : Hid (canP x ms bs k = allP ms y.inn) := by show _ = _; rw [HCP.out, if_pos j1]
    clear j1
    go_wp2
    go_ret
    exact ⟨by rw [HS.out]; rfl, B1.out⟩
  have hb1 : (y.join == 1) = false := by simp [j1]
  by_cases j2 : y.join = 2
  · have hb2 : (y.join == 2) = true := by simp [j2]
    have HS : Hid (canP x ms bs k = someP ms y.inn) := by show _ = _; rw [HCP.out, if_neg j1, if_pos j2]
    clear j1 j2
    go_wp2
    go_ret
    exact ⟨by rw [HS.out]; rfl, B1.out⟩
  have hb2 : (y.join == 2) = false := by simp [j2]
  have HS : Hid (canP x ms bs k = (someP ms y.inn && (allP ms y.inn || !coming x ms bs k))) := by show _ = _; rw [HCP.out, if_neg j1, if_neg j2]
  clear j1 j2
  cases q1 : someP ms y.inn with
  | false =>
    go_wp2
    go_ret
    exact ⟨by rw [HS.out, q1]; rfl, B1.out⟩
  | true =>
  cases q2 : allP ms y.inn with
  | true =>
    go_wp2
    go_ret
    exact ⟨by rw [HS.out, q1, q2]; rfl, B1.out⟩
  | false =>
  go_wp2_with fail
  refine (HCOM.out _ B1.out).mono ?_
  rintro e w2 ⟨rfl, hb⟩
  have B2 := Lib.hid (B1.out.trans (hb.mono B1.out.size))
  clear hb
  go_wp2
  go_ret
  exact ⟨by rw [HS.out, q1, q2]; rfl, B2.out⟩

/-- Task t may begin. -/
def enaCan (x : GNet) (ms : List Int) (bs : List GItem) (t : Int) : Bool := mrkOk x ms && (busyOk x bs && (inB t 0 ((x.tasks.length : Int) - 1) && canP x ms bs t.toNat))
theorem busy_tasks {x : GNet} {bs : List GItem} (h : busyOk x bs = true) : ∀ b ∈ bs, 0 ≤ b.task ∧ b.task < x.tasks.length := fun b hb => by
  unfold busyOk at h
  rw [Bool.and_eq_true, List.all_eq_true] at h
  have h2 := h.2 b hb
  unfold busyAt at h2
  rw [Bool.and_eq_true, inB_iff] at h2
  omega
theorem mrk_len {x : GNet} {ms : List Int} (h : mrkOk x ms = true) : netOk x = true ∧ (ms.length : Int) = x.places := by
  unfold mrkOk at h
  rw [Bool.and_eq_true] at h
  exact ⟨h.1, (marksOk_iff.1 h.2).1⟩

set_option maxRecDepth 100000 in
set_option maxHeartbeats 2000000 in
theorem spec_EnaCan (x : GNet) (A : Option Addr) (c : Nat) (A1 : Option Addr) (c1 : Nat) (ms : List Int) (A2 : Option Addr) (c2 : Nat) (bs : List GItem) (t : Int) (mo m2 : Option Nat) (w : World)
    (hx : Rows taskC mo w w.heap.size A x.tasks) (h1 : Ints w w.heap.size A1 ms) (h2 : Rows itemC m2 w w.heap.size A2 bs) :
    Calls Tryz.prog 43 #[.agg (netCells x A c), .slice A1 ms.length c1, .slice A2 bs.length c2, .int .i64 t] w (Says (.bool (enaCan x ms bs t)) w) := by
  have nx := hx.1
  have HX := Lib.hid hx
  have H1 := Lib.hid h1
  have H2 := Lib.hid h2
  clear hx h1 h2
  go_enter Tryz.func43, Tryz.ntmps43
  go_wp2_with fail
  refine callsAt fun W hW => ?_
  have P1 : Hid (Bk W w.heap.size 36 (netCells x A c)) := by show Bk _ _ _ _; rw [hW]; exact Bk.new rfl
  have B : Hid (Below w.heap.size w W) := by show Below _ _ _; rw [hW]; exact (Below.refl _ _).alloc (Nat.le_refl _) _
  clear hW
  refine (spec_MrkOk x A c A1 c1 ms mo W (HX.out.later B.out) (H1.out.later B.out)).mono ?_
  rintro e w1 ⟨rfl, hb⟩
  have P1 := Lib.hid (P1.out.later hb)
  have B := Lib.hid (B.out.trans (hb.mono B.out.size))
  clear hb
  have k0 := fun i => P1.out.cell i
  cases q1 : mrkOk x ms with
  | false =>
    have HE : Hid (enaCan x ms bs t = false) := by show _ = _; rw [enaCan, q1]; rfl
    go_wp2
    go_ret
    exact ⟨by rw [HE.out]; rfl, B.out⟩
  | true =>
  obtain ⟨hnet, hml⟩ := mrk_len q1
  have HNET := Lib.hid hnet
  have HML := Lib.hid hml
  clear hnet hml
  go_wp2_with fail
  clear k0
  refine (l3Busy x A c A2 c2 bs mo m2 _ HNET.out (HX.out.later B.out) (H2.out.later B.out)).mono ?_
  rintro e w2 ⟨rfl, hb⟩
  have P1 := Lib.hid (P1.out.later hb)
  have B := Lib.hid (B.out.trans (hb.mono B.out.size))
  clear hb
  have k0 := fun i => P1.out.cell i
  cases q2 : busyOk x bs with
  | false =>
    have HE : Hid (enaCan x ms bs t = false) := by show _ = _; rw [enaCan, q1, q2]; rfl
    go_wp2
    go_ret
    exact ⟨by rw [HE.out]; rfl, B.out⟩
  | true =>
  rw [show netCells x A c = #[.int .i64 x.places, .slice A x.tasks.length c] from rfl] at k0
  go_wp2_with fail
  refine (l1In t 0 ((x.tasks.length : Int) - 1) _).mono ?_
  rintro e w' ⟨rfl, rfl⟩
  cases q3 : inB t 0 ((x.tasks.length : Int) - 1) with
  | false =>
    have HE : Hid (enaCan x ms bs t = false) := by show _ = _; rw [enaCan, q1, q2, q3]; rfl
    go_wp2
    go_ret
    exact ⟨by rw [HE.out]; rfl, B.out⟩
  | true =>
  have ht := inB_iff.1 q3
  obtain ⟨k, rfl⟩ := Int.eq_ofNat_of_zero_le ht.1
  have hk : k < x.tasks.length := by omega
  have HE : Hid (enaCan x ms bs k = canP x ms bs k) := by show _ = _; rw [enaCan, q1, q2, q3, Int.toNat_natCast]; rfl
  have HBS := Lib.hid (busy_tasks q2)
  clear q1 q2 q3 ht
  go_wp2_with fail
  clear k0
  refine (spec_l3Can x A c A1 c1 ms A2 c2 bs k mo m2 _ (netFit HNET.out) (HX.out.later B.out) (H1.out.later B.out) (H2.out.later B.out) HML.out hk HBS.out).mono ?_
  rintro e w3 ⟨rfl, hb⟩
  have B := Lib.hid (B.out.trans (hb.mono B.out.size))
  clear hb
  go_wp2
  go_ret
  exact ⟨by rw [HE.out]; rfl, B.out⟩
end Go.Proofs.YtkoaaagmcjjimaaGreat

/- What may still come, as the program asks: arrives. -/
namespace Go.Proofs.YtkoaaagmcjjimaaGreat
open Go.RowKit
set_option linter.unusedSimpArgs false
set_option linter.unusedVariables false

theorem fromL1_yes {ms : List Int} {t : GTask} {k : Nat} (h : fromAt ms t k = true) : fromL1 ms t (k + 1) = fromL1 ms t k ++ [(k : Int)] := by simp [fromL1, List.range_succ, h]
theorem fromL1_no {ms : List Int} {t : GTask} {k : Nat} (h : fromAt ms t k = false) : fromL1 ms t (k + 1) = fromL1 ms t k := by simp [fromL1, List.range_succ, h]
theorem fromL1_len (ms : List Int) (t : GTask) (k : Nat) : (fromL1 ms t k).length ≤ k := by
  unfold fromL1
  rw [List.length_map]
  exact Nat.le_trans (List.length_filter_le _ _) (by simp)
theorem outsL_snoc (x : GNet) (bs : List GItem) (k : Nat) (hk : k < bs.length) : outsL x (bs.take (k + 1)) = outsL x (bs.take k) ++ (taskAt x bs[k].task.toNat).out.map GFlow.to := by
  unfold outsL
  rw [List.take_succ_eq_append_getElem hk, List.map_append, List.flatten_append]; simp

theorem arr_pred (M D g n n0 : Nat) (A1 : Option Addr) (c1 : Nat) (ms : List Int) (m : List Bool) (xs : List Int) (w : World) (hM : Bk w M 25 #[.slice A1 ms.length c1]) (h1 : Ints w w.heap.size A1 ms) (hd : Bk w D 122 #[.slice (some ⟨g, 0, none⟩) n n0]) (hm : Wr w g 4 (bv m)) (hx : ∀ y ∈ xs, 0 ≤ y ∧ y < n) (hl : m.length = n) (hl1 : n ≤ 1000) (hml : ms.length = n) :
    PredIn 96 #[.pointer (some ⟨M, 0, none⟩), .pointer (some ⟨D, 0, none⟩)] (fun q => decide (mAt ms q = 0) && bAt m q.toNat) xs w := by
  intro W y hy hb
  obtain ⟨p, rfl⟩ := Int.eq_ofNat_of_zero_le (hx y hy).1
  have hp : p < n := by have := (hx _ hy).2; omega
  have hpz : (p : Int) < (n : Int) := by omega
  have hpm : p < ms.length := by omega
  have hpmz : (p : Int) < (ms.length : Int) := by omega
  have kM : W.cell? ⟨M, 0, none⟩ = some (.slice A1 ms.length c1) := (hb.cell (p := ⟨M, 0, none⟩) hM.lt).trans (hM.cell 0)
  have kd : W.cell? ⟨D, 0, none⟩ = some (.slice (some ⟨g, 0, none⟩) n n0) := (hb.cell (p := ⟨D, 0, none⟩) hd.lt).trans (hd.cell 0)
  have km := (hm.below hb hm.lt).cell (bv_get (m := m) (i := p) (by omega))
  obtain ⟨b, off, rfl, hbb, hc⟩ := (h1.later hb).at_ hpm
  have hz : mAt ms (p : Int) = ms[p] := by rw [mAt, Int.toNat_natCast, getD_at hpm]
  show Calls Tryz.prog 96 #[.int .i64 (p : Int), .pointer (some ⟨M, 0, none⟩), .pointer (some ⟨D, 0, none⟩)] W fun e w' => e = .returned (.bool (decide (mAt ms (p : Int) = 0) && bAt m ((p : Int)).toNat)) ∧ _
  rw [hz, Int.toNat_natCast]
  generalize ms[p] = z at hc
  clear hx hy hd hm hb hl hM h1 hz hml
  by_cases h0 : z = 0
  · have hb1 : (z == 0) = true := by simp [h0]
    have HE : Hid ((decide (z = 0) && bAt m p) = bAt m p) := by show _ = _; simp [h0]
    clear h0
    go_enter Tryz.func96, Tryz.ntmps96
    go_wp2
    go_ret
    exact ⟨by rw [HE.out]; rfl, Below.refl _ _⟩
  · have hb1 : (z == 0) = false := by simp [h0]
    have HE : Hid ((decide (z = 0) && bAt m p) = false) := by show _ = _; simp [h0]
    clear h0
    go_enter Tryz.func96, Tryz.ntmps96
    go_wp2
    go_ret
    exact ⟨by rw [HE.out]; rfl, Below.refl _ _⟩

set_option maxRecDepth 100000 in
set_option maxHeartbeats 8000000 in
theorem impl_arrives (x : GNet) (A : Option Addr) (c : Nat) (A1 : Option Addr) (c1 : Nat) (ms : List Int) (A2 : Option Addr) (c2 : Nat) (bs : List GItem) (k : Nat) (mo m2 : Option Nat) (w : World) (hfit : NetFit x)
    (hx : Rows taskC mo w w.heap.size A x.tasks) (h1 : Ints w w.heap.size A1 ms) (h2 : Rows itemC m2 w w.heap.size A2 bs) (hml : (ms.length : Int) = x.places) (hk : k < x.tasks.length) (hbs : ∀ b ∈ bs, 0 ≤ b.task ∧ b.task < x.tasks.length) (hb6 : bs.length ≤ 6) :
    Calls Tryz.prog 74 #[.agg (netCells x A c), .slice A1 ms.length c1, .slice A2 bs.length c2, .int .i64 k] w (Says (.bool (coming x ms bs k)) w) := by
  obtain ⟨bA, oA, a1, d1, a2, d2, a3, d3, hAA, hbb, ⟨r1, r2, r3⟩, e0, e1, e2, e3, e4, e5, e6, e7, e8⟩ := task_at hx hk
  subst hAA
  have eg : ∀ args w, (callFunc 96 args).run Tryz.prog w = .ok (.enter 96 args) w := enters_of Tryz.func96 (by kernel_rfl) rfl
  have hfx := hfit.2 k hk
  have HCO : Hid (coming x ms bs k = (fromL x ms bs x.tasks[k]).any fun p => hitB ms x.tasks[k] (cl x k (single x.places.toNat p.toNat))) := by show _ = _; rw [← coming_eq hml, comingI, taskAt_get hk]
  generalize x.tasks[k] = y at hfx r1 r2 r3 e0 e1 e2 e3 e4 e5 e6 e7 e8 HCO
  obtain ⟨⟨hin3, hout3⟩, hin, _⟩ := hfx
  have nb := h2.1
  have hkz : (k : Int) < (x.tasks.length : Int) := by omega
  have HX := Lib.hid hx
  have H1 := Lib.hid h1
  have H2 := Lib.hid h2
  have R1 := Lib.hid r1.ints
  have HBS := Lib.hid hbs
  have HF := Lib.hid hfit
  obtain ⟨⟨hp2, hp8, ht1, ht6⟩, _⟩ := hfit
  obtain ⟨np, hnp⟩ := Int.eq_ofNat_of_zero_le (by omega : 0 ≤ x.places)
  have HML : Hid (ms.length = np) := (by omega : ms.length = np)
  have hms8 : ms.length ≤ 8 := by omega
  have HNP := Lib.hid hnp
  have hnp8 : np ≤ 8 := by omega
  have HIN : Hid (∀ z ∈ y.inn, 0 ≤ z ∧ z < (np : Int)) := fun z hz => by have := hin z hz; omega
  have t2 : w.cell? ⟨bA, oA + k * 9 + 2, none⟩ = some (.slice a1 y.inn.length d1) := e2
  clear hx h1 h2 hml hbs hin r1 r2 r3 e0 e1 e2 e3 e4 e5 e6 e7 e8 hnp
  go_enter Tryz.func74, Tryz.ntmps74
  have hP0 : ∀ o i, (World.alloc (World.alloc w (.cells (netCells x (some ⟨bA, oA, none⟩) c) 36)) o).cell? ⟨w.heap.size, i, none⟩ = #[Value.int .i64 x.places, .slice (some ⟨bA, oA, none⟩) x.tasks.length c][i]? := fun o i =>
    ((Bk.new (t := 36) (cs := netCells x (some ⟨bA, oA, none⟩) c) rfl).alloc o).cell i
  have t2' : ∀ o1 o2, (World.alloc (World.alloc w o1) o2).cell? ⟨bA, oA + k * 9 + 2, none⟩ = some (.slice a1 y.inn.length d1) := fun o1 o2 => ((((Below.refl w.heap.size w).alloc (Nat.le_refl _) o1).alloc (by simp) o2).cell (p := ⟨bA, oA + k * 9 + 2, none⟩) hbb).trans t2
  go_upto_region 2 with fail
  clear hP0 t2 t2'
  generalize hV : World.alloc (World.alloc w _) _ = w1
  have P1 : Hid (Bk w1 w.heap.size 36 (netCells x (some ⟨bA, oA, none⟩) c)) := by show Bk _ _ _ _; rw [← hV]; exact (Bk.new rfl).alloc _
  have M1 : Hid (Bk w1 (w.heap.size + 1) 25 #[.slice A1 ms.length c1]) := by show Bk _ _ _ _; rw [← hV]; exact Bk.new (by simp)
  have B1 : Hid (Below w.heap.size w w1) := by show Below _ _ _; rw [← hV]; exact ((Below.refl _ _).alloc (Nat.le_refl _) _).alloc (by simp) _
  have hl1 : w.heap.size + 2 ≤ w1.heap.size := by rw [← hV]; simp
  clear hV
  have kM := fun i => M1.out.cell i
  go_wp2
  clear kM
  go_loopg [10, 28] ms.length (fun gg s10 s28 wr => ∃ p : Nat, p ≤ ms.length ∧ ms.length - p ≤ gg ∧ s28 = .int .i64 p ∧ Aside (Below (w.heap.size + 2) w1 wr) ∧ Aside (OwnV wr (w.heap.size + 2) s10 (fromL1 ms y p)))
  case atStart => exact ⟨0, Nat.zero_le _, by omega, rfl, Below.refl _ _, OwnV.nil _ _⟩
  case round =>
    obtain ⟨p, hp, hg, rfl, BW, OW⟩ := hrel
    have BX : Hid (Below w.heap.size w wr) := B1.out.trans (BW.out.mono (by omega))
    have hlw := BW.out.size
    have hfl := fromL1_len ms y p
    by_cases hlt : p < ms.length
    · have hltz : (p : Int) < (ms.length : Int) := by omega
      obtain ⟨b1, o1, hA1, hb1, hc1⟩ := (H1.out.below BX.out).at_ hlt
      subst hA1
      have hfa : fromAt ms y p = (decide (0 < ms[p]) && !(y.inn.any fun z => decide (z = (p : Int)))) := by rw [fromAt, getD_at hlt]
      have HY := Lib.hid (fun h => fromL1_yes (ms := ms) (t := y) (k := p) h)
      have HN := Lib.hid (fun h => fromL1_no (ms := ms) (t := y) (k := p) h)
      have HFA := Lib.hid hfa
      have HR1 : Hid (Ints wr wr.heap.size a1 y.inn) := (R1.out.below BX.out).more (by omega)
      generalize ms[p] = z at hc1 HFA
      clear hfa
      by_cases h0 : 0 < z
      · cases qa : (y.inn.any fun z => decide (z = (p : Int))) with
        | true =>
          have HS := Lib.hid (HN.out (by rw [HFA.out, qa]; simp))
          go_wp2_with (go_at_call 94; refine (contains_int a1 d1 y.inn (p : Int) wr HR1.out).mono ?_; rintro e w5 ⟨rfl, hb5⟩; rw [qa]; have HB5 := Lib.hid hb5; clear hb5)
          go_roundg (ms.length - (p + 1))
          case measure => omega
          case rel => exact ⟨p + 1, by omega, by omega, by go_num, BW.out.trans (HB5.out.mono (by omega)), by show OwnV _ _ _ _; rw [HS.out]; exact OW.out.later HB5.out⟩
        | false =>
          have HS := Lib.hid (HY.out (by rw [HFA.out, qa]; simp [h0]))
          go_wp2_with (first
            | (go_at_call 94; refine (contains_int a1 d1 y.inn (p : Int) wr HR1.out).mono ?_; rintro e w5 ⟨rfl, hb5⟩; rw [qa]; have HB5 := Lib.hid hb5; have hl5 := hb5.size; clear hb5)
            | (at_builtin; refine append_int rfl (.tmp 41) (.tmp 43) rfl (w.heap.size + 2) _ _ rfl ((OW.out.later HB5.out).alloc _) w5.heap.size (p : Int) rfl (by simp) (by omega) (by simp; omega) ?_; intro v' w6 hown6 hb6'; have HO6 := Lib.hid hown6; have HB6 := Lib.hid hb6'; clear hown6 hb6'))
          go_roundg (ms.length - (p + 1))
          case measure => omega
          case rel => exact ⟨p + 1, by omega, by omega, by go_num, ((BW.out.trans (HB5.out.mono (by omega))).alloc (by omega) _).trans HB6.out, by show OwnV _ _ _ _; rw [HS.out]; exact HO6.out⟩
      · have HS := Lib.hid (HN.out (by rw [HFA.out]; simp; omega))
        go_wp2
        go_roundg (ms.length - (p + 1))
        case measure => omega
        case rel => exact ⟨p + 1, by omega, by omega, by go_num, BW.out, by show OwnV _ _ _ _; rw [HS.out]; exact OW.out⟩
    · have hltz : ¬ (p : Int) < (ms.length : Int) := by omega
      have he : p = ms.length := by omega
      subst he
      have HFL : Hid (fromL x ms bs y = fromL1 ms y ms.length ++ outsL x bs) := rfl
      generalize fromL1 ms y ms.length = pre at OW hfl HFL
      go_wp2
      go_loopg [10, 48] bs.length (fun gg s10 s48 wr => ∃ i : Nat, i ≤ bs.length ∧ bs.length - i ≤ gg ∧ s48 = .int .i64 i ∧ Aside ((outsL x (bs.take i)).length ≤ 3 * i) ∧ Aside (Below (w.heap.size + 2) w1 wr) ∧ Aside (OwnV wr (w.heap.size + 2) s10 (pre ++ outsL x (bs.take i))))
      case atStart => exact ⟨0, Nat.zero_le _, by omega, rfl, (by show (outsL x (bs.take 0)).length ≤ _; simp [outsL]), BW.out, (by show OwnV _ _ _ _; simpa [outsL] using OW.out)⟩
      case round =>
        obtain ⟨i, hi, hgi, rfl, LI, BI, OI⟩ := hrel
        have BXI : Hid (Below w.heap.size w wr) := B1.out.trans (BI.out.mono (by omega))
        have hli := BI.out.size
        by_cases hil : i < bs.length
        · have hiz : (i : Int) < (bs.length : Int) := by omega
          have hbt := HBS.out _ (List.getElem_mem hil)
          have hsn := outsL_snoc x bs i hil
          obtain ⟨b3, o3, hA3, hb3, f0, f1, f2⟩ := item_at (H2.out.below BXI.out) hil
          subst hA3
          generalize bs[i] = bi at hbt hsn f0 f1 f2
          obtain ⟨bt, bw, bd⟩ := bi
          obtain ⟨q, rfl⟩ := Int.eq_ofNat_of_zero_le (show 0 ≤ bt from hbt.1)
          simp only at hbt hsn f0 f1 f2
          rw [Int.toNat_natCast] at hsn
          have hql : q < x.tasks.length := by omega
          have hqz : (q : Int) < (x.tasks.length : Int) := by omega
          rw [taskAt_get hql] at hsn
          obtain ⟨bA', oA', a1', d1', a2', d2', a3', d3', hAA', hbb', ⟨_, r2', _⟩, _, _, _, e3', _, _, _, _, _⟩ := task_at HX.out hql
          cases hAA'
          have hv3 := (HF.out.2 q hql).1.2
          generalize x.tasks[q] = v at hsn r2' e3' hv3
          have HSN := Lib.hid hsn
          have HLI := LI.out
          have R2 := Lib.hid r2'
          have e3 : wr.cell? ⟨bA, oA + q * 9 + 3, none⟩ = some (.slice a2' v.out.length d2') := (BXI.out.cell (p := ⟨bA, oA + q * 9 + 3, none⟩) hbb').trans e3'
          generalize outsL x (bs.take i) = outs at HSN OI HLI
          clear hsn r2' e3'
          go_upto_region 12 with fail
          clear f0 f1 f2
          generalize hV : World.alloc wr _ = wv
          have hbv : Below wr.heap.size wr wv := by rw [← hV]; exact (Below.refl _ _).alloc (Nat.le_refl _) _
          have FB : Hid (Bk wv wr.heap.size 79 #[.int .i64 (q : Int), .int .i64 bw, .int .i64 bd]) := by show Bk _ _ _ _; rw [← hV]; exact Bk.new rfl
          have PV : Hid (Bk wv w.heap.size 36 (netCells x (some ⟨bA, oA, none⟩) c)) := (P1.out.belowG BI.out (by omega)).later hbv
          have e3v : wv.cell? ⟨bA, oA + q * 9 + 3, none⟩ = some (.slice a2' v.out.length d2') := (hbv.cell (p := ⟨bA, oA + q * 9 + 3, none⟩) (by show bA < _; omega)).trans e3
          have BV := Lib.hid (BI.out.trans (hbv.mono (by omega)))
          have OV := Lib.hid (OI.out.later hbv)
          clear hV hbv e3
          have kF := fun i => FB.out.cell i
          have k0 := fun i => PV.out.cell i
          rw [show netCells x (some ⟨bA, oA, none⟩) c = #[.int .i64 x.places, .slice (some ⟨bA, oA, none⟩) x.tasks.length c] from rfl] at k0
          go_wp2
          clear kF k0 e3v
          go_loopg [10, 60] v.out.length (fun gg s10 s60 wr => ∃ j : Nat, j ≤ v.out.length ∧ v.out.length - j ≤ gg ∧ s60 = .int .i64 j ∧ Aside (Below (w.heap.size + 2) w1 wr) ∧ Aside (OwnV wr (w.heap.size + 2) s10 ((pre ++ outs) ++ (v.out.take j).map GFlow.to)))
          case atStart => exact ⟨0, Nat.zero_le _, by omega, rfl, BV.out, (by show OwnV _ _ _ _; simpa using OV.out)⟩
          case round =>
            obtain ⟨j, hj, hgj, rfl, BJ, OJ⟩ := hrel
            have BXJ : Hid (Below w.heap.size w wr) := B1.out.trans (BJ.out.mono (by omega))
            have hlj := BJ.out.size
            have hlen : ((pre ++ outs) ++ (v.out.take j).map GFlow.to).length ≤ 100 := by simp; omega
            by_cases hjl : j < v.out.length
            · have hjz : (j : Int) < (v.out.length : Int) := by omega
              obtain ⟨b2, o2, hA2, _, f0, f1, f2, f3⟩ := flow_at (R2.out.below BXJ.out) hjl
              subst hA2
              have HMS : Hid ((v.out.take (j + 1)).map GFlow.to = (v.out.take j).map GFlow.to ++ [v.out[j].to]) := by show _ = _; rw [List.take_succ_eq_append_getElem hjl, List.map_append]; rfl
              generalize v.out[j] = f at f0 f1 f2 f3 HMS
              go_upto_region 15 with fail
              clear f0 f1 f2 f3
              generalize hV : World.alloc wr _ = wf
              have hbf : Below wr.heap.size wr wf := by rw [← hV]; exact (Below.refl _ _).alloc (Nat.le_refl _) _
              have FB : Hid (Bk wf wr.heap.size 111 #[.int .i64 f.to, .int .i64 f.ask.op, .int .i64 f.ask.var, .int .i64 f.ask.k]) := by show Bk _ _ _ _; rw [← hV]; exact Bk.new rfl
              have BF := Lib.hid (BJ.out.trans (hbf.mono (by omega)))
              have OF := Lib.hid (OJ.out.later hbf)
              have hlf := hbf.size
              clear hV hbf
              have kF := fun i => FB.out.cell i
              go_wp2_with (at_builtin; refine append_int rfl (.tmp 64) (.tmp 67) rfl (w.heap.size + 2) _ _ rfl (OF.out.alloc _) wf.heap.size f.to rfl (by simp) (by omega) (by simp; omega) ?_; intro v' w6 hown6 hb6'; have HO6 := Lib.hid hown6; have HB6 := Lib.hid hb6'; clear hown6 hb6')
              go_roundg (v.out.length - (j + 1))
              case measure => omega
              case rel => exact ⟨j + 1, by omega, by omega, by go_num, (BF.out.alloc (by omega) _).trans HB6.out, by show OwnV _ _ _ _; rw [HMS.out, ← List.append_assoc]; exact HO6.out⟩
            · have hjz : ¬ (j : Int) < (v.out.length : Int) := by omega
              have he : j = v.out.length := by omega
              subst he
              have oj2 := OJ.out
              rw [List.take_length] at oj2
              have OJ2 := Lib.hid oj2
              clear oj2
              go_wp2
              go_roundg (bs.length - (i + 1))
              case measure => omega
              case rel => exact ⟨i + 1, by omega, by omega, by go_num, (by show List.length _ ≤ _; rw [HSN.out]; simp; omega), BJ.out, by show OwnV _ _ _ _; rw [HSN.out, ← List.append_assoc]; exact OJ2.out⟩
        · have hiz : ¬ (i : Int) < (bs.length : Int) := by omega
          have he : i = bs.length := by omega
          subst he
          have hof := OI.out
          have hlen := LI.out
          rw [List.take_length] at hof hlen
          rw [← HFL.out] at hof
          have hfll : (fromL x ms bs y).length ≤ 100 := by rw [HFL.out]; simp; omega
          have HMEM : Hid (∀ z ∈ fromL x ms bs y, 0 ≤ z ∧ z < (np : Int)) := fun z hz => by
            rcases mem_fromL.1 hz with ⟨p, h3, h4, rfl⟩ | ⟨b, hb, f, hf, rfl⟩
            · have := HML.out; omega
            · have hbb2 := HBS.out b hb
              have hj : b.task.toNat < x.tasks.length := by omega
              rw [taskAt_get hj] at hf
              have := (HF.out.2 _ hj).2.2 f hf
              have := HNP.out
              omega
          have HCO2 := HCO
          clear HCO
          generalize fromL x ms bs y = fl at hof hfll HMEM HCO2
          obtain ⟨FA, FC, hv, hoi⟩ := OwnI.of_v hof
          subst hv
          have OF := Lib.hid hoi
          clear hof hoi hlen OI LI HFL
          go_wp2
          go_loopg [73] fl.length (fun gg s73 wr => ∃ i : Nat, i ≤ fl.length ∧ fl.length - i ≤ gg ∧ s73 = .int .i64 i ∧ Aside (Below (w.heap.size + 2) w1 wr) ∧ Aside (OwnI wr (w.heap.size + 2) FA fl) ∧ Aside ((fl.take i).any (fun p => hitB ms y (cl x k (single x.places.toNat p.toNat))) = false))
          case atStart => exact ⟨0, Nat.zero_le _, by omega, rfl, BI.out, OF.out, (by show (fl.take 0).any _ = false; simp)⟩
          case round =>
            obtain ⟨i, hi2, hgi2, rfl, BJ, OJ, AN⟩ := hrel
            have BXJ : Hid (Below w.heap.size w wr) := B1.out.trans (BJ.out.mono (by omega))
            have hlj := BJ.out.size
            by_cases hil2 : i < fl.length
            · have hiz2 : (i : Int) < (fl.length : Int) := by omega
              obtain ⟨bf, of, hAf, _, hcf⟩ := (OJ.out.ints (by omega)).at_ hil2
              subst hAf
              have hzb := HMEM.out _ (List.getElem_mem hil2)
              have hmiss := any_miss (fun p => hitB ms y (cl x k (single x.places.toNat p.toNat))) fl i hil2 AN.out
              have hhit := any_hit (fun p => hitB ms y (cl x k (single x.places.toNat p.toNat))) fl i hil2
              generalize fl[i] = z at hcf hzb hmiss hhit
              obtain ⟨q, rfl⟩ := Int.eq_ofNat_of_zero_le hzb.1
              rw [Int.toNat_natCast] at hmiss hhit
              have hre := impl_reach x (some ⟨bA, oA, none⟩) c q (k : Int) mo wr HF.out (HX.out.later BXJ.out) (by have := HNP.out; omega)
              have hcl : (cl x k (single x.places.toNat q)).length = np := by rw [cl_len, single_len, HNP.out, Int.toNat_natCast]
              unfold GivesB at hre
              rw [hcl] at hre
              generalize cl x k (single x.places.toNat q) = cc at hre hcl hmiss hhit
              have HRE := Lib.hid hre
              have HCL := Lib.hid hcl
              have HMISS := Lib.hid hmiss
              have HHIT := Lib.hid hhit
              clear hre hcl hmiss hhit
              have PJ : Hid (Bk wr w.heap.size 36 (netCells x (some ⟨bA, oA, none⟩) c)) := P1.out.belowG BJ.out (by omega)
              have MJ : Hid (Bk wr (w.heap.size + 1) 25 #[.slice A1 ms.length c1]) := M1.out.belowG BJ.out (by omega)
              have k0 := fun i => PJ.out.cell i
              go_wp2_with fail
              clear k0
              refine HRE.out.mono ?_
              rintro e w5 ⟨g5, c5, rfl, hg5, hw5, hb5⟩
              have M5 := Lib.hid (MJ.out.later hb5)
              have B5 := Lib.hid (BJ.out.trans (hb5.mono (by omega)))
              have O5 := Lib.hid (OJ.out.later hb5)
              have W5 := Lib.hid hw5
              have hl5 := hb5.size
              clear hb5 hw5 HRE
              go_wp2_with fail
              refine callsAt fun V hV => ?_
              have hbV : Below w5.heap.size w5 V := by rw [hV]; exact (Below.refl _ _).alloc (Nat.le_refl _) _
              have DV : Hid (Bk V w5.heap.size 122 #[.slice (some ⟨g5, 0, none⟩) np c5]) := by show Bk _ _ _ _; rw [hV]; exact Bk.new rfl
              have BV := Lib.hid (B5.out.trans (hbV.mono (by omega)))
              have OV := Lib.hid (O5.out.later hbV)
              have hlV := hbV.size
              have BXV : Hid (Below w.heap.size w V) := B1.out.trans (BV.out.mono (by omega))
              refine (containsFunc_in _ _ _ eg a1 d1 y.inn V (arr_pred (w.heap.size + 1) w5.heap.size g5 np c5 A1 c1 ms cc y.inn V (M5.out.later hbV) (H1.out.later BXV.out) DV.out (W5.out.later hbV) HIN.out HCL.out (by omega) HML.out) (R1.out.later BXV.out)).mono ?_
              rintro e w6 ⟨rfl, hb6'⟩
              have B6 := Lib.hid (BV.out.trans (hb6'.mono (by omega)))
              have O6 := Lib.hid (OV.out.later hb6')
              clear hV hbV hb6'
              have hq : (y.inn.any fun q => decide (mAt ms q = 0) && bAt cc q.toNat) = hitB ms y cc := rfl
              rw [hq]
              clear hq
              cases qh : hitB ms y cc with
              | true =>
                have HS := Lib.hid (HHIT.out qh)
                go_wp2
                go_ret
                exact ⟨by rw [HCO2.out, HS.out]; rfl, B1.out.trans (B6.out.mono (by omega))⟩
              | false =>
                have HS := Lib.hid (HMISS.out qh)
                go_wp2
                go_roundg (fl.length - (i + 1))
                case measure => omega
                case rel => exact ⟨i + 1, by omega, by omega, by go_num, B6.out, O6.out, HS.out⟩
            · have hiz2 : ¬ (i : Int) < (fl.length : Int) := by omega
              have he : i = fl.length := by omega
              subst he
              have HS : Hid (coming x ms bs k = false) := by
                have h := AN.out
                rw [List.take_length] at h
                show _ = _
                rw [HCO2.out, h]
              go_wp2
              go_ret
              exact ⟨by rw [HS.out]; rfl, B1.out.trans (BJ.out.mono (by omega))⟩
end Go.Proofs.YtkoaaagmcjjimaaGreat

/- Which tasks may begin: impl.EnaTasks and spec.EnaTasks give the same. -/
namespace Go.Proofs.YtkoaaagmcjjimaaGreat
open Go.RowKit
set_option linter.unusedSimpArgs false
set_option linter.unusedVariables false

set_option maxRecDepth 100000 in
set_option maxHeartbeats 4000000 in
theorem impl_can (x : GNet) (A : Option Addr) (c : Nat) (A1 : Option Addr) (c1 : Nat) (ms : List Int) (A2 : Option Addr) (c2 : Nat) (bs : List GItem) (k : Nat) (mo m2 : Option Nat) (w : World) (hfit : NetFit x)
    (hx : Rows taskC mo w w.heap.size A x.tasks) (h1 : Ints w w.heap.size A1 ms) (h2 : Rows itemC m2 w w.heap.size A2 bs) (hml : (ms.length : Int) = x.places) (hk : k < x.tasks.length) (hbs : ∀ b ∈ bs, 0 ≤ b.task ∧ b.task < x.tasks.length) (hb6 : bs.length ≤ 6) :
    Calls Tryz.prog 54 #[.agg (netCells x A c), .slice A1 ms.length c1, .slice A2 bs.length c2, .int .i64 k] w (Says (.bool (canP x ms bs k)) w) := by
  obtain ⟨bA, oA, a1, d1, a2, d2, a3, d3, hAA, hbb, ⟨r1, r2, r3⟩, e0, e1, e2, e3, e4, e5, e6, e7, e8⟩ := task_at hx hk
  subst hAA
  have hfx := hfit.2 k hk
  have HCP := Lib.hid (canP_of (ms := ms) (bs := bs) (taskAt_get hk))
  have HCOM := Lib.hid (fun (W : World) (hb : Below w.heap.size w W) => impl_arrives x (some ⟨bA, oA, none⟩) c A1 c1 ms A2 c2 bs k mo m2 W hfit (hx.later hb) (h1.later hb) (h2.later hb) hml hk hbs hb6)
  generalize x.tasks[k] = y at hfx r1 r2 r3 e0 e1 e2 e3 e4 e5 e6 e7 e8 HCP
  obtain ⟨⟨hin3, _⟩, hin, _⟩ := hfx
  have hkz : (k : Int) < (x.tasks.length : Int) := by omega
  have H1 := Lib.hid h1
  have R1 := Lib.hid r1
  have HIN : Hid (∀ z ∈ y.inn, 0 ≤ z ∧ z < ms.length) := fun z hz => by have := hin z hz; omega
  clear hx h1 h2 hbs hin r1 r2 r3 e1 e3 e4 e5 e6 e7 e8 hfit hml
  go_enter Tryz.func54, Tryz.ntmps54
  have hP0 : ∀ i, (World.alloc w (.cells (netCells x (some ⟨bA, oA, none⟩) c) 36)).cell? ⟨w.heap.size, i, none⟩ = #[Value.int .i64 x.places, .slice (some ⟨bA, oA, none⟩) x.tasks.length c][i]? := fun i => (Bk.new (t := 36) (cs := netCells x (some ⟨bA, oA, none⟩) c) rfl).cell i
  have t2 : ∀ o1, (World.alloc w o1).cell? ⟨bA, oA + k * 9 + 2, none⟩ = some (.slice a1 y.inn.length d1) := fun o1 => (((Below.refl w.heap.size w).alloc (Nat.le_refl _) o1).cell (p := ⟨bA, oA + k * 9 + 2, none⟩) hbb).trans e2
  go_upto_region 2 with fail
  generalize hV : World.alloc w _ = W
  have P1 : Hid (Bk W w.heap.size 36 (netCells x (some ⟨bA, oA, none⟩) c)) := by show Bk _ _ _ _; rw [← hV]; exact Bk.new rfl
  have B1 : Hid (Below w.heap.size w W) := by show Below _ _ _; rw [← hV]; exact (Below.refl _ _).alloc (Nat.le_refl _) _
  clear hV hP0 t2
  have k0 := fun i => P1.out.cell i
  rw [show netCells x (some ⟨bA, oA, none⟩) c = #[.int .i64 x.places, .slice (some ⟨bA, oA, none⟩) x.tasks.length c] from rfl] at k0
  have t0 := (B1.out.cell (p := ⟨bA, oA + k * 9, none⟩) hbb).trans e0
  have t2 := (B1.out.cell (p := ⟨bA, oA + k * 9 + 2, none⟩) hbb).trans e2
  clear e0 e2
  go_wp2
  go_loopg [9, 10, 20] y.inn.length (fun gg s9 s10 s20 wr => ∃ j : Nat, j ≤ y.inn.length ∧ y.inn.length - j ≤ gg ∧ s20 = .int .i64 j ∧ s9 = .bool (someP ms (y.inn.take j)) ∧ s10 = .bool (allP ms (y.inn.take j)) ∧ Aside (W = wr))
  case atStart => exact ⟨0, Nat.zero_le _, by omega, rfl, rfl, rfl, rfl⟩
  case round =>
    obtain ⟨j, hj, hg, rfl, rfl, rfl, EW⟩ := hrel
    obtain rfl := EW.out
    by_cases hlt : j < y.inn.length
    · have hltz : (j : Int) < (y.inn.length : Int) := by omega
      have hyb := HIN.out _ (List.getElem_mem hlt)
      obtain ⟨p, hp⟩ := Int.eq_ofNat_of_zero_le hyb.1
      have hs := anyB_snoc (fun p => decide (0 < mAt ms p)) y.inn j hlt
      have ha := all_snocB (fun p => decide (0 < mAt ms p)) y.inn j hlt
      obtain ⟨b2, o2, hA2, hb2, hc2⟩ := (R1.out.below B1.out).ints.at_ hlt
      subst hA2
      rw [hp] at hyb hs ha hc2
      have hpl : p < ms.length := by omega
      have hpz : (p : Int) < (ms.length : Int) := by omega
      obtain ⟨b1, o1, hA1, hb1, hc1⟩ := (H1.out.below B1.out).at_ hpl
      subst hA1
      have hz : mAt ms (p : Int) = ms[p] := by rw [mAt, Int.toNat_natCast, getD_at hpl]
      rw [hz] at hs ha
      have HS : Hid (someP ms (y.inn.take (j + 1)) = (someP ms (y.inn.take j) || decide (0 < ms[p]))) := hs
      have HA : Hid (allP ms (y.inn.take (j + 1)) = (allP ms (y.inn.take j) && decide (0 < ms[p]))) := ha
      generalize ms[p] = z at hc1 HS HA
      clear hs ha hz hp
      by_cases h0 : 0 < z
      · have hd : decide (0 < z) = true := by simp [h0]
        rw [hd] at HS HA
        cases q1 : someP ms (y.inn.take j) <;> cases q2 : allP ms (y.inn.take j)
        all_goals
          rw [q1] at HS
          rw [q2] at HA
          go_wp2
          go_roundg (y.inn.length - (j + 1))
          case measure => omega
          case rel => exact ⟨j + 1, by omega, by omega, by go_num, by rw [HS.out]; rfl, by rw [HA.out]; rfl, rfl⟩
      · have hd : decide (0 < z) = false := by simp; omega
        rw [hd] at HS HA
        cases q1 : someP ms (y.inn.take j) <;> cases q2 : allP ms (y.inn.take j)
        all_goals
          rw [q1] at HS
          rw [q2] at HA
          go_wp2
          go_roundg (y.inn.length - (j + 1))
          case measure => omega
          case rel => exact ⟨j + 1, by omega, by omega, by go_num, by rw [HS.out]; rfl, by rw [HA.out]; rfl, rfl⟩
    · have hltz : ¬ (j : Int) < (y.inn.length : Int) := by omega
      have he : j = y.inn.length := by omega
      subst he
      rw [List.take_length]
      by_cases j1 : y.join = 1
      · have hb1 : (y.join == 1) = true := by simp [j1]
        have HS : Hid (canP x ms bs k = allP ms y.inn) := by show _ = _; rw [HCP.out, if_pos j1]
        clear j1
        go_wp2
        go_ret
        exact ⟨by rw [HS.out]; rfl, B1.out⟩
      have hb1 : (y.join == 1) = false := by simp [j1]
      by_cases j2 : y.join = 2
      · have hb2 : (y.join == 2) = true := by simp [j2]
        have HS : Hid (canP x ms bs k = someP ms y.inn) := by show _ = _; rw [HCP.out, if_neg j1, if_pos j2]
        clear j1 j2
        go_wp2
        go_ret
        exact ⟨by rw [HS.out]; rfl, B1.out⟩
      have hb2 : (y.join == 2) = false := by simp [j2]
      have HS : Hid (canP x ms bs k = (someP ms y.inn && (allP ms y.inn || !coming x ms bs k))) := by show _ = _; rw [HCP.out, if_neg j1, if_neg j2]
      clear j1 j2
      cases q1 : someP ms y.inn with
      | false =>
        go_wp2
        go_ret
        exact ⟨by rw [HS.out, q1]; rfl, B1.out⟩
      | true =>
      cases q2 : allP ms y.inn with
      | true =>
        go_wp2
        go_ret
        exact ⟨by rw [HS.out, q1, q2]; rfl, B1.out⟩
      | false =>
      go_wp2_with fail
      refine (HCOM.out _ B1.out).mono ?_
      rintro e w2 ⟨rfl, hb⟩
      have B2 := Lib.hid (B1.out.trans (hb.mono B1.out.size))
      clear hb
      go_wp2
      go_ret
      exact ⟨by rw [HS.out, q1, q2]; rfl, B2.out⟩

theorem enaOf_as (x : GNet) (ms : List Int) (bs : List GItem) : enaOf x ms bs = enaTo (fun k => enaCan x ms bs (k : Int)) x.tasks.length := by
  have hc : ∀ k, k < x.tasks.length → enaCan x ms bs (k : Int) = ((mrkOk x ms && busyOk x bs) && canP x ms bs k) := fun k hk => by
    have h3 : inB (k : Int) 0 ((x.tasks.length : Int) - 1) = true := inB_true (by omega) (by omega)
    rw [enaCan, h3, Int.toNat_natCast, Bool.true_and, Bool.and_assoc]
  have hf : (List.range x.tasks.length).filter (fun k : Nat => enaCan x ms bs (k : Int)) = (List.range x.tasks.length).filter (fun k : Nat => (mrkOk x ms && busyOk x bs) && canP x ms bs k) :=
    List.filter_congr fun k hk => hc k (List.mem_range.1 hk)
  unfold enaOf enaTo
  rw [hf]
  cases q : (mrkOk x ms && busyOk x bs) with
  | true => simp
  | false => simp

set_option maxRecDepth 100000 in
set_option maxHeartbeats 2000000 in
theorem spec_EnaTasks (x : GNet) (A : Option Addr) (c : Nat) (A1 : Option Addr) (c1 : Nat) (ms : List Int) (A2 : Option Addr) (c2 : Nat) (bs : List GItem) (mo m2 : Option Nat) (w : World)
    (hx : Rows taskC mo w w.heap.size A x.tasks) (h1 : Ints w w.heap.size A1 ms) (h2 : Rows itemC m2 w w.heap.size A2 bs) (hl : x.tasks.length ≤ 1048576) :
    Calls Tryz.prog 25 #[.agg (netCells x A c), .slice A1 ms.length c1, .slice A2 bs.length c2] w (GivesInts (enaOf x ms bs) w) := by
  have HX := Lib.hid hx
  have H1 := Lib.hid h1
  have H2 := Lib.hid h2
  have HE := Lib.hid (enaOf_as x ms bs)
  clear hx h1 h2
  go_enter Tryz.func25, Tryz.ntmps25
  go_upto_region 2 with fail
  generalize hV : World.alloc (World.alloc w _) _ = w1
  have P1 : Hid (Bk w1 w.heap.size 36 (netCells x A c)) := by show Bk _ _ _ _; rw [← hV]; exact (Bk.new rfl).alloc _
  have B1 : Hid (Below w.heap.size w w1) := by show Below _ _ _; rw [← hV]; exact ((Below.refl _ _).alloc (Nat.le_refl _) _).alloc (by simp) _
  have O1 : Hid (OwnV w1 (w.heap.size + 1) (.slice (some ⟨w.heap.size + 1, 0, none⟩) 0 0) []) := by
    show OwnV _ _ _ _
    have h := OwnV.made' (w := World.alloc w (.cells (netCells x A c) 36)) (base := w.heap.size + 1) (by simp)
    rw [← hV]
    simpa using h
  have hl1 : w.heap.size + 1 ≤ w1.heap.size := by rw [← hV]; simp
  clear hV
  go_wp2
  go_loopg [7, 8] x.tasks.length (fun gg s7 s8 wr => ∃ k : Nat, k ≤ x.tasks.length ∧ x.tasks.length - k ≤ gg ∧ s8 = .int .i64 k ∧ Aside (Below (w.heap.size + 1) w1 wr) ∧ Aside (OwnV wr (w.heap.size + 1) s7 (enaTo (fun k => enaCan x ms bs (k : Int)) k)))
  case atStart => exact ⟨0, Nat.zero_le _, by omega, rfl, Below.refl _ _, O1.out⟩
  case round =>
    obtain ⟨k, hk, hg, rfl, BW, OW⟩ := hrel
    have PW : Hid (Bk wr w.heap.size 36 (netCells x A c)) := P1.out.belowG BW.out (by omega)
    have BX : Hid (Below w.heap.size w wr) := B1.out.trans (BW.out.mono (by omega))
    have hlw := BW.out.size
    have k0 := fun i => PW.out.cell i
    rw [show netCells x A c = #[.int .i64 x.places, .slice A x.tasks.length c] from rfl] at k0
    have hel := enaTo_len (fun k => enaCan x ms bs (k : Int)) k
    by_cases hlt : k < x.tasks.length
    · have hltz : (k : Int) < (x.tasks.length : Int) := by omega
      cases q : enaCan x ms bs (k : Int) with
      | true =>
        have HS := Lib.hid (enaTo_yes (p := fun k => enaCan x ms bs (k : Int)) (k := k) q)
        go_wp2_with (first
          | (go_at_call 43; refine (spec_EnaCan x A c A1 c1 ms A2 c2 bs (k : Int) mo m2 wr (HX.out.later BX.out) (H1.out.later BX.out) (H2.out.later BX.out)).mono ?_; rintro e w5 ⟨rfl, hb5⟩; rw [q]; have HB5 := Lib.hid hb5; have hl5 := hb5.size; clear hb5)
          | (at_builtin; refine append_int rfl (.tmp 22) (.tmp 24) rfl (w.heap.size + 1) _ _ rfl ((OW.out.later HB5.out).alloc _) w5.heap.size (k : Int) rfl (by simp) (by omega) (by simp; omega) ?_; intro v' w6 hown6 hb6; have HO6 := Lib.hid hown6; have HB6 := Lib.hid hb6; clear hown6 hb6))
        go_roundg (x.tasks.length - (k + 1))
        case measure => omega
        case rel => exact ⟨k + 1, by omega, by omega, by go_num, ((BW.out.trans (HB5.out.mono (by omega))).alloc (by omega) _).trans HB6.out, by show OwnV _ _ _ _; rw [HS.out]; exact HO6.out⟩
      | false =>
        have HS := Lib.hid (enaTo_no (p := fun k => enaCan x ms bs (k : Int)) (k := k) q)
        go_wp2_with (go_at_call 43; refine (spec_EnaCan x A c A1 c1 ms A2 c2 bs (k : Int) mo m2 wr (HX.out.later BX.out) (H1.out.later BX.out) (H2.out.later BX.out)).mono ?_; rintro e w5 ⟨rfl, hb5⟩; rw [q]; have HB5 := Lib.hid hb5; have hl5 := hb5.size; clear hb5)
        go_roundg (x.tasks.length - (k + 1))
        case measure => omega
        case rel => exact ⟨k + 1, by omega, by omega, by go_num, BW.out.trans (HB5.out.mono (by omega)), by show OwnV _ _ _ _; rw [HS.out]; exact OW.out.later HB5.out⟩
    · have hltz : ¬ (k : Int) < (x.tasks.length : Int) := by omega
      have he : k = x.tasks.length := by omega
      subst he
      go_wp2
      go_ret
      exact ⟨_, rfl, by rw [HE.out]; exact OW.out.low (by omega), BX.out⟩

set_option maxRecDepth 100000 in
set_option maxHeartbeats 2000000 in
theorem impl_EnaTasks (x : GNet) (A : Option Addr) (c : Nat) (A1 : Option Addr) (c1 : Nat) (ms : List Int) (A2 : Option Addr) (c2 : Nat) (bs : List GItem) (mo m2 : Option Nat) (w : World)
    (hx : Rows taskC mo w w.heap.size A x.tasks) (h1 : Ints w w.heap.size A1 ms) (h2 : Rows itemC m2 w w.heap.size A2 bs) :
    Calls Tryz.prog 31 #[.agg (netCells x A c), .slice A1 ms.length c1, .slice A2 bs.length c2] w (GivesInts (enaOf x ms bs) w) := by
  have HX := Lib.hid hx
  have H1 := Lib.hid h1
  have H2 := Lib.hid h2
  clear hx h1 h2
  go_enter Tryz.func31, Tryz.ntmps31
  go_wp2_with fail
  refine callsAt fun W hW => ?_
  have P1 : Hid (Bk W w.heap.size 36 (netCells x A c)) := by show Bk _ _ _ _; rw [hW]; exact Bk.new rfl
  have B : Hid (Below w.heap.size w W) := by show Below _ _ _; rw [hW]; exact (Below.refl _ _).alloc (Nat.le_refl _) _
  have hl0 : w.heap.size + 1 ≤ W.heap.size := by rw [hW]; simp
  clear hW
  refine (impl_MrkOk x A c A1 c1 ms mo W (HX.out.later B.out) (H1.out.later B.out)).mono ?_
  rintro e w1 ⟨rfl, hb⟩
  have P1 := Lib.hid (P1.out.later hb)
  have B := Lib.hid (B.out.trans (hb.mono B.out.size))
  have hl1 := hb.size
  clear hb
  have k0 := fun i => P1.out.cell i
  cases q1 : mrkOk x ms with
  | false =>
    have HE : Hid (enaOf x ms bs = []) := by show _ = _; rw [enaOf, q1]; rfl
    go_wp2
    go_ret
    exact ⟨_, rfl, by rw [HE.out]; exact OwnV.nil _ _, B.out⟩
  | true =>
  obtain ⟨hnet, hml⟩ := mrk_len q1
  have HNET := Lib.hid hnet
  have HML := Lib.hid hml
  clear hnet hml
  go_wp2_with fail
  clear k0
  refine (impl_busyOk x A c A2 c2 bs mo m2 _ HNET.out (HX.out.later B.out) (H2.out.later B.out)).mono ?_
  rintro e w2 ⟨rfl, hb⟩
  have P1 := Lib.hid (P1.out.later hb)
  have B := Lib.hid (B.out.trans (hb.mono B.out.size))
  have hl2 := hb.size
  clear hb
  have k0 := fun i => P1.out.cell i
  cases q2 : busyOk x bs with
  | false =>
    have HE : Hid (enaOf x ms bs = []) := by show _ = _; rw [enaOf, q1, q2]; rfl
    go_wp2
    go_ret
    exact ⟨_, rfl, by rw [HE.out]; exact OwnV.nil _ _, B.out⟩
  | true =>
  have HE : Hid (enaOf x ms bs = enaTo (canP x ms bs) x.tasks.length) := by show _ = _; rw [enaOf, q1, q2]; rfl
  have HBS := Lib.hid (busy_tasks q2)
  have hb6 : bs.length ≤ 6 := by
    unfold busyOk at q2
    rw [Bool.and_eq_true, decide_eq_true_iff] at q2
    exact q2.1
  have ht6 := (netOk_len HNET.out).2.1
  rw [show netCells x A c = #[.int .i64 x.places, .slice A x.tasks.length c] from rfl] at k0
  clear q1 q2
  go_wp2
  clear k0
  go_loopg [7, 22] x.tasks.length (fun gg s7 s22 wr => ∃ k : Nat, k ≤ x.tasks.length ∧ x.tasks.length - k ≤ gg ∧ s22 = .int .i64 k ∧ Aside (Below (w.heap.size + 1) w2 wr) ∧ Aside (OwnV wr (w.heap.size + 1) s7 (enaTo (canP x ms bs) k)))
  case atStart => exact ⟨0, Nat.zero_le _, by omega, rfl, Below.refl _ _, OwnV.nil _ _⟩
  case round =>
    obtain ⟨k, hk, hg, rfl, BW, OW⟩ := hrel
    have PW : Hid (Bk wr w.heap.size 36 (netCells x A c)) := P1.out.belowG BW.out (by omega)
    have BX : Hid (Below w.heap.size w wr) := B.out.trans (BW.out.mono (by omega))
    have hlw := BW.out.size
    have k0 := fun i => PW.out.cell i
    rw [show netCells x A c = #[.int .i64 x.places, .slice A x.tasks.length c] from rfl] at k0
    have hel := enaTo_len (canP x ms bs) k
    by_cases hlt : k < x.tasks.length
    · have hltz : (k : Int) < (x.tasks.length : Int) := by omega
      cases q : canP x ms bs k with
      | true =>
        have HS := Lib.hid (enaTo_yes (p := canP x ms bs) (k := k) q)
        go_wp2_with (first
          | (go_at_call 54; refine (impl_can x A c A1 c1 ms A2 c2 bs k mo m2 wr (netFit HNET.out) (HX.out.later BX.out) (H1.out.later BX.out) (H2.out.later BX.out) HML.out hlt HBS.out hb6).mono ?_; rintro e w5 ⟨rfl, hb5⟩; rw [q]; have HB5 := Lib.hid hb5; have hl5 := hb5.size; clear hb5)
          | (at_builtin; refine append_int rfl (.tmp 30) (.tmp 32) rfl (w.heap.size + 1) _ _ rfl ((OW.out.later HB5.out).alloc _) w5.heap.size (k : Int) rfl (by simp) (by omega) (by simp; omega) ?_; intro v' w6 hown6 hb6'; have HO6 := Lib.hid hown6; have HB6 := Lib.hid hb6'; clear hown6 hb6'))
        go_roundg (x.tasks.length - (k + 1))
        case measure => omega
        case rel => exact ⟨k + 1, by omega, by omega, by go_num, ((BW.out.trans (HB5.out.mono (by omega))).alloc (by omega) _).trans HB6.out, by show OwnV _ _ _ _; rw [HS.out]; exact HO6.out⟩
      | false =>
        have HS := Lib.hid (enaTo_no (p := canP x ms bs) (k := k) q)
        go_wp2_with (go_at_call 54; refine (impl_can x A c A1 c1 ms A2 c2 bs k mo m2 wr (netFit HNET.out) (HX.out.later BX.out) (H1.out.later BX.out) (H2.out.later BX.out) HML.out hlt HBS.out hb6).mono ?_; rintro e w5 ⟨rfl, hb5⟩; rw [q]; have HB5 := Lib.hid hb5; have hl5 := hb5.size; clear hb5)
        go_roundg (x.tasks.length - (k + 1))
        case measure => omega
        case rel => exact ⟨k + 1, by omega, by omega, by go_num, BW.out.trans (HB5.out.mono (by omega)), by show OwnV _ _ _ _; rw [HS.out]; exact OW.out.later HB5.out⟩
    · have hltz : ¬ (k : Int) < (x.tasks.length : Int) := by omega
      have he : k = x.tasks.length := by omega
      subst he
      go_wp2
      go_ret
      exact ⟨_, rfl, by rw [HE.out]; exact OW.out.low (by omega), BX.out⟩
end Go.Proofs.YtkoaaagmcjjimaaGreat

