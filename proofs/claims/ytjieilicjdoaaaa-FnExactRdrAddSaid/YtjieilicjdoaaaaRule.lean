/- Rules: how a rule reads as plain data; whether rules are ok, as a plain function. -/
import Derived.Test.YtjieilicjdoaaaaAsk
namespace Go.Proofs.Ytjieilicjdoaaaa
open Go.RowKit

/-- A rule. -/
structure GRule where
  ask : GAsk
  yes : Int
  no : Int
  ans : Int
  stone : List Int
def rule0 : GRule := ⟨⟨0, 0, 0⟩, -1, -1, 0, []⟩

def ruleC : Cod GRule :=
  { k := 7
    R := fun m w B x cs => ∃ A c, cs = [.int .i64 x.ask.op, .int .i64 x.ask.var, .int .i64 x.ask.k, .int .i64 x.yes, .int .i64 x.no, .int .i64 x.ans, .slice A x.stone.length c] ∧ Rows intC m w B A x.stone
    keep := fun ⟨A, c, h, h1⟩ ha => ⟨A, c, h, h1.keep ha⟩
    more := fun ⟨A, c, h, h1⟩ hb => ⟨A, c, h, h1.more hb⟩
    weak := fun ⟨A, c, h, h1⟩ hm => ⟨A, c, h, h1.weak hm⟩
    len := fun ⟨_, _, h, _⟩ => by subst h; rfl }

section
variable {m : Option Nat} {w : World} {B : Nat} {A : Option Addr}
/-- Rule j of a row of rules: its cells, and what they stand for. -/
theorem rule_at {xs : List GRule} (h : Rows ruleC m w B A xs) {j : Nat} (hj : j < xs.length) :
    ∃ b off A1 c1, A = some ⟨b, off, none⟩ ∧ b < B ∧ Rows intC m w B A1 xs[j].stone ∧
      w.cell? ⟨b, off + j * 7, none⟩ = some (.int .i64 xs[j].ask.op) ∧ w.cell? ⟨b, off + j * 7 + 1, none⟩ = some (.int .i64 xs[j].ask.var) ∧ w.cell? ⟨b, off + j * 7 + 2, none⟩ = some (.int .i64 xs[j].ask.k) ∧
      w.cell? ⟨b, off + j * 7 + 3, none⟩ = some (.int .i64 xs[j].yes) ∧ w.cell? ⟨b, off + j * 7 + 4, none⟩ = some (.int .i64 xs[j].no) ∧ w.cell? ⟨b, off + j * 7 + 5, none⟩ = some (.int .i64 xs[j].ans) ∧
      w.cell? ⟨b, off + j * 7 + 6, none⟩ = some (.slice A1 xs[j].stone.length c1) := by
  obtain ⟨b, off, cs, hA, hb, ⟨A1, c1, hcs, h1⟩, hc⟩ := h.at_ hj
  subst hcs
  exact ⟨b, off, A1, c1, hA, hb.1, h1, by have h0 := hc 0 _ rfl; rw [Nat.add_zero] at h0; exact h0, hc 1 _ rfl, hc 2 _ rfl, hc 3 _ rfl, hc 4 _ rfl, hc 5 _ rfl, hc 6 _ rfl⟩
end

/-- A question holds for data. -/
def holds (e : GAsk) (d : List Int) : Bool :=
  askOk e && (datOk d && (if e.op = 1 then decide (d.getD e.var.toNat 0 < e.k) else if e.op = 2 then decide (d.getD e.var.toNat 0 = e.k) else if e.op = 3 then decide (e.k < d.getD e.var.toNat 0) else true))

def nextOk (y : Int) (i n : Nat) : Bool := decide (y = -1) || inB y (i + 1) (n - 1)
def hit (y : Int) (j : Nat) : Nat := if y = (j : Int) then 1 else 0
/-- How often rule j is asked next by one of the first k rules. -/
def named (t : List GRule) (k j : Nat) : Nat := ((t.take k).map fun r => hit r.yes j + hit r.no j).sum
def ruleAt (t : List GRule) (i : Nat) : Bool :=
  (holds (t.getD i rule0).ask (t.getD i rule0).stone && inB (t.getD i rule0).ans 0 2) && (nextOk (t.getD i rule0).yes i t.length && nextOk (t.getD i rule0).no i t.length)
def onceAt (t : List GRule) (i : Nat) : Bool := decide (named t t.length i = if i = 0 then 0 else 1)
def treeOk (t : List GRule) : Bool := decide (t.length ≤ 12) && allTo (fun i => ruleAt t i && onceAt t i) t.length

theorem named_zero (t : List GRule) (j : Nat) : named t 0 j = 0 := by simp [named]
theorem named_succ (t : List GRule) (k j : Nat) (hk : k < t.length) : named t (k + 1) j = named t k j + (hit t[k].yes j + hit t[k].no j) := by
  unfold named
  rw [List.take_succ_eq_append_getElem hk, List.map_append, List.sum_append]
  simp only [List.map_cons, List.map_nil, List.sum_cons, List.sum_nil, Nat.add_zero]
theorem hit_le (y : Int) (j : Nat) : hit y j ≤ 1 := by unfold hit; split <;> omega
theorem named_le (t : List GRule) (j : Nat) : ∀ k, k ≤ t.length → named t k j ≤ 2 * k := fun k hk => by
  induction k with
  | zero => rw [named_zero]; omega
  | succ k ih =>
    rw [named_succ t k j hk]
    have := ih (by omega)
    have := hit_le t[k].yes j
    have := hit_le t[k].no j
    omega
theorem hit_zero {y : Int} {i n : Nat} (h : nextOk y i n = true) : hit y 0 = 0 := by
  unfold hit
  rw [if_neg]
  intro h0
  simp [nextOk, inB] at h
  omega
theorem ruleAt_zero {t : List GRule} : ∀ k, k ≤ t.length → allTo (ruleAt t) k = true → named t k 0 = 0 := fun k hk h => by
  induction k with
  | zero => exact named_zero t 0
  | succ k ih =>
    rw [allTo_succ, Bool.and_eq_true] at h
    have h2 := h.2
    unfold ruleAt at h2
    simp only [Bool.and_eq_true] at h2
    rw [getD_get hk] at h2
    rw [named_succ t k 0 hk, ih (by omega) h.1, hit_zero h2.2.1, hit_zero h2.2.2]
theorem allTo_and (p q : Nat → Bool) (n : Nat) : allTo (fun i => p i && q i) n = (allTo p n && allTo q n) := by
  induction n with
  | zero => rfl
  | succ n ih =>
    rw [allTo_succ, allTo_succ, allTo_succ, ih]
    cases allTo p n <;> cases allTo q n <;> cases p n <;> cases q n <;> rfl
/-- The program's way of asking: the first rule need not be looked at. -/
theorem treeOk_impl (t : List GRule) : treeOk t = (allTo (ruleAt t) t.length && (allTo (fun i => decide (i = 0) || decide (named t t.length i = 1)) t.length && decide (t.length ≤ 12))) := by
  unfold treeOk
  rw [allTo_and]
  cases h : allTo (ruleAt t) t.length with
  | false => simp
  | true =>
    have h0 := ruleAt_zero t.length (Nat.le_refl _) h
    rw [Bool.true_and, Bool.true_and, Bool.and_comm]
    congr 1
    refine allTo_congr _ fun k hk _ => ?_
    unfold onceAt
    by_cases hk0 : k = 0
    · subst hk0; simp [h0]
    · simp [hk0]
theorem treeOk_len {t : List GRule} (h : treeOk t = true) : t.length ≤ 12 := by
  simp [treeOk] at h; exact h.1
theorem treeOk_at {t : List GRule} (h : treeOk t = true) {i : Nat} (hi : i < t.length) : holds t[i].ask t[i].stone = true ∧ inB t[i].ans 0 2 = true ∧ nextOk t[i].yes i t.length = true ∧ nextOk t[i].no i t.length = true ∧ named t t.length i = if i = 0 then 0 else 1 := by
  unfold treeOk at h
  rw [Bool.and_eq_true] at h
  have h2 := allTo_get h.2 hi
  simp only [ruleAt, onceAt, Bool.and_eq_true, getD_get hi, decide_eq_true_eq] at h2
  exact ⟨h2.1.1.1, h2.1.1.2, h2.1.2.1, h2.1.2.2, h2.2⟩
theorem holds_dat {e : GAsk} {d : List Int} (h : holds e d = true) : askOk e = true ∧ datOk d = true := by
  simp [holds] at h; exact ⟨h.1, h.2.1⟩
theorem datOk_len {d : List Int} (h : datOk d = true) : d.length = 3 := by simp [datOk] at h; exact h.1

/-- The rule that a number names. -/
def rule (t : List GRule) (a : Int) : GRule := t.getD a.toNat rule0
theorem rule_get {t : List GRule} {i : Nat} (hi : i < t.length) : rule t (i : Int) = t[i] := by
  unfold rule
  rw [Int.toNat_natCast, getD_get hi]
def next (t : List GRule) (d : List Int) (a : Int) : Int := if a = -1 then -1 else if holds (rule t a).ask d then (rule t a).yes else (rule t a).no
/-- The rule that is asked as the n-th one; -1: none. -/
def pos (t : List GRule) (d : List Int) : Nat → Int
  | 0 => if t.length = 0 then -1 else 0
  | n + 1 => next t d (pos t d n)
def posOk (t : List GRule) (n : Nat) (a : Int) : Prop := a = -1 ∨ (n ≤ a ∧ a < t.length)
theorem nextOk_pos {t : List GRule} {y : Int} {i : Nat} (h : nextOk y i t.length = true) : posOk t (i + 1) y := by
  simp [nextOk, inB] at h
  unfold posOk
  omega
theorem next_ok {t : List GRule} (h : treeOk t = true) (d : List Int) {n : Nat} {a : Int} (ha : posOk t n a) : posOk t (n + 1) (next t d a) := by
  rcases ha with rfl | ⟨h1, h2⟩
  · exact .inl rfl
  · obtain ⟨i, rfl⟩ := Int.eq_ofNat_of_zero_le (a := a) (by omega)
    have hi : i < t.length := by omega
    obtain ⟨_, _, hy, hn, _⟩ := treeOk_at h hi
    unfold next
    rw [if_neg (by omega), rule_get hi]
    have key : ∀ y, nextOk y i t.length = true → posOk t (n + 1) y := fun y hy => by
      rcases nextOk_pos hy with h3 | ⟨h3, h4⟩
      · exact .inl h3
      · exact .inr ⟨by omega, h4⟩
    split
    · exact key _ hy
    · exact key _ hn
theorem pos_ok {t : List GRule} (h : treeOk t = true) (d : List Int) : ∀ n, posOk t n (pos t d n)
  | 0 => by
    unfold pos posOk
    split
    · exact .inl rfl
    · exact .inr ⟨by omega, by omega⟩
  | n + 1 => next_ok h d (pos_ok h d n)
theorem pos_len {t : List GRule} (h : treeOk t = true) (d : List Int) {n : Nat} (hn : t.length ≤ n) : pos t d n = -1 := by
  rcases pos_ok h d n with h1 | ⟨h1, h2⟩
  · exact h1
  · omega
theorem pos_stay {t : List GRule} {d : List Int} {n : Nat} (h : pos t d n = -1) : ∀ m, pos t d (n + m) = -1
  | 0 => h
  | m + 1 => by
    show next t d (pos t d (n + m)) = -1
    rw [pos_stay h m]; rfl

/-- The rules that are asked about data. -/
def wayL (t : List GRule) (d : List Int) : List Int := ((List.range 12).map (pos t d)).takeWhile fun a => decide (a ≠ -1)
def posTo (t : List GRule) (d : List Int) (n : Nat) : List Int := (List.range n).map (pos t d)
theorem posTo_succ (t : List GRule) (d : List Int) (n : Nat) : posTo t d (n + 1) = posTo t d n ++ [pos t d n] := by simp [posTo, List.range_succ]
theorem posTo_len (t : List GRule) (d : List Int) (n : Nat) : (posTo t d n).length = n := by simp [posTo]
theorem way_eq {t : List GRule} {d : List Int} {n : Nat} (h : pos t d n = -1) (h2 : ∀ j, j < n → pos t d j ≠ -1) (hn : n ≤ 12) : wayL t d = posTo t d n := by
  unfold wayL
  obtain ⟨m, hm⟩ : ∃ m, 12 = n + m := ⟨12 - n, by omega⟩
  rw [hm, List.range_add, List.map_append, List.takeWhile_append_of_pos]
  · show posTo t d n ++ _ = posTo t d n
    have : List.takeWhile (fun a => decide (a ≠ -1)) (List.map (pos t d) (List.map (fun x => n + x) (List.range m))) = [] := by
      cases m with
      | zero => rfl
      | succ m =>
        rw [List.range_succ_eq_map]
        simp [h]
    rw [this, List.append_nil]
  · intro a ha
    obtain ⟨j, hj, rfl⟩ := List.mem_map.1 ha
    simpa using h2 j (List.mem_range.1 hj)

/-- The last rule of some that holds; -1: none. -/
def heldOf (t : List GRule) (d : List Int) (l : List Int) : Int := l.foldl (fun h a => if holds (rule t a).ask d then a else h) (-1)
theorem heldOf_snoc (t : List GRule) (d : List Int) (l : List Int) (a : Int) : heldOf t d (l ++ [a]) = if holds (rule t a).ask d then a else heldOf t d l := by simp [heldOf]
def lastOf (l : List Int) : Int := l.getLast?.getD (-1)
theorem lastOf_snoc (l : List Int) (a : Int) : lastOf (l ++ [a]) = a := by simp [lastOf]

def rdrWay (t : List GRule) (d : List Int) : List Int := if treeOk t && datOk d then wayL t d else []
def rdrHeld (t : List GRule) (d : List Int) : Int := heldOf t d (rdrWay t d)
def rdrAsk (t : List GRule) (d : List Int) : Int := if rdrHeld t d = -1 then 0 else (rule t (rdrHeld t d)).ans

/-- All rules that are asked are rules. -/
theorem posTo_in {t : List GRule} (h : treeOk t = true) {d : List Int} {n : Nat} (h2 : ∀ j, j < n → pos t d j ≠ -1) : ∀ a ∈ posTo t d n, ∃ i : Nat, a = i ∧ i < t.length := fun a ha => by
  obtain ⟨j, hj, rfl⟩ := List.mem_map.1 ha
  rcases pos_ok h d j with h1 | ⟨h1, h3⟩
  · exact absurd h1 (h2 j (List.mem_range.1 hj))
  · exact ⟨(pos t d j).toNat, by omega, by omega⟩
theorem wayL_is {t : List GRule} (h : treeOk t = true) (d : List Int) : ∃ n, n ≤ t.length ∧ pos t d n = -1 ∧ (∀ j, j < n → pos t d j ≠ -1) ∧ wayL t d = posTo t d n := by
  have hl := treeOk_len h
  have key : ∀ m, pos t d m = -1 → ∃ n, n ≤ m ∧ pos t d n = -1 ∧ ∀ j, j < n → pos t d j ≠ -1 := fun m => by
    induction m with
    | zero => exact fun hm => ⟨0, Nat.le_refl _, hm, fun j hj => absurd hj (Nat.not_lt_zero _)⟩
    | succ m ih =>
      intro hm
      by_cases h1 : pos t d m = -1
      · obtain ⟨n, hn, h2, h3⟩ := ih h1
        exact ⟨n, by omega, h2, h3⟩
      · exact ⟨m + 1, Nat.le_refl _, hm, fun j hj hj1 => h1 (by
          have := pos_stay hj1 (m - j)
          rwa [show j + (m - j) = m from by omega] at this)⟩
  obtain ⟨n, hn, h2, h3⟩ := key t.length (pos_len h d (Nat.le_refl _))
  exact ⟨n, hn, h2, h3, way_eq h2 h3 (by omega)⟩
theorem wayL_in {t : List GRule} (h : treeOk t = true) (d : List Int) : ∀ a ∈ wayL t d, ∃ i : Nat, a = i ∧ i < t.length := by
  obtain ⟨n, _, _, h3, h4⟩ := wayL_is h d
  rw [h4]
  exact posTo_in h h3
theorem rdrWay_in (t : List GRule) (d : List Int) : ∀ a ∈ rdrWay t d, ∃ i : Nat, a = i ∧ i < t.length := by
  unfold rdrWay
  split
  · rename_i h
    rw [Bool.and_eq_true] at h
    exact wayL_in h.1 d
  · intro a ha
    cases ha
theorem rdrWay_len (t : List GRule) (d : List Int) : (rdrWay t d).length ≤ 12 := by
  unfold rdrWay
  split
  · rename_i h
    rw [Bool.and_eq_true] at h
    obtain ⟨n, hn, _, _, h4⟩ := wayL_is h.1 d
    rw [h4, posTo_len]
    have := treeOk_len h.1
    omega
  · simp
theorem heldOf_in {t : List GRule} {d : List Int} (l : List Int) (h : ∀ a ∈ l, ∃ i : Nat, a = i ∧ i < t.length) : heldOf t d l = -1 ∨ ∃ i : Nat, heldOf t d l = i ∧ i < t.length := by
  unfold heldOf
  have key : ∀ (l : List Int) (z : Int), (∀ a ∈ l, ∃ i : Nat, a = i ∧ i < t.length) → (z = -1 ∨ ∃ i : Nat, z = i ∧ i < t.length) →
      (l.foldl (fun h a => if holds (rule t a).ask d then a else h) z = -1 ∨ ∃ i : Nat, l.foldl (fun h a => if holds (rule t a).ask d then a else h) z = i ∧ i < t.length) := by
    intro l
    induction l with
    | nil => exact fun z _ hz => hz
    | cons a l ih =>
      intro z hl hz
      refine ih _ (fun b hb => hl b (by simp [hb])) ?_
      dsimp only
      split
      · exact .inr (hl a (by simp))
      · exact hz
  exact key l (-1) h (.inl rfl)
theorem rdrHeld_in (t : List GRule) (d : List Int) : rdrHeld t d = -1 ∨ ∃ i : Nat, rdrHeld t d = i ∧ i < t.length := heldOf_in _ (rdrWay_in t d)
end Go.Proofs.Ytjieilicjdoaaaa
