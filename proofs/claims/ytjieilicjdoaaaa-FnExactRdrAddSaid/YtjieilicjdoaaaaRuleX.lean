/- Rules, each with the block in which its data lie. -/
import Derived.Test.YtjieilicjdoaaaaAddTools
import Derived.Test.YtjieilicjdoaaaaAddS
namespace Go.Proofs.Ytjieilicjdoaaaa
open Go.RowKit
set_option linter.unusedSimpArgs false
set_option linter.unusedVariables false

/-- A rule and the block of its data. -/
def ruleX : Cod (GRule × Nat) :=
  { k := 7
    R := fun m w B p cs => ∃ A c, cs = [.int .i64 p.1.ask.op, .int .i64 p.1.ask.var, .int .i64 p.1.ask.k, .int .i64 p.1.yes, .int .i64 p.1.no, .int .i64 p.1.ans, .slice A p.1.stone.length c] ∧ (0 < p.1.stone.length → A = some ⟨p.2, 0, none⟩ ∧ Wr w p.2 3 (iv p.1.stone) ∧ okB m w B p.2)
    keep := fun ⟨A, c, h, h1⟩ ha => ⟨A, c, h, fun h0 => ⟨(h1 h0).1, (h1 h0).2.1.keep (ha _ (h1 h0).2.2.1 fun lo hl => ((h1 h0).2.2.2 lo hl).1), (h1 h0).2.2.keep ha⟩⟩
    more := fun ⟨A, c, h, h1⟩ hB => ⟨A, c, h, fun h0 => ⟨(h1 h0).1, (h1 h0).2.1, (h1 h0).2.2.more hB⟩⟩
    weak := fun ⟨A, c, h, h1⟩ hm => ⟨A, c, h, fun h0 => ⟨(h1 h0).1, (h1 h0).2.1, (h1 h0).2.2.weak hm⟩⟩
    len := fun ⟨_, _, h, _⟩ => by subst h; rfl }
theorem okB_rows {m : Option Nat} {w : World} {B g : Nat} {xs : List Int} (h : Wr w g 3 (iv xs)) (ho : okB m w B g) (hl : xs.length ≤ 9223372036854775807) : Rows intC m w B (some ⟨g, 0, none⟩) xs := by
  refine ⟨hl, fun h0 => ⟨g, 0, rfl, ho, fun j z hz => ⟨[.int .i64 z], rfl, fun i u hu => ?_⟩⟩⟩
  obtain ⟨b, off, hA, _, hcell⟩ := (h.ints h.lt hl).2 h0
  simp only [Option.some.injEq, Addr.mk.injEq, and_true] at hA
  obtain ⟨rfl, rfl⟩ := hA
  have hi : i = 0 := by
    have := (List.getElem?_eq_some_iff.1 hu).1
    simp at this
    omega
  subst hi
  simp only [List.getElem?_cons_zero, Option.some.injEq] at hu
  subst hu
  rw [show 0 + j * intC.k + 0 = 0 + j from by show 0 + j * 1 + 0 = _; omega]
  exact hcell j z hz
/-- The same rules, their blocks forgotten. -/
theorem ownX_own {w : World} {base : Nat} {v : Value} {tz : List (GRule × Nat)} (h : OwnC ruleX 65 w base v tz) (hs : ∀ p ∈ tz, p.1.stone.length ≤ 1048576) : OwnC ruleC 65 w base v (tz.map Prod.fst) := by
  obtain ⟨css, h1, h2, h3⟩ := h
  refine ⟨css, by simp [h1], fun j cs hj => ?_, by rw [List.length_map]; exact h3⟩
  obtain ⟨p, lo, B, hx, hlo, hB, hsep, A, c, hcs, hw⟩ := h2 j cs hj
  have hm := List.mem_of_getElem? hx
  refine ⟨p.1, lo, B, by simp [hx], hlo, hB, hsep, A, c, hcs, ?_⟩
  by_cases h0 : 0 < p.1.stone.length
  · obtain ⟨rfl, hwr, hok⟩ := hw h0
    exact okB_rows hwr hok (by have := hs p hm; omega)
  · rw [List.length_eq_zero_iff.1 (by omega : p.1.stone.length = 0)]
    exact Rows.nil
/-- The blocks of the data: one after the other, from base to hi. -/
def BlkOk (base hi : Nat) (tz : List (GRule × Nat)) : Prop := tz.Pairwise (fun p q => p.2 < q.2) ∧ ∀ p ∈ tz, base ≤ p.2 ∧ p.2 < hi
theorem BlkOk.more {base hi hi' : Nat} {tz : List (GRule × Nat)} (h : BlkOk base hi tz) (hh : hi ≤ hi') : BlkOk base hi' tz := ⟨h.1, fun p hp => ⟨(h.2 p hp).1, Nat.lt_of_lt_of_le (h.2 p hp).2 hh⟩⟩
theorem BlkOk.low {base base' hi : Nat} {tz : List (GRule × Nat)} (h : BlkOk base hi tz) (hh : base' ≤ base) : BlkOk base' hi tz := ⟨h.1, fun p hp => ⟨Nat.le_trans hh (h.2 p hp).1, (h.2 p hp).2⟩⟩
theorem BlkOk.snoc {base hi hi' : Nat} {tz : List (GRule × Nat)} (h : BlkOk base hi tz) (p : GRule × Nat) (h1 : hi ≤ p.2) (h2 : p.2 < hi') (hb : base ≤ hi) : BlkOk base hi' (tz ++ [p]) := by
  refine ⟨?_, fun q hq => ?_⟩
  · rw [List.pairwise_append]
    refine ⟨h.1, List.pairwise_singleton _ _, fun a ha b hb' => ?_⟩
    rw [List.mem_singleton] at hb'
    subst hb'
    exact Nat.lt_of_lt_of_le (h.2 a ha).2 h1
  · rcases List.mem_append.1 hq with h3 | h3
    · have := h.2 q h3; omega
    · rw [List.mem_singleton] at h3
      subst h3
      omega
theorem BlkOk.nil (base hi : Nat) : BlkOk base hi [] := ⟨List.Pairwise.nil, fun _ h => by cases h⟩
/-- One of the rules turned, its block kept. -/
theorem BlkOk.set {base hi : Nat} {tz : List (GRule × Nat)} (h : BlkOk base hi tz) {i : Nat} (hi' : i < tz.length) (r : GRule) : BlkOk base hi (tz.set i (r, tz[i].2)) := by
  have hk : ∀ j (hj : j < (tz.set i (r, tz[i].2)).length), ((tz.set i (r, tz[i].2))[j]).2 = (tz[j]'(by simpa using hj)).2 := fun j hj => by
    rw [List.getElem_set]
    split
    · rename_i he
      subst he
      rfl
    · rfl
  refine ⟨?_, fun p hp => ?_⟩
  · rw [List.pairwise_iff_getElem] at *
    intro a b ha hb hab
    rw [hk a ha, hk b hb]
    exact List.pairwise_iff_getElem.1 h.1 a b (by simpa using ha) (by simpa using hb) hab
  · obtain ⟨j, hj, rfl⟩ := List.getElem_of_mem hp
    rw [hk j hj]
    exact h.2 _ (List.getElem_mem _)
/-- What copying rules leaves: the same rules, each one's data in a block of its own. -/
def GivesX (t : List GRule) (w : World) (e : Ending) (w' : World) : Prop :=
  ∃ (v : Value) (tz : List (GRule × Nat)), e = .returned v ∧ tz.map Prod.fst = t ∧ OwnC ruleX 65 w' w.heap.size v tz ∧ BlkOk w.heap.size w'.heap.size tz ∧ Below w.heap.size w w'
/-- What adding a rule leaves. -/
def AddedX (t : List GRule) (d : List Int) (x : GAsk) (a : Int) (w : World) (e : Ending) (w' : World) : Prop :=
  ∃ (v : Value) (tz : List (GRule × Nat)), e = .returned (.tuple #[v, .bool (canAdd t d x a)]) ∧ tz.map Prod.fst = rdrAdd t d x a ∧ OwnC ruleX 65 w' w.heap.size v tz ∧ BlkOk w.heap.size w'.heap.size tz ∧ Below w.heap.size w w'
/-- The block of a row of ints of the call's own; any other, where it is empty. -/
theorem OwnV.block {w : World} {base : Nat} {v : Value} {xs : List Int} (h : OwnV w base v xs) : ∃ (A : Option Addr) (c p : Nat), v = .slice A xs.length c ∧ base ≤ p ∧ (0 < xs.length → p < w.heap.size) ∧ (p = base ∨ p < w.heap.size) ∧ (0 < xs.length → A = some ⟨p, 0, none⟩ ∧ Wr w p 3 (iv xs)) := by
  obtain ⟨A, c, hv, hA⟩ := h.form
  by_cases h0 : 0 < xs.length
  · obtain ⟨g, hg, hb, hw⟩ := hA h0
    exact ⟨A, c, g, hv, hb, fun _ => hw.lt, .inr hw.lt, fun _ => ⟨hg, hw⟩⟩
  · exact ⟨A, c, base, hv, Nat.le_refl _, fun h => absurd h h0, .inl rfl, fun h => absurd h h0⟩
theorem wr_okB {w : World} {g lo B : Nat} {t : TypeId} {l : List Value} (h : Wr w g t l) (hlo : lo ≤ g) (hB : g < B) : okB (some lo) w B g := by
  obtain ⟨cur, hc, _⟩ := id h
  exact ⟨hB, fun l hl => by cases hl; exact ⟨hlo, cur, _, hc⟩⟩
end Go.Proofs.Ytjieilicjdoaaaa
