/- A map from int to bool that the call itself has made, as the list of what was seen. -/
import Derived.Test.YtkkjljpokannkaaNet
import Derived.Maps.Own
import Derived.Maps.OwnOps
import Derived.Maps.Views
namespace Go.Proofs.Ytkkjljpokannkaa
open Go.RowKit

/-- Block b is a map that says true of the numbers of s, and nothing of others. -/
def SeenB (w : World) (b : Nat) (s : List Int) : Prop :=
  ∃ (D : DataW Nat) (n : Nat), w.ownsMap Try.prog 3 (plainElem Try.prog 4) b n D ∧ n ≤ s.length ∧ Maps.IsMap D ∧ ∀ z : Int, D.atKey (.int .i64 z) (.lit (.bool false)) = .lit (.bool (s.contains z))

theorem key_int {z : Int} (h0 : 0 ≤ z) (h1 : z ≤ 100) : keyOf Try.prog 3 (.int .i64 z) = some (.int .i64 z) := by
  have hk := Try.underlying3
  have hw : (Lit.int .i64 z).wf = true := by
    simp only [Lit.wf, Bool.and_eq_true, decide_eq_true_eq]
    have e1 : IntKind.i64.min = -9223372036854775808 := by decide
    have e2 : IntKind.i64.max = 9223372036854775807 := by decide
    rw [e1, e2]
    omega
  simp [keyOf, hk, mapKey, hw]
theorem SeenB.made (w : World) : SeenB (w.alloc (.map #[] 0)) w.heap.size [] :=
  ⟨.map [], 0, World.ownsMap_made w _ _ _, Nat.le_refl _, ⟨[], rfl⟩, fun z => by rfl⟩
theorem SeenB.kept {w w' : World} {b : Nat} {s : List Int} (h : SeenB w b s) (hb : Below w.heap.size w w') : SeenB w' b s := by
  obtain ⟨D, n, h1, h2, h3, h4⟩ := h
  exact ⟨D, n, h1.kept (row := none) ⟨hb.os, hb.tape, hb.output, hb.size, fun k hk _ => hb.block k hk⟩ (by simp), h2, h3, h4⟩
theorem SeenB.lt {w : World} {b : Nat} {s : List Int} (h : SeenB w b s) : b < w.heap.size := by
  obtain ⟨D, n, h1, _⟩ := h
  exact h1.lt
theorem SeenB.look {w : World} {b : Nat} {s : List Int} (h : SeenB w b s) {z : Int} (h0 : 0 ≤ z) (h1 : z ≤ 100) :
    (Instr.lookup 224 (.map (some b)) (.int .i64 z) false).run Try.prog w = .ok (.bool (s.contains z)) w := by
  obtain ⟨D, n, ho, _, _, hat⟩ := h
  obtain ⟨v, ps, hrun, hv⟩ := ho.lookup (t := 224) (Maps.int_keyed Try.underlying3) Try.underlying224 (z := .bool false) (by kernel_rfl) (plainElem_bool Try.underlying4 false) (key_int h0 h1)
  rw [hat z] at hv
  rw [hrun]
  have : v = .bool (s.contains z) := by
    have he : Try.prog.underlying 4 = some .bool := Try.underlying4
    unfold plainElem at hv
    rw [he] at hv
    cases v <;> simp at hv
    obtain ⟨rfl, _⟩ := hv
    simp
  rw [this]
theorem SeenB.put {w : World} {b : Nat} {s : List Int} (h : SeenB w b s) (hl : s.length ≤ 1000) {z : Int} (h0 : 0 ≤ z) (h1 : z ≤ 100) :
    ∃ w', (Instr.mapUpdate 224 (.map (some b)) (.int .i64 z) (.bool true)).run Try.prog w = .ok () w' ∧ SeenB w' b (s ++ [z]) ∧ w.grownBy w' (some b) := by
  obtain ⟨D, n, ho, hn, hD, hat⟩ := h
  obtain ⟨w', hrun, ho', hg⟩ := ho.update (t := 224) (Maps.int_keyed Try.underlying3) Try.underlying224 (by unfold maxLen; omega) (key_int h0 h1) (plainElem_bool Try.underlying4 true)
  refine ⟨w', hrun, ⟨_, n + 1, ho', by simp; omega, ?_, fun y => ?_⟩, hg⟩
  · obtain ⟨es, rfl⟩ := hD
    exact ⟨_, rfl⟩
  · by_cases hy : y = z
    · subst hy
      rw [Maps.atKey_put_same hD (by trivial)]
      simp
    · rw [Maps.atKey_put_other (by simp [hy]), hat y]
      simp [hy]

theorem wpList_seen {ops : Array Oper} {rest : List Oper} {o : Oper} {a : Act} {w : World} {Q : Exit → Act → World → Prop} (hgd : o.guard = none) (m x v : Operand)
    (ho : o.op = .mapUpdate 224 m x v) (b : Nat) (s : List Int) (z : Int) (hm : a.eval m = .map (some b)) (hown : SeenB w b s) (hl : s.length ≤ 1000) (hx : a.eval x = .int .i64 z) (hv : a.eval v = .bool true) (h0 : 0 ≤ z) (h1 : z ≤ 100)
    (h : ∀ w', SeenB w' b (s ++ [z]) → w.grownBy w' (some b) → wpList Try.prog ops Q rest (a.put o.dst undef) w') : wpList Try.prog ops Q (o :: rest) a w := by
  refine wpList_plain hgd fun K' hK' => ?_
  obtain ⟨w', hrun, r1, r2⟩ := hown.put hl h0 h1
  unfold Oper.wp
  simp [execOp, ho, hm, hx, hv, hrun, Result.andThen]
  exact hK' _ _ (h w' r1 r2)
theorem wpList_seen0 {ops : Array Oper} {rest : List Oper} {o : Oper} {a : Act} {w : World} {Q : Exit → Act → World → Prop} (hgd : o.guard = none) (m x v : Operand)
    (ho : o.op = .insert 224 m x v) (b : Nat) (s : List Int) (z : Int) (hm : a.eval m = .map (some b)) (hown : SeenB w b s) (hl : s.length ≤ 1000) (hx : a.eval x = .int .i64 z) (hv : a.eval v = .bool true) (h0 : 0 ≤ z) (h1 : z ≤ 100)
    (h : ∀ w', SeenB w' b (s ++ [z]) → w.grownBy w' (some b) → wpList Try.prog ops Q rest (a.put o.dst undef) w') : wpList Try.prog ops Q (o :: rest) a w := by
  refine wpList_plain hgd fun K' hK' => ?_
  obtain ⟨w', hrun, r1, r2⟩ := hown.put hl h0 h1
  unfold Oper.wp
  simp [execOp, ho, hm, hx, hv, hrun, Result.andThen]
  exact hK' _ _ (h w' r1 r2)
end Go.Proofs.Ytkkjljpokannkaa
