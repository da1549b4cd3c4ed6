/- Rows of ints while a reader draws. -/
import Derived.Test.YtkkjljpokannkaaDraw0
import Derived.Test.YtkkjljpokannkaaMarks
namespace Go.Proofs.Ytkkjljpokannkaa
open Go.RowKit

theorem append_ints {ops : Array Oper} {rest : List Oper} {o : Oper} {a : Act} {w : World} {Q : Exit → Act → World → Prop} (hgd : o.guard = none) (s x : Operand)
    (ho : o.op = .call { callee := .builtin .append, args := #[s, x], argTypes := #[23, 23] })
    (base : Nat) (v : Value) (xs : List Int) (hs : a.eval s = v) (hown : OwnV w base v xs)
    (g c : Nat) (ys : List Int) (hx : a.eval x = .slice (some ⟨g, 0, none⟩) ys.length c) (hnew : ∀ j y, ys[j]? = some y → w.cell? ⟨g, j, none⟩ = some (.int .i64 y)) (hn : xs.length + ys.length ≤ 16777217) (hbase : base ≤ w.heap.size)
    (h : ∀ v' w', OwnV w' base v' (xs ++ ys) → w.grownBy w' v.ownBlock → Below base w w' → wpList Try.prog ops Q rest (a.put o.dst v') w') : wpList Try.prog ops Q (o :: rest) a w := by
  obtain ⟨i, hi, hz, hsize, hbytes⟩ := info_parts info_int
  refine wpList_append_own w hgd s x 23 ho base 3 i (.int .i64 0) 1 8 Try.underlying23 hi hz hsize hbytes rfl (by decide) v xs.length (iv xs) hs hown ⟨g, 0, none⟩ ys.length c (iv ys) hx (by rw [iv_len]; omega) (fun j u hu => ?_) (fun u hu => ?_) (by unfold maxLen; omega) (by omega) hbase fun v' w' h2 h3 _ => ?_
  · have hadd : (⟨g, 0, none⟩ : Addr).add j = ⟨g, j, none⟩ := by unfold Addr.add; split <;> simp_all
    rw [hadd]
    simp only [iv, List.getElem?_map, Option.map_eq_some_iff] at hu
    obtain ⟨y, hy, rfl⟩ := hu
    exact hnew j y hy
  · simp only [iv, List.mem_map] at hu
    obtain ⟨y, _, rfl⟩ := hu
    rfl
  · exact h v' w' (by unfold OwnV; rw [iv_append, List.length_append]; exact h2) h3 ((Below.refl _ _).grown h3 hbase fun k hk => (hown.lt k hk).1)

theorem OwnV.kept {w w' : World} {base : Nat} {v : Value} {xs : List Int} (h : OwnV w base v xs) (hk : Kept base w w') : OwnV w' base v xs := by
  refine ⟨h.1, ?_⟩
  rcases h.2 with hn | ⟨g, cap, cur, hv, hb, hgg, rest⟩
  · exact .inl hn
  · exact .inr ⟨g, cap, cur, hv, hb, (hk.2 g (Array.getElem?_eq_some_iff.1 hgg).1 hb).trans hgg, rest⟩
theorem OwnV.form' {w : World} {base : Nat} {v : Value} {xs : List Int} (h : OwnV w base v xs) : ∃ A c, v = .slice A xs.length c ∧ xs.length ≤ c ∧ (0 < xs.length → ∃ g, A = some ⟨g, 0, none⟩ ∧ base ≤ g ∧ Wr w g 3 (iv xs)) := by
  rcases h.2 with ⟨h1, h2⟩ | ⟨g, cap, cur, hv, hb, hh, hcap, _, _, ht⟩
  · exact ⟨none, 0, by rw [h1, h2], by omega, fun h0 => by omega⟩
  · exact ⟨some ⟨g, 0, none⟩, cap, hv, hcap, fun _ => ⟨g, rfl, hb, cur, hh, by rw [iv_len]; simpa using ht⟩⟩
theorem OwnV.made {w : World} {base : Nat} (hb : base ≤ w.heap.size) (cap : Nat) (cur : Array Value) (hm : cap ≤ maxLen) (hs : cur.size = cap) : OwnV (w.alloc (.cells cur 3)) base (.slice (some ⟨w.heap.size, 0, none⟩) 0 cap) [] :=
  World.ownsRow_made w cur cap hb hm (by omega)
theorem OwnI.kept {w w' : World} {base : Nat} {A : Option Addr} {xs : List Int} (h : OwnI w base A xs) (hk : Kept base w w') : OwnI w' base A xs := fun h0 => by
  obtain ⟨g, hA, hg, hw⟩ := h h0
  exact ⟨g, hA, hg, hw.keep (hk.2 g hw.lt hg)⟩
theorem Bk.turned {w w' : World} {g R : Nat} {t : TypeId} {cs : Array Value} (h : Bk w g t cs) (ht : Turned R w w') (hg : g ≠ R) : Bk w' g t cs := (ht.block g h.lt hg).trans h

theorem iv_put (xs : List Int) (i : Nat) (z : Int) : (iv xs).set i (.int .i64 z) = iv (xs.set i z) := by simp [iv, List.map_set]
/-- What is turned in memory of the call's own counts for nothing. -/
theorem Turned.trans' {R : Nat} {a b c : World} (h : Turned R a b) (k : Below a.heap.size b c) : Turned R a c :=
  ⟨k.os.trans h.os, k.tape.trans h.tape, k.output.trans h.output, Nat.le_trans h.size k.size, fun i hi hr => (k.block i hi).trans (h.block i hi hr)⟩

/-- What drawing a slice of ints leaves: some numbers, no more than n, in memory of the call's own. -/
def DrawnI (R Q n : Nat) (w : World) (e : Ending) (w' : World) : Prop :=
  ∃ A c xs, e = .returned (.slice A xs.length c) ∧ xs.length ≤ n ∧ xs.length ≤ c ∧ OwnI w' w.heap.size A xs ∧ RdB w' R Q ∧ Turned R w w'

end Go.Proofs.Ytkkjljpokannkaa
