/- Ints appended from any slice; ints copied by the program. -/
import Derived.Test.YtjieilicjdoaaaaAppRow
import Derived.Maps.AppendAt
import Derived.Laws.OwnMore
namespace Go.Proofs.Ytjieilicjdoaaaa
open Go.RowKit

/-- What a function leaves that answers ints in memory of its own. -/
def GivesL (xs : List Int) (w : World) (e : Ending) (w' : World) : Prop := ∃ v, e = .returned v ∧ OwnV w' w.heap.size v xs ∧ Below w.heap.size w w'

theorem append_none {ops : Array Oper} {rest : List Oper} {o : Oper} {a : Act} {w : World} {Q : Exit → Act → World → Prop} (hgd : o.guard = none) (s x : Operand) (t : TypeId)
    (ho : o.op = .call { callee := .builtin .append, args := #[s, x], argTypes := #[t, t] })
    (base : Nat) (e : TypeId) (i : TypeInfo) (size : Nat) (ht : Try.prog.underlying t = some (.slice e)) (hi : Try.prog.info? e = some i)
    (v : Value) (n c : Nat) (xs : List Value) (hs : a.eval s = v) (hown : w.ownsRow base e size v n xs) (hx : a.eval x = .slice none 0 c)
    (h : wpList Try.prog ops Q rest (a.put o.dst v) w) : wpList Try.prog ops Q (o :: rest) a w := by
  refine wpList_plain hgd fun K hK => ?_
  have hrun : (Builtin.append_ #[t, t] o.type #[v, .slice none 0 c]).run Try.prog w = .ok v w := by
    rcases hown.2 with ⟨rfl, rfl⟩ | ⟨g, cap, cur, rfl, _, _, hnc, _⟩
    · simp [Builtin.append_, run_underlying ht, sizeOf, typeInfo, hi, Builtin.lenOf, Builtin.firstCells]
    · simp [Builtin.append_, run_underlying ht, sizeOf, typeInfo, hi, Builtin.lenOf, Builtin.firstCells, hnc, storeCells]
  unfold Oper.wp
  simp [execOp, ho, resolve, invoke, builtin, hs, hx, hrun, Result.andThen]
  exact hK _ _ h

/-- Ints appended from a slice that lies anywhere. -/
theorem append_intsA {ops : Array Oper} {rest : List Oper} {o : Oper} {a : Act} {w : World} {Q : Exit → Act → World → Prop} (hgd : o.guard = none) (s x : Operand)
    (ho : o.op = .call { callee := .builtin .append, args := #[s, x], argTypes := #[23, 23] })
    (base : Nat) (v : Value) (xs : List Int) (hs : a.eval s = v) (hown : OwnV w base v xs)
    (A : Option Addr) (c B : Nat) (ys : List Int) (hx : a.eval x = .slice A ys.length c) (hy : Ints w B A ys) (hn : xs.length + ys.length ≤ 16777217) (hbase : base ≤ w.heap.size)
    (h : ∀ v' w', OwnV w' base v' (xs ++ ys) → w.grownBy w' v.ownBlock → Below base w w' → wpList Try.prog ops Q rest (a.put o.dst v') w') : wpList Try.prog ops Q (o :: rest) a w := by
  obtain ⟨i, hi, hz, hsize, hbytes⟩ := info_parts info_int
  cases A with
  | none =>
    have hy0 : ys = [] := by
      rcases Nat.eq_zero_or_pos ys.length with h0 | h0
      · exact List.eq_nil_of_length_eq_zero h0
      · obtain ⟨b, off, hA, _⟩ := hy.2 h0
        cases hA
    subst hy0
    refine append_none hgd s x 23 ho base 3 i 1 Try.underlying23 hi v xs.length c (iv xs) hs hown hx (h v w (by rw [List.append_nil]; exact hown) ⟨rfl, rfl, rfl, Nat.le_refl _, fun _ _ _ => rfl⟩ (Below.refl _ _))
  | some ad =>
    have hnews : ∀ j u, (iv ys)[j]? = some u → w.cell? (ad.add j) = some u := fun j u hu => by
      simp only [iv, List.getElem?_map, Option.map_eq_some_iff] at hu
      obtain ⟨y, hyj, rfl⟩ := hu
      have hj := (List.getElem?_eq_some_iff.1 hyj).1
      obtain ⟨b, off, hA, _, hc⟩ := hy.2 (by omega)
      cases hA
      have hadd : (⟨b, off, none⟩ : Addr).add j = ⟨b, off + j, none⟩ := by unfold Addr.add; split <;> simp_all
      rw [hadd]
      exact hc j y hyj
    refine wpList_append_own w hgd s x 23 ho base 3 i (.int .i64 0) 1 8 Try.underlying23 hi hz hsize hbytes rfl (by decide) v xs.length (iv xs) hs hown ad ys.length c (iv ys) hx (by rw [iv_len]; omega) hnews (fun u hu => ?_) (by unfold maxLen; omega) (by omega) hbase fun v' w' h2 h3 _ => ?_
    · simp only [iv, List.mem_map] at hu
      obtain ⟨y, _, rfl⟩ := hu
      rfl
    · exact h v' w' (by unfold OwnV; rw [iv_append, List.length_append]; exact h2) h3 ((Below.refl _ _).grown h3 hbase fun k hk => (hown.lt k hk).1)

theorem OwnV.rows {w : World} {base : Nat} {v : Value} {xs : List Int} (h : OwnV w base v xs) (hl : xs.length ≤ 9223372036854775807) : ∃ A c, v = .slice A xs.length c ∧ Rows intC (some base) w w.heap.size A xs := by
  obtain ⟨A, c, hv, hA⟩ := h.form
  refine ⟨A, c, hv, ?_⟩
  rcases Nat.eq_zero_or_pos xs.length with h0 | h0
  · have : xs = [] := List.eq_nil_of_length_eq_zero h0
    subst this
    exact Rows.nil
  · obtain ⟨g, rfl, hb, hw⟩ := hA h0
    exact hw.rows hl hb hw.lt
theorem OwnV.made' {w : World} {base : Nat} (hb : base ≤ w.heap.size) : OwnV (w.alloc (.cells #[] 3)) base (.slice (some ⟨w.heap.size, 0, none⟩) 0 0) [] :=
  World.ownsRow_made w #[] 0 hb (by decide) rfl

theorem impl_cloneInts (A : Option Addr) (c : Nat) (xs : List Int) (w : World) (hx : Ints w w.heap.size A xs) (hl : xs.length ≤ 1048576) :
    Calls Try.prog 42 #[.slice A xs.length c] w (GivesL xs w) := by
  have HX := Lib.hid hx
  clear hx
  go_enter Try.func42, Try.ntmps42
  go_wp2_with (at_builtin; refine append_intsA rfl (.const (.slice none 0 0)) (.tmp 3) rfl w.heap.size _ [] rfl (OwnV.nil w w.heap.size) A c w.heap.size xs rfl HX.out (by simp; omega) (Nat.le_refl _) ?_; intro v' w2 hown2 hg2 hb2; have HO2 := Lib.hid hown2; have HB2 := Lib.hid hb2; clear hown2 hg2 hb2)
  go_ret
  exact ⟨_, rfl, HO2.out, HB2.out⟩
end Go.Proofs.Ytjieilicjdoaaaa
