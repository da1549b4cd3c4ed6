/- Appends as steps of a region that draws its order. -/
import Derived.Test.YtjieilicjdoaaaaAppRow
import Derived.Test.YtjieilicjdoaaaaOwn0
import Derived.Deep.RegionHeld3
namespace Go.Proofs.Ytjieilicjdoaaaa
open Go.RowKit

theorem step_of_run {ops : Array Oper} {o : Oper} {a : Act} {w : World} {K : Act → World → Prop} {Q : Exit → Act → World → Prop} {E : Prop}
    (hg : o.guard = none) (s x : Operand) (t : TypeId) (hop : o.op = Op.call { callee := Callee.builtin Builtin.append, args := #[s, x], argTypes := #[t, t] })
    {v xv v' : Value} {w' : World} (hs : a.eval s = v) (hx : a.eval x = xv) (hrun : (Builtin.append_ #[t, t] o.type #[v, xv]).run Try.prog w = .ok v' w')
    (hK : K (a.put o.dst v') w') : if Region.wanted o (yielded ops a.tmps) = true then Oper.wp Try.prog o a w K Q else E := by
  have hw : Region.wanted o (yielded ops a.tmps) = true := by simp [Region.wanted, hg]
  rw [if_pos hw]
  unfold Oper.wp
  simp [execOp, hop, resolve, invoke, builtin, hs, hx, hrun, Result.andThen]
  exact hK

theorem run_intsA (t : TypeId) (base : Nat) (v : Value) (xs : List Int) {w : World} (hown : OwnV w base v xs) (A : Option Addr) (c B : Nat) (ys : List Int) (hy : Ints w B A ys) (hn : xs.length + ys.length ≤ 16777217) (hbase : base ≤ w.heap.size) :
    ∃ v' w', (Builtin.append_ #[23, 23] t #[v, .slice A ys.length c]).run Try.prog w = .ok v' w' ∧ OwnV w' base v' (xs ++ ys) ∧ Below base w w' := by
  obtain ⟨i, hi, hz, hsize, hbytes⟩ := info_parts info_int
  cases A with
  | none =>
    have hy0 : ys = [] := by
      rcases Nat.eq_zero_or_pos ys.length with h0 | h0
      · exact List.eq_nil_of_length_eq_zero h0
      · obtain ⟨b, off, hA, _⟩ := hy.2 h0
        cases hA
    subst hy0
    refine ⟨v, w, ?_, by rw [List.append_nil]; exact hown, Below.refl _ _⟩
    have ht := Try.underlying23
    rcases hown.2 with ⟨rfl, h0⟩ | ⟨g, cap, cur, rfl, _, _, hnc, _⟩
    · simp [Builtin.append_, run_underlying ht, sizeOf, typeInfo, hi, Builtin.lenOf, Builtin.firstCells]
    · simp [Builtin.append_, run_underlying ht, sizeOf, typeInfo, hi, Builtin.lenOf, Builtin.firstCells, hnc, storeCells]
  | some ad =>
    have hnews : ∀ j u, (iv ys)[j]? = some u → w.cell? (ad.add j) = some u := fun j u hu => by
      simp only [iv, List.getElem?_map, Option.map_eq_some_iff] at hu
      obtain ⟨y, hyj, rfl⟩ := hu
      have hj := (List.getElem?_eq_some_iff.1 hyj).1
      obtain ⟨b, off, hA, _, hc⟩ := hy.2 (by omega)
      cases hA
      have hadd : (⟨b, off, none⟩ : Addr).add j = ⟨b, off + j, none⟩ := by unfold Addr.add; split <;> simp_all
      rw [hadd]
      exact hc j y hyj
    obtain ⟨v', w', hr, h2, h3, _⟩ := run_append_own (P := Try.prog) w base 23 t 3 i (.int .i64 0) 1 8 Try.underlying23 hi hz hsize hbytes rfl (by decide) v xs.length (iv xs) hown ad ys.length c (iv ys) (by rw [iv_len]; omega) hnews (fun u hu => by
      simp only [iv, List.mem_map] at hu
      obtain ⟨y, _, rfl⟩ := hu
      rfl) (by unfold maxLen; omega) (by omega) hbase
    exact ⟨v', w', hr, by unfold OwnV; rw [iv_append, List.length_append]; exact h2, (Below.refl _ _).grown h3 hbase fun k hk => (hown.lt k hk).1⟩

theorem step_intsA {ops : Array Oper} {o : Oper} {a : Act} {w : World} {K : Act → World → Prop} {Q : Exit → Act → World → Prop} {E : Prop}
    (hg : o.guard = none) (s x : Operand) (hop : o.op = Op.call { callee := Callee.builtin Builtin.append, args := #[s, x], argTypes := #[23, 23] })
    (base : Nat) (v : Value) (xs : List Int) (hs : a.eval s = v) (hown : OwnV w base v xs) (A : Option Addr) (c B : Nat) (ys : List Int) (hx : a.eval x = .slice A ys.length c) (hy : Ints w B A ys) (hn : xs.length + ys.length ≤ 16777217) (hbase : base ≤ w.heap.size)
    (hK : ∀ v' w', OwnV w' base v' (xs ++ ys) → Below base w w' → K (a.put o.dst v') w') : if Region.wanted o (yielded ops a.tmps) = true then Oper.wp Try.prog o a w K Q else E := by
  obtain ⟨v', w', hr, h1, h2⟩ := run_intsA o.type base v xs hown A c B ys hy hn hbase
  exact step_of_run hg s x 23 hop hs hx hr (hK v' w' h1 h2)

theorem run_C {α : Type} (C : Cod α) (t ty e : TypeId) (z : Value) (bytes : Nat) (ht : Try.prog.underlying t = some (.slice e)) (hinfo : (Try.prog.info? e).map (fun i => (i.zero, i.size, i.bytes)) = some (some z, C.k, bytes)) (hzs : z.cells.size = C.k) (hsz : 0 < C.k) (hby : bytes ≤ 1024)
    (base : Nat) (v : Value) (xs : List α) {w : World} (hown : OwnC C e w base v xs)
    (y : α) (cs : List Value) (lo B : Nat) (hR : C.R (some lo) w B y cs) (hlo : base ≤ lo) (hB : B ≤ w.heap.size) (hsep : ∀ g, v.ownBlock = some g → g < lo ∨ B ≤ g)
    (g : Nat) (hnews : ∀ j u, cs[j]? = some u → w.cell? ⟨g, j, none⟩ = some u) (h1 : ∀ u ∈ cs, u.oneCell' = true) (hn : xs.length ≤ 16777216) (hbase : base ≤ w.heap.size) :
    ∃ v' w', (Builtin.append_ #[t, t] ty #[v, .slice (some ⟨g, 0, none⟩) 1 1]).run Try.prog w = .ok v' w' ∧ OwnC C e w' base v' (xs ++ [y]) ∧ Below base w w' := by
  obtain ⟨css, c1, c2, c3⟩ := hown
  obtain ⟨i, hi, hz, hsize, hbytes⟩ := info_parts hinfo
  have hmul : (xs.length + 1) * bytes ≤ 140737488355328 := Nat.le_trans (Nat.mul_le_mul (show xs.length + 1 ≤ 16777217 by omega) hby) (by omega)
  have hlt := c3.lt
  obtain ⟨v', w', hr, h2, h3, _, h5⟩ := run_append_own_at (P := Try.prog) w base t ty e i z C.k bytes ht hi hz hsize hbytes hzs hsz v xs.length css.flatten c3 ⟨g, 0, none⟩ 1 1 cs (by rw [C.len hR]; omega) (fun j u hu => by
    have hadd : (⟨g, 0, none⟩ : Addr).add j = ⟨g, j, none⟩ := by unfold Addr.add; split <;> simp_all
    rw [hadd]
    exact hnews j u hu) h1 (by unfold maxLen; omega) hmul hbase
  refine ⟨v', w', hr, ⟨css ++ [cs], by simp [c1], fun j cs' hj => ?_, ?_⟩, (Below.refl _ _).grown h3 hbase fun k hk => (hlt k hk).1⟩
  · have hkeep : ∀ {x : α} {lo B : Nat} {cs : List Value}, C.R (some lo) w B x cs → B ≤ w.heap.size → (∀ g, v.ownBlock = some g → g < lo ∨ B ≤ g) → C.R (some lo) w' B x cs := fun hr hb hs' => C.keep hr fun b hb' hl => h3.block b (by omega) fun he => by
      have h6 := hs' b he.symm
      have h7 := hl _ rfl
      omega
    have hsep' : ∀ {lo B : Nat}, B ≤ w.heap.size → (∀ g, v.ownBlock = some g → g < lo ∨ B ≤ g) → ∀ g, v'.ownBlock = some g → g < lo ∨ B ≤ g := fun hb hs' g hg => by
      rcases h5 with h5 | h5
      · exact hs' g (by rw [← h5]; exact hg)
      · rw [h5] at hg; cases hg; exact .inr hb
    have hsz' := h3.size
    by_cases hlt' : j < css.length
    · rw [List.getElem?_append_left hlt'] at hj
      obtain ⟨x', lo', B', a1, a2, a3, a4, a5⟩ := c2 j cs' hj
      exact ⟨x', lo', B', by rw [List.getElem?_append_left (by omega)]; exact a1, a2, by omega, hsep' a3 a4, hkeep a5 a3 a4⟩
    · rw [List.getElem?_append_right (by omega)] at hj
      have hj0 : j - css.length = 0 := by
        have := (List.getElem?_eq_some_iff.1 hj).1
        simp at this
        omega
      rw [hj0] at hj
      simp at hj
      subst hj
      exact ⟨y, lo, B, by rw [List.getElem?_append_right (by omega), ← c1, hj0]; rfl, hlo, by omega, hsep' hB hsep, hkeep hR hB hsep⟩
  · rw [List.flatten_append, List.length_append]
    simpa using h2

theorem step_C {α : Type} {ops : Array Oper} {o : Oper} {a : Act} {w : World} {K : Act → World → Prop} {Q : Exit → Act → World → Prop} {E : Prop} (hg : o.guard = none) (s x : Operand) (t : TypeId)
    (hop : o.op = .call { callee := .builtin .append, args := #[s, x], argTypes := #[t, t] })
    (C : Cod α) (e : TypeId) (z : Value) (bytes : Nat) (ht : Try.prog.underlying t = some (.slice e)) (hinfo : (Try.prog.info? e).map (fun i => (i.zero, i.size, i.bytes)) = some (some z, C.k, bytes)) (hzs : z.cells.size = C.k) (hsz : 0 < C.k) (hby : bytes ≤ 1024)
    (base : Nat) (v : Value) (xs : List α) (hs : a.eval s = v) (hown : OwnC C e w base v xs)
    (y : α) (cs : List Value) (lo B : Nat) (hR : C.R (some lo) w B y cs) (hlo : base ≤ lo) (hB : B ≤ w.heap.size) (hsep : ∀ g, v.ownBlock = some g → g < lo ∨ B ≤ g)
    (g : Nat) (hx : a.eval x = .slice (some ⟨g, 0, none⟩) 1 1) (hnews : ∀ j u, cs[j]? = some u → w.cell? ⟨g, j, none⟩ = some u) (h1 : ∀ u ∈ cs, u.oneCell' = true) (hn : xs.length ≤ 16777216) (hbase : base ≤ w.heap.size)
    (hK : ∀ v' w', OwnC C e w' base v' (xs ++ [y]) → Below base w w' → K (a.put o.dst v') w') : if Region.wanted o (yielded ops a.tmps) = true then Oper.wp Try.prog o a w K Q else E := by
  obtain ⟨v', w', hr, h2, h3⟩ := run_C C t o.type e z bytes ht hinfo hzs hsz hby base v xs hown y cs lo B hR hlo hB hsep g hnews h1 hn hbase
  exact step_of_run hg s x t hop hs hx hr (hK v' w' h2 h3)
end Go.Proofs.Ytjieilicjdoaaaa
