/- Elements appended to a slice of structs of the call's own: what the longer slice holds. -/
import Derived.Test.YtjieilicjdoaaaaApp
import Derived.Test.YtjieilicjdoaaaaFill
import Derived.Maps.AppendAt
namespace Go.Proofs.Ytjieilicjdoaaaa
open Go.RowKit

/-- What lies from block base on is as it was. -/
def Kept (base : Nat) (w w' : World) : Prop := w.heap.size ≤ w'.heap.size ∧ ∀ b, b < w.heap.size → base ≤ b → w'.heap[b]? = w.heap[b]?
theorem Kept.of_below {base : Nat} {w w' : World} (h : Below w.heap.size w w') : Kept base w w' := ⟨h.size, fun b hb _ => h.block b hb⟩

/-- A slice of the call's own that reads as the list xs. -/
def OwnC {α : Type} (C : Cod α) (e : TypeId) (w : World) (base : Nat) (v : Value) (xs : List α) : Prop :=
  ∃ css : List (List Value), css.length = xs.length ∧
    (∀ (j : Nat) (cs : List Value), css[j]? = some cs → ∃ (x : α) (lo B : Nat), xs[j]? = some x ∧ base ≤ lo ∧ B ≤ w.heap.size ∧ (∀ g, v.ownBlock = some g → g < lo ∨ B ≤ g) ∧ C.R (some lo) w B x cs) ∧
    w.ownsRow base e C.k v xs.length css.flatten

section
variable {α : Type} {C : Cod α} {e : TypeId} {w w' : World} {base : Nat} {v : Value} {xs : List α}
theorem OwnC.clen {css : List (List Value)} (h2 : ∀ (j : Nat) (cs : List Value), css[j]? = some cs → ∃ (x : α) (lo B : Nat), xs[j]? = some x ∧ base ≤ lo ∧ B ≤ w.heap.size ∧ (∀ g, v.ownBlock = some g → g < lo ∨ B ≤ g) ∧ C.R (some lo) w B x cs) : ∀ cs ∈ css, cs.length = C.k := by
  intro cs hcs
  obtain ⟨j, hj⟩ := List.mem_iff_getElem?.1 hcs
  obtain ⟨x, lo, B, _, _, _, _, hR⟩ := h2 j cs hj
  exact C.len hR
theorem OwnC.kept (h : OwnC C e w base v xs) (hk : Kept base w w') : OwnC C e w' base v xs := by
  obtain ⟨css, h1, h2, h3⟩ := h
  refine ⟨css, h1, fun j cs hj => ?_, h3.1, ?_⟩
  · obtain ⟨x, lo, B, a1, a2, a3, a4, a5⟩ := h2 j cs hj
    exact ⟨x, lo, B, a1, a2, by have := hk.1; omega, a4, C.keep a5 fun b hb hl => hk.2 b (by omega) (by have := hl lo rfl; omega)⟩
  · rcases h3.2 with hn | ⟨g, cap, cur, hv, hb, hgg, rest⟩
    · exact .inl hn
    · exact .inr ⟨g, cap, cur, hv, hb, (hk.2 g (Array.getElem?_eq_some_iff.1 hgg).1 hb).trans hgg, rest⟩
theorem OwnC.later (h : OwnC C e w base v xs) (hb : Below w.heap.size w w') : OwnC C e w' base v xs := h.kept (Kept.of_below hb)
theorem OwnC.lt (h : OwnC C e w base v xs) : ∀ g, v.ownBlock = some g → base ≤ g ∧ g < w.heap.size := by
  obtain ⟨css, h1, h2, h3⟩ := h
  exact h3.lt
theorem OwnC.nil (w : World) (base : Nat) : OwnC C e w base (.slice none 0 0) [] := ⟨[], rfl, fun j cs h => by simp at h, World.ownsRow_nil _ _ _ _⟩
theorem OwnC.made (hb : base ≤ w.heap.size) (cap : Nat) (cur : Array Value) (hm : cap ≤ maxLen) (hs : cur.size = cap * C.k) : OwnC C e (w.alloc (.cells cur e)) base (.slice (some ⟨w.heap.size, 0, none⟩) 0 cap) [] :=
  ⟨[], rfl, fun j cs h => by simp at h, World.ownsRow_made w cur cap hb hm hs⟩
theorem OwnC.rows (h : OwnC C e w base v xs) (hl : xs.length ≤ 9223372036854775807) : ∃ A c, v = .slice A xs.length c ∧ Rows C (some base) w w.heap.size A xs := by
  obtain ⟨css, h1, h2, h3⟩ := h
  have hc := OwnC.clen h2
  rcases h3.2 with ⟨hv, hn⟩ | ⟨g, cap, cur, hv, hb, hgg, hcap, hmax, hcs, htake⟩
  · refine ⟨none, 0, by rw [hn]; exact hv, hl, fun h0 => by omega⟩
  · refine ⟨some ⟨g, 0, none⟩, cap, hv, hl, fun _ => ⟨g, 0, rfl, ⟨(Array.getElem?_eq_some_iff.1 hgg).1, fun lo hlo => ⟨by cases hlo; exact hb, cur, e, hgg⟩⟩, fun j x hx => ?_⟩⟩
    have hj : j < css.length := by rw [h1]; exact (List.getElem?_eq_some_iff.1 hx).1
    obtain ⟨x', lo, B, a1, a2, a3, a4, a5⟩ := h2 j css[j] (List.getElem?_eq_getElem hj)
    rw [hx] at a1
    cases a1
    refine ⟨css[j], C.more (C.weak a5 (Weaker.some a2)) a3, fun i u hu => ?_⟩
    have h4 := flat_get css C.k hc (List.getElem?_eq_getElem hj) hu
    have hlt : j * C.k + i < xs.length * C.k := by
      have := (List.getElem?_eq_some_iff.1 h4).1
      rw [flat_len css C.k hc, h1] at this
      exact this
    subst hv
    rw [Nat.zero_add, h3.cellAt _ hlt]
    exact h4
end

theorem append_C {α : Type} {ops : Array Oper} {rest : List Oper} {o : Oper} {a : Act} {w : World} {Q : Exit → Act → World → Prop} (hgd : o.guard = none) (s x : Operand) (t : TypeId)
    (ho : o.op = .call { callee := .builtin .append, args := #[s, x], argTypes := #[t, t] })
    (C : Cod α) (e : TypeId) (z : Value) (bytes : Nat) (ht : Try.prog.underlying t = some (.slice e)) (hinfo : (Try.prog.info? e).map (fun i => (i.zero, i.size, i.bytes)) = some (some z, C.k, bytes)) (hzs : z.cells.size = C.k) (hsz : 0 < C.k) (hby : bytes ≤ 1024)
    (base : Nat) (v : Value) (xs : List α) (hs : a.eval s = v) (hown : OwnC C e w base v xs)
    (y : α) (cs : List Value) (lo B : Nat) (hR : C.R (some lo) w B y cs) (hlo : base ≤ lo) (hB : B ≤ w.heap.size) (hsep : ∀ g, v.ownBlock = some g → g < lo ∨ B ≤ g)
    (g : Nat) (hx : a.eval x = .slice (some ⟨g, 0, none⟩) 1 1) (hnews : ∀ j u, cs[j]? = some u → w.cell? ⟨g, j, none⟩ = some u) (h1 : ∀ u ∈ cs, u.oneCell' = true)
    (hn : xs.length ≤ 16777216) (hbase : base ≤ w.heap.size)
    (h : ∀ v' w', OwnC C e w' base v' (xs ++ [y]) → w.grownBy w' v.ownBlock → Below base w w' → wpList Try.prog ops Q rest (a.put o.dst v') w') : wpList Try.prog ops Q (o :: rest) a w := by
  obtain ⟨css, c1, c2, c3⟩ := hown
  obtain ⟨i, hi, hz, hsize, hbytes⟩ := info_parts hinfo
  have hmul : (xs.length + 1) * bytes ≤ 140737488355328 := Nat.le_trans (Nat.mul_le_mul (show xs.length + 1 ≤ 16777217 by omega) hby) (by omega)
  have hlt := c3.lt
  refine wpList_append_own_at w hgd s x t ho base e i z C.k bytes ht hi hz hsize hbytes hzs hsz v xs.length css.flatten hs c3 ⟨g, 0, none⟩ 1 1 cs hx (by rw [C.len hR]; omega) (fun j u hu => ?_) h1 (by unfold maxLen; omega) hmul hbase fun v' w' h2 h3 _ h5 => ?_
  · have hadd : (⟨g, 0, none⟩ : Addr).add j = ⟨g, j, none⟩ := by unfold Addr.add; split <;> simp_all
    rw [hadd]
    exact hnews j u hu
  · refine h v' w' ⟨css ++ [cs], by simp [c1], fun j cs' hj => ?_, ?_⟩ h3 ((Below.refl _ _).grown h3 hbase fun k hk => (hlt k hk).1)
    · have hkeep : ∀ {x : α} {lo B : Nat} {cs : List Value}, C.R (some lo) w B x cs → B ≤ w.heap.size → (∀ g, v.ownBlock = some g → g < lo ∨ B ≤ g) → C.R (some lo) w' B x cs := fun hr hb hs' => C.keep hr fun b hb' hl => h3.block b (by omega) fun he => by
        have h6 := hs' b he.symm
        have h7 := hl _ rfl
        omega
      have hsep' : ∀ {lo B : Nat}, B ≤ w.heap.size → (∀ g, v.ownBlock = some g → g < lo ∨ B ≤ g) → ∀ g, v'.ownBlock = some g → g < lo ∨ B ≤ g := fun hb hs' g hg => by
        rcases h5 with h5 | h5
        · exact hs' g (by rw [← h5]; exact hg)
        · rw [h5] at hg; cases hg; exact .inr hb
      have hsz' := h3.size
      by_cases hlt' : j < css.length
      · rw [List.getElem?_append_left hlt'] at hj
        obtain ⟨x', lo', B', a1, a2, a3, a4, a5⟩ := c2 j cs' hj
        exact ⟨x', lo', B', by rw [List.getElem?_append_left (by omega)]; exact a1, a2, by omega, hsep' a3 a4, hkeep a5 a3 a4⟩
      · rw [List.getElem?_append_right (by omega)] at hj
        have hj0 : j - css.length = 0 := by
          have := (List.getElem?_eq_some_iff.1 hj).1
          simp at this
          omega
        rw [hj0] at hj
        simp at hj
        subst hj
        exact ⟨y, lo, B, by rw [List.getElem?_append_right (by omega), ← c1, hj0]; rfl, hlo, by omega, hsep' hB hsep, hkeep hR hB hsep⟩
    · rw [List.flatten_append, List.length_append]
      simpa using h2
end Go.Proofs.Ytjieilicjdoaaaa
