/- Steps of a drawn region: an append that says where; the held facts may grow. -/
import Derived.Test.YtjieilicjdoaaaaGBase
namespace Go.Proofs.Ytjieilicjdoaaaa
open Go.RowKit

/-- An append of one record to the walk's own, as a step of a drawn region. -/
theorem step_C6 {α : Type} {ops : Array Oper} {o : Oper} {a : Act} {w : World} {K : Act → World → Prop} {Q : Exit → Act → World → Prop} {E : Prop} (hgd : o.guard = none) (s x : Operand) (t : TypeId)
  (ho : o.op = .call { callee := .builtin .append, args := #[s, x], argTypes := #[t, t] })
  (C : Cod α) (e : TypeId) (z : Value) (bytes : Nat) (ht : Try.prog.underlying t = some (.slice e)) (hinfo : (Try.prog.info? e).map (fun i => (i.zero, i.size, i.bytes)) = some (some z, C.k, bytes)) (hzs : z.cells.size = C.k) (hsz : 0 < C.k) (hby : bytes ≤ 1024)
  (base : Nat) (v : Value) (xs : List α) (hs : a.eval s = v) (hown : OwnC C e w base v xs)
  (y : α) (cs : List Value) (lo B : Nat) (hR : C.R (some lo) w B y cs) (hlo : base ≤ lo) (hB : B ≤ w.heap.size) (hsep : ∀ g, v.ownBlock = some g → g < lo ∨ B ≤ g)
  (g : Nat) (hx : a.eval x = .slice (some ⟨g, 0, none⟩) 1 1) (hnews : ∀ j u, cs[j]? = some u → w.cell? ⟨g, j, none⟩ = some u) (h1 : ∀ u ∈ cs, u.oneCell' = true)
  (hn : xs.length ≤ 16777216) (hbase : base ≤ w.heap.size)
  (hK : ∀ v' w', OwnC C e w' base v' (xs ++ [y]) → w.grownBy w' v.ownBlock → Below base w w' → (v'.ownBlock = v.ownBlock ∨ v'.ownBlock = some w.heap.size) → K (a.put o.dst v') w') : if Region.wanted o (yielded ops a.tmps) = true then Oper.wp Try.prog o a w K Q else E := by
 obtain ⟨css, c1, c2, c3⟩ := hown
 obtain ⟨i, hi, hz, hsize, hbytes⟩ := info_parts hinfo
 have hmul : (xs.length + 1) * bytes ≤ 140737488355328 := Nat.le_trans (Nat.mul_le_mul (show xs.length + 1 ≤ 16777217 by omega) hby) (by omega)
 have hlt := c3.lt
 obtain ⟨v', w', hr, h2, h3, _, h5⟩ := run_append_own_at (P := Try.prog) w base t o.type e i z C.k bytes ht hi hz hsize hbytes hzs hsz v xs.length css.flatten c3 ⟨g, 0, none⟩ 1 1 cs (by rw [C.len hR]; omega) (fun j u hu => by
  have hadd : (⟨g, 0, none⟩ : Addr).add j = ⟨g, j, none⟩ := by unfold Addr.add; split <;> simp_all
  rw [hadd]
  exact hnews j u hu) h1 (by unfold maxLen; omega) hmul hbase
 refine step_of_run hgd s x t ho hs hx hr ?_
 ·
  refine hK v' w' ⟨css ++ [cs], by simp [c1], fun j cs' hj => ?_, ?_⟩ h3 ((Below.refl _ _).grown h3 hbase fun k hk => (hlt k hk).1) h5
  ·
   have hkeep : ∀ {x : α} {lo B : Nat} {cs : List Value}, C.R (some lo) w B x cs → B ≤ w.heap.size → (∀ g, v.ownBlock = some g → g < lo ∨ B ≤ g) → C.R (some lo) w' B x cs := fun hr hb hs' => C.keep hr fun b hb' hl => h3.block b (by omega) fun he => by
    have h6 := hs' b he.symm
    have h7 := hl _ rfl
    omega
   have hsep' : ∀ {lo B : Nat}, B ≤ w.heap.size → (∀ g, v.ownBlock = some g → g < lo ∨ B ≤ g) → ∀ g, v'.ownBlock = some g → g < lo ∨ B ≤ g := fun hb hs' g hg => by
    rcases h5 with h5 | h5
    ·
     exact hs' g (by rw [← h5]; exact hg)
    ·
     rw [h5] at hg; cases hg; exact .inr hb
   have hsz' := h3.size
   by_cases hlt' : j < css.length
   ·
    rw [List.getElem?_append_left hlt'] at hj
    obtain ⟨x', lo', B', a1, a2, a3, a4, a5⟩ := c2 j cs' hj
    exact ⟨x', lo', B', by rw [List.getElem?_append_left (by omega)]; exact a1, a2, by omega, hsep' a3 a4, hkeep a5 a3 a4⟩
   ·
    rw [List.getElem?_append_right (by omega)] at hj
    have hj0 : j - css.length = 0 := by
     have := (List.getElem?_eq_some_iff.1 hj).1
     simp at this
     omega
    rw [hj0] at hj
    simp at hj
    subst hj
    exact ⟨y, lo, B, by rw [List.getElem?_append_right (by omega), ← c1, hj0]; rfl, hlo, by omega, hsep' hB hsep, hkeep hR hB hsep⟩
  ·
   rw [List.flatten_append, List.length_append]
   simpa using h2

-- What is held may grow on the way.
set_option linter.unusedVariables false in
theorem wpAnyH_more {md : Region.Mode} {ops : Array Oper} {Q : Exit → Act → World → Prop} {S S' : World → Prop} (h : ∀ V, S' V → S V) : ∀ {fuel : Nat} {listed : Array Bool} {a : Act} {w : World}, wpAnyH Try.prog md ops Q S' fuel listed a w → wpAnyH Try.prog md ops Q S fuel listed a w
 | 0, _, _, _, hh => hh
 | fuel + 1, _, _, _, hh => ⟨hh.1, fun i hi => wpOp_mono (fun _ _ hk => ⟨h _ hk.1, wpAnyH_more h hk.2⟩) (hh.2 i hi)⟩
theorem lit3 (a b c : Int) (k : Nat) (hk : k < 3) : ∃ z : Int, (iv [a, b, c]).toArray[k]? = some (.int .i64 z) := by
 rcases (by omega : k = 0 ∨ k = 1 ∨ k = 2) with rfl | rfl | rfl
 ·
  exact ⟨a, rfl⟩
 ·
  exact ⟨b, rfl⟩
 ·
  exact ⟨c, rfl⟩
end Go.Proofs.Ytjieilicjdoaaaa

/- A record appended: where the longer slice lies. -/
namespace Go.Proofs.Ytjieilicjdoaaaa
open Go.RowKit

/-- As append_C; and where the longer slice lies. -/
theorem append_C5 {α : Type} {ops : Array Oper} {rest : List Oper} {o : Oper} {a : Act} {w : World} {Q : Exit → Act → World → Prop} (hgd : o.guard = none) (s x : Operand) (t : TypeId)
  (ho : o.op = .call { callee := .builtin .append, args := #[s, x], argTypes := #[t, t] })
  (C : Cod α) (e : TypeId) (z : Value) (bytes : Nat) (ht : Try.prog.underlying t = some (.slice e)) (hinfo : (Try.prog.info? e).map (fun i => (i.zero, i.size, i.bytes)) = some (some z, C.k, bytes)) (hzs : z.cells.size = C.k) (hsz : 0 < C.k) (hby : bytes ≤ 1024)
  (base : Nat) (v : Value) (xs : List α) (hs : a.eval s = v) (hown : OwnC C e w base v xs)
  (y : α) (cs : List Value) (lo B : Nat) (hR : C.R (some lo) w B y cs) (hlo : base ≤ lo) (hB : B ≤ w.heap.size) (hsep : ∀ g, v.ownBlock = some g → g < lo ∨ B ≤ g)
  (g : Nat) (hx : a.eval x = .slice (some ⟨g, 0, none⟩) 1 1) (hnews : ∀ j u, cs[j]? = some u → w.cell? ⟨g, j, none⟩ = some u) (h1 : ∀ u ∈ cs, u.oneCell' = true)
  (hn : xs.length ≤ 16777216) (hbase : base ≤ w.heap.size)
  (h : ∀ v' w', OwnC C e w' base v' (xs ++ [y]) → w.grownBy w' v.ownBlock → Below base w w' → (v'.ownBlock = v.ownBlock ∨ v'.ownBlock = some w.heap.size) → wpList Try.prog ops Q rest (a.put o.dst v') w') : wpList Try.prog ops Q (o :: rest) a w := by
 obtain ⟨css, c1, c2, c3⟩ := hown
 obtain ⟨i, hi, hz, hsize, hbytes⟩ := info_parts hinfo
 have hmul : (xs.length + 1) * bytes ≤ 140737488355328 := Nat.le_trans (Nat.mul_le_mul (show xs.length + 1 ≤ 16777217 by omega) hby) (by omega)
 have hlt := c3.lt
 refine wpList_append_own_at w hgd s x t ho base e i z C.k bytes ht hi hz hsize hbytes hzs hsz v xs.length css.flatten hs c3 ⟨g, 0, none⟩ 1 1 cs hx (by rw [C.len hR]; omega) (fun j u hu => ?_) h1 (by unfold maxLen; omega) hmul hbase fun v' w' h2 h3 _ h5 => ?_
 ·
  have hadd : (⟨g, 0, none⟩ : Addr).add j = ⟨g, j, none⟩ := by unfold Addr.add; split <;> simp_all
  rw [hadd]
  exact hnews j u hu
 ·
  refine h v' w' ⟨css ++ [cs], by simp [c1], fun j cs' hj => ?_, ?_⟩ h3 ((Below.refl _ _).grown h3 hbase fun k hk => (hlt k hk).1) h5
  ·
   have hkeep : ∀ {x : α} {lo B : Nat} {cs : List Value}, C.R (some lo) w B x cs → B ≤ w.heap.size → (∀ g, v.ownBlock = some g → g < lo ∨ B ≤ g) → C.R (some lo) w' B x cs := fun hr hb hs' => C.keep hr fun b hb' hl => h3.block b (by omega) fun he => by
    have h6 := hs' b he.symm
    have h7 := hl _ rfl
    omega
   have hsep' : ∀ {lo B : Nat}, B ≤ w.heap.size → (∀ g, v.ownBlock = some g → g < lo ∨ B ≤ g) → ∀ g, v'.ownBlock = some g → g < lo ∨ B ≤ g := fun hb hs' g hg => by
    rcases h5 with h5 | h5
    ·
     exact hs' g (by rw [← h5]; exact hg)
    ·
     rw [h5] at hg; cases hg; exact .inr hb
   have hsz' := h3.size
   by_cases hlt' : j < css.length
   ·
    rw [List.getElem?_append_left hlt'] at hj
    obtain ⟨x', lo', B', a1, a2, a3, a4, a5⟩ := c2 j cs' hj
    exact ⟨x', lo', B', by rw [List.getElem?_append_left (by omega)]; exact a1, a2, by omega, hsep' a3 a4, hkeep a5 a3 a4⟩
   ·
    rw [List.getElem?_append_right (by omega)] at hj
    have hj0 : j - css.length = 0 := by
     have := (List.getElem?_eq_some_iff.1 hj).1
     simp at this
     omega
    rw [hj0] at hj
    simp at hj
    subst hj
    exact ⟨y, lo, B, by rw [List.getElem?_append_right (by omega), ← c1, hj0]; rfl, hlo, by omega, hsep' hB hsep, hkeep hR hB hsep⟩
  ·
   rw [List.flatten_append, List.length_append]
   simpa using h2
end Go.Proofs.Ytjieilicjdoaaaa

