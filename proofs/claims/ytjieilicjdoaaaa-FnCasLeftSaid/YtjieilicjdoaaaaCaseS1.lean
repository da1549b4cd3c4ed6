/- Cases, more tools: a record's field written in place; part of a slice appended. -/
import Derived.Test.YtjieilicjdoaaaaCaseS0
import Derived.Test.YtjieilicjdoaaaaGFir
namespace Go.Proofs.Ytjieilicjdoaaaa
open Go.RowKit
set_option linter.unusedSimpArgs false
set_option linter.unusedVariables false

theorem flat_set (css : List (List Value)) (sz : Nat) (h : ∀ cs ∈ css, cs.length = sz) {j i : Nat} {cs : List Value} (hj : css[j]? = some cs) (hi : i < sz) (v : Value) : css.flatten.set (j * sz + i) v = (css.set j (cs.set i v)).flatten := by
 induction css generalizing j with
 | nil => simp at hj
 | cons c css ih =>
  have hc : c.length = sz := h c (by simp)
  match j, hj with
  | 0, hj =>
   simp only [List.getElem?_cons_zero, Option.some.injEq] at hj
   subst hj
   rw [Nat.zero_mul, Nat.zero_add, List.flatten_cons, List.set_append_left _ _ (by omega)]
   rfl
  | j + 1, hj =>
   rw [List.flatten_cons, List.set_append_right _ _ (by rw [hc, Nat.add_mul]; omega), hc, show (j + 1) * sz + i - sz = j * sz + i from by rw [Nat.add_mul]; omega, ih (fun x hx => h x (by simp [hx])) hj]
   rfl
theorem flat_css {α : Type} {k : Nat} {cells : α → List Value} {hk : ∀ x, (cells x).length = k} {e : TypeId} {w : World} {base : Nat} {v : Value} {xs : List α} (h : OwnC (flat k cells hk) e w base v xs) : w.ownsRow base e k v xs.length (xs.map cells).flatten := by
 obtain ⟨css, c1, c2, c3⟩ := h
 have hcs : css = xs.map cells := List.ext_getElem? fun j => by
  rw [List.getElem?_map]
  cases hj : css[j]? with
  | none =>
   have : xs[j]? = none := List.getElem?_eq_none (by have := List.getElem?_eq_none_iff.1 hj; omega)
   rw [this]; rfl
  | some cs =>
   obtain ⟨y, lo, B', hy', _, _, _, hR⟩ := c2 j cs hj
   rw [hy']
   exact congrArg some (show cs = cells y from hR)
 subst hcs
 exact c3
theorem css_flat {α : Type} {k : Nat} {cells : α → List Value} {hk : ∀ x, (cells x).length = k} {e : TypeId} {w : World} {base : Nat} {v : Value} {xs : List α} (h2 : w.ownsRow base e k v xs.length (xs.map cells).flatten) : OwnC (flat k cells hk) e w base v xs :=
 ⟨xs.map cells, by simp, fun j cs hj => by
  rw [List.getElem?_map, Option.map_eq_some_iff] at hj
  obtain ⟨y, hy', rfl⟩ := hj
  exact ⟨y, base, 0, hy', Nat.le_refl _, Nat.zero_le _, fun g _ => .inr (Nat.zero_le _), rfl⟩, h2⟩
/-- The third field of a record of the call's own, written. -/
theorem own_item_put {w : World} {base g c : Nat} {xs : List GItem} (h : OwnC itemC 111 w base (.slice (some ⟨g, 0, none⟩) xs.length c) xs) (j : Nat) (hj : j < xs.length) (z : Int) :
  OwnC itemC 111 (w.setCell ⟨g, j * 3 + 2, none⟩ (.int .i64 z)) base (.slice (some ⟨g, 0, none⟩) xs.length c) (xs.set j ⟨xs[j].task, xs[j].who, z⟩) ∧
   (∃ u : Int, w.cell? ⟨g, j * 3 + 2, none⟩ = some (.int .i64 u)) ∧ w.frozen? ⟨g, j * 3 + 2, none⟩ = false := by
 have h1 := flat_css h
 have hl : ((xs.map GItem.cells).flatten).length = xs.length * 3 := by
  rw [flat_len _ 3 (fun cs hcs => by
   obtain ⟨y, _, rfl⟩ := List.mem_map.1 hcs
   rfl), List.length_map]
 have hlt : j * 3 + 2 < ((xs.map GItem.cells).flatten).length := by rw [hl]; omega
 refine ⟨css_flat ?_, ?_, ?_⟩
 ·
  have h2 := (World.ownsRow.stored h1 (j * 3 + 2) (.int .i64 z)).1
  rw [List.length_set]
  rw [flat_set (xs.map GItem.cells) 3 (fun cs hcs => by
   obtain ⟨y, _, rfl⟩ := List.mem_map.1 hcs
   rfl) (j := j) (i := 2) (cs := xs[j].cells) (by simp [hj]) (by decide) (.int .i64 z)] at h2
  rw [List.map_set]
  exact h2
 ·
  refine ⟨xs[j].did, ?_⟩
  rw [h1.cellAt (j * 3 + 2) (show j * 3 + 2 < xs.length * 3 by omega)]
  have := flat_get (xs.map GItem.cells) 3 (fun cs hcs => by
   obtain ⟨y, _, rfl⟩ := List.mem_map.1 hcs
   rfl) (j := j) (i := 2) (cs := xs[j].cells) (u := .int .i64 xs[j].did) (by simp [hj]) rfl
  exact this
 ·
  rcases h1.2 with ⟨hv, _⟩ | ⟨g', cap, cur, hv, _, hgg, _⟩
  ·
   simp at hv
  ·
   simp only [Value.slice.injEq, Option.some.injEq, Addr.mk.injEq] at hv
   obtain ⟨⟨rfl, _⟩, _⟩ := hv
   exact (show Bk w g 111 cur from hgg).frozen _
theorem ownC_some {α : Type} {C : Cod α} {e : TypeId} {w : World} {base : Nat} {A : Option Addr} {n c : Nat} {xs : List α} (h : OwnC C e w base (.slice A n c) xs) (h0 : 0 < xs.length) : ∃ g, A = some ⟨g, 0, none⟩ ∧ base ≤ g ∧ g < w.heap.size := by
 obtain ⟨css, h1, h2, h3⟩ := h
 rcases h3.2 with ⟨_, hn⟩ | ⟨g, cap, cur, hv, hb, hgg, _⟩
 ·
  omega
 ·
  simp only [Value.slice.injEq] at hv
  exact ⟨g, hv.1, hb, (Array.getElem?_eq_some_iff.1 hgg).1⟩
theorem ownC_apart' {α : Type} {k : Nat} {cells : α → List Value} {hk : ∀ x, (cells x).length = k} {e : TypeId} {w w' : World} {base : Nat} {v : Value} {xs : List α} {ob : Option Nat} (h : OwnC (flat k cells hk) e w base v xs) (hg : w.grownBy w' ob) (hne : ∀ q, v.ownBlock = some q → ob ≠ some q) : OwnC (flat k cells hk) e w' base v xs := by
 obtain ⟨css, h1, h2, h3⟩ := h
 refine ⟨css, h1, fun j cs hj => ?_, h3.1, ?_⟩
 ·
  obtain ⟨x, lo, B, a1, a2, a3, a4, a5⟩ := h2 j cs hj
  exact ⟨x, lo, B, a1, a2, Nat.le_trans a3 hg.size, a4, a5⟩
 ·
  rcases h3.2 with hn | ⟨g, cap, cur, hv, hb, hgg, rest⟩
  ·
   exact .inl hn
  ·
   refine .inr ⟨g, cap, cur, hv, hb, (hg.block g (Array.getElem?_eq_some_iff.1 hgg).1 fun he => hne g ?_ he.symm).trans hgg, rest⟩
   subst hv
   rfl
theorem rows_take {α : Type} {C : Cod α} {m : Option Nat} {w : World} {B : Nat} {A : Option Addr} {xs : List α} (h : Rows C m w B A xs) (k : Nat) : Rows C m w B A (xs.take k) :=
 ⟨Nat.le_trans (List.length_take_le' _ _) h.1, fun hl => by
  obtain ⟨b, off, hA, hb, hc⟩ := h.2 (Nat.lt_of_lt_of_le hl (List.length_take_le' _ _))
  exact ⟨b, off, hA, hb, fun j x hx => hc j x (by
   rw [List.getElem?_take] at hx
   split at hx
   ·
    exact hx
   ·
    cases hx)⟩⟩
theorem rows_drop {α : Type} {C : Cod α} {m : Option Nat} {w : World} {B b off : Nat} {xs : List α} (h : Rows C m w B (some ⟨b, off, none⟩) xs) (k : Nat) : Rows C m w B (some ⟨b, off + k * C.k, none⟩) (xs.drop k) :=
 ⟨by rw [List.length_drop]; have := h.1; omega, fun hl => by
  rw [List.length_drop] at hl
  obtain ⟨b', off', hA, hb, hc⟩ := h.2 (by omega)
  simp only [Option.some.injEq, Addr.mk.injEq, and_true] at hA
  obtain ⟨rfl, rfl⟩ := hA
  refine ⟨b, off + k * C.k, rfl, hb, fun j x hx => ?_⟩
  rw [List.getElem?_drop] at hx
  obtain ⟨cs, hR, hcs⟩ := hc (k + j) x hx
  refine ⟨cs, hR, fun i u hu => ?_⟩
  have h2 := hcs i u hu
  rwa [show off + (k + j) * C.k + i = off + k * C.k + j * C.k + i from by rw [Nat.add_mul]; omega] at h2⟩

/-- Plain records appended from a slice that lies anywhere, as a step of a drawn region. -/
theorem step_flatB {α : Type} {k : Nat} {cells : α → List Value} {hk : ∀ x, (cells x).length = k} {ops : Array Oper} {o : Oper} {a : Act} {w : World} {K : Act → World → Prop} {Q : Exit → Act → World → Prop} {E : Prop} (hgd : o.guard = none) (s x : Operand) (t : TypeId)
  (ho : o.op = .call { callee := .builtin .append, args := #[s, x], argTypes := #[t, t] })
  (e : TypeId) (z : Value) (bytes : Nat) (ht : Try.prog.underlying t = some (.slice e)) (hinfo : (Try.prog.info? e).map (fun i => (i.zero, i.size, i.bytes)) = some (some z, k, bytes)) (hzs : z.cells.size = k) (hsz : 0 < k) (hby : bytes ≤ 1024) (h1 : ∀ x, ∀ u ∈ cells x, u.oneCell' = true)
  (base : Nat) (v : Value) (xs : List α) (hs : a.eval s = v) (hown : OwnC (flat k cells hk) e w base v xs)
  (b off : Nat) (c B : Nat) (m : Option Nat) (ys : List α) (hx : a.eval x = .slice (some ⟨b, off, none⟩) ys.length c) (hy : Rows (flat k cells hk) m w B (some ⟨b, off, none⟩) ys) (hn : xs.length + ys.length ≤ 1000) (hbase : base ≤ w.heap.size)
  (hK : ∀ v' w', OwnC (flat k cells hk) e w' base v' (xs ++ ys) → w.grownBy w' v.ownBlock → (v'.ownBlock = v.ownBlock ∨ v'.ownBlock = some w.heap.size) → K (a.put o.dst v') w') : if Region.wanted o (yielded ops a.tmps) = true then Oper.wp Try.prog o a w K Q else E := by
 obtain ⟨i, hi, hz, hsize, hbytes⟩ := info_parts hinfo
 have c3 := flat_css hown
 have hlen : ∀ l : List α, ((l.map cells).flatten).length = l.length * k := fun l => by
  rw [flat_len _ k (fun cs hcs => by
   obtain ⟨y, _, rfl⟩ := List.mem_map.1 hcs
   exact hk y), List.length_map]
 have hnews : ∀ j u, ((ys.map cells).flatten)[j]? = some u → w.cell? ((⟨b, off, none⟩ : Addr).add j) = some u := fun j u hu => by
  have hj := (List.getElem?_eq_some_iff.1 hu).1
  rw [hlen] at hj
  have hq : j / k < ys.length := Nat.div_lt_of_lt_mul (by rw [Nat.mul_comm]; exact hj)
  have hr : j % k < k := Nat.mod_lt _ hsz
  have hij : j = (j / k) * k + j % k := by rw [Nat.mul_comm]; exact (Nat.div_add_mod j k).symm
  obtain ⟨b', off', hA, _, hc⟩ := hy.2 (Nat.lt_of_le_of_lt (Nat.zero_le _) hq)
  cases hA
  obtain ⟨cs, hR, hcs⟩ := hc (j / k) _ (List.getElem?_eq_getElem hq)
  obtain rfl : cs = cells ys[j / k] := hR
  rw [addr_add b off j]
  have h5 := flat_get (ys.map cells) k (fun cs hcs => by
   obtain ⟨y, _, rfl⟩ := List.mem_map.1 hcs
   exact hk y) (j := j / k) (i := j % k) (cs := cells ys[j / k]) (by simp [hq]) (List.getElem?_eq_getElem (by rw [hk]; exact hr))
  rw [← hij, hu] at h5
  have h6 := hcs (j % k) _ (List.getElem?_eq_getElem (by rw [hk]; exact hr))
  rw [show off + j / k * (flat k cells hk).k + j % k = off + j from by show off + j / k * k + j % k = off + j; omega] at h6
  rw [h6, h5]
 obtain ⟨v', w', hr, h2, h3, _, h5⟩ := run_append_own_at (P := Try.prog) w base t o.type e i z k bytes ht hi hz hsize hbytes hzs hsz v xs.length _ c3 ⟨b, off, none⟩ ys.length c _ (hlen ys) hnews (fun u hu => by
  obtain ⟨cs, hcs, huc⟩ := List.mem_flatten.1 hu
  obtain ⟨y, _, rfl⟩ := List.mem_map.1 hcs
  exact h1 y u huc) (by unfold maxLen; omega) (Nat.le_trans (Nat.mul_le_mul hn hby) (by omega)) hbase
 refine step_of_run hgd s x t ho hs hx hr (hK v' w' (css_flat ?_) h3 h5)
 rw [List.map_append, List.flatten_append, List.length_append]
 exact h2
/-- Where FirGive says yes the marks fit the net. -/
theorem firOf_yes {x : GNet} {ms d : List Int} {t : Int} (h : (firOf x ms t d).2 = true) : 2 ≤ (firOf x ms t d).1.length ∧ (firOf x ms t d).1.length ≤ 8 := by
 unfold firOf at h ⊢
 split at h
 ·
  rename_i hc
  rw [if_pos hc]
  split at h
  ·
   rename_i hm
   rw [if_pos hm]
   have h1 := (marksOk_iff.1 hm).1
   have hn : netOk x = true := by
    have := hc.1
    rw [mrkOk, Bool.and_eq_true] at this
    exact this.1
   have := netOk_len hn
   show 2 ≤ (firOut _ ms d).length ∧ (firOut _ ms d).length ≤ 8
   omega
  ·
   cases h
 ·
  cases h
end Go.Proofs.Ytjieilicjdoaaaa
