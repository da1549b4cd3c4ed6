/- Plain records appended from a slice that lies anywhere, to a slice of the call's own. -/
import Derived.Test.YtkkjljpokannkaaAppRow
import Derived.Test.YtkkjljpokannkaaOwn0
namespace Go.Proofs.Ytkkjljpokannkaa
open Go.RowKit

theorem addr_add (b off j : Nat) : (⟨b, off, none⟩ : Addr).add j = ⟨b, off + j, none⟩ := by unfold Addr.add; split <;> simp_all
/-- Plain records appended from a slice that lies anywhere, to a slice of the call's own. -/
theorem append_flatA {α : Type} {k : Nat} {cells : α → List Value} {hk : ∀ x, (cells x).length = k} {ops : Array Oper} {rest : List Oper} {o : Oper} {a : Act} {w : World} {Q : Exit → Act → World → Prop} (hgd : o.guard = none) (s x : Operand) (t e : TypeId)
    (ho : o.op = .call { callee := .builtin .append, args := #[s, x], argTypes := #[t, t] })
    (z : Value) (bytes : Nat) (ht : Try.prog.underlying t = some (.slice e)) (hinfo : (Try.prog.info? e).map (fun i => (i.zero, i.size, i.bytes)) = some (some z, k, bytes)) (hzs : z.cells.size = k) (hsz : 0 < k) (hby : bytes ≤ 1024) (h1 : ∀ x, ∀ u ∈ cells x, u.oneCell' = true)
    (base : Nat) (v : Value) (xs : List α) (hs : a.eval s = v) (hown : OwnC (flat k cells hk) e w base v xs)
    (A : Option Addr) (c B : Nat) (m : Option Nat) (ys : List α) (hx : a.eval x = .slice A ys.length c) (hy : Rows (flat k cells hk) m w B A ys) (hn : xs.length + ys.length ≤ 1000) (hbase : base ≤ w.heap.size)
    (h : ∀ v' w', OwnC (flat k cells hk) e w' base v' (xs ++ ys) → w.grownBy w' v.ownBlock → Below base w w' → wpList Try.prog ops Q rest (a.put o.dst v') w') : wpList Try.prog ops Q (o :: rest) a w := by
  obtain ⟨i, hi, hz, hsize, hbytes⟩ := info_parts hinfo
  obtain ⟨css, c1, c2, c3⟩ := hown
  have hcs : css = xs.map cells := List.ext_getElem? fun j => by
    rw [List.getElem?_map]
    cases hj : css[j]? with
    | none =>
      have : xs[j]? = none := List.getElem?_eq_none (by have := List.getElem?_eq_none_iff.1 hj; omega)
      rw [this]; rfl
    | some cs =>
      obtain ⟨y, lo, B', hy', _, _, _, hR⟩ := c2 j cs hj
      rw [hy']
      exact congrArg some (show cs = cells y from hR)
  subst hcs
  have mk : ∀ (v' : Value) (w' : World), w'.ownsRow base e k v' (xs.length + ys.length) ((xs.map cells).flatten ++ (ys.map cells).flatten) → OwnC (flat k cells hk) e w' base v' (xs ++ ys) := fun v' w' h2 =>
    ⟨(xs ++ ys).map cells, by simp, fun j cs hj => by
      rw [List.getElem?_map, Option.map_eq_some_iff] at hj
      obtain ⟨y, hy', rfl⟩ := hj
      exact ⟨y, base, 0, hy', Nat.le_refl _, Nat.zero_le _, fun g _ => .inr (Nat.zero_le _), rfl⟩, by
      rw [List.map_append, List.flatten_append, List.length_append]
      exact h2⟩
  cases A with
  | none =>
    have hy0 : ys = [] := by
      rcases Nat.eq_zero_or_pos ys.length with h0 | h0
      · exact List.eq_nil_of_length_eq_zero h0
      · obtain ⟨b, off, hA, _⟩ := hy.2 h0
        cases hA
    subst hy0
    refine append_none hgd s x t ho base e i k ht hi v xs.length c _ hs c3 hx (h v w (mk v w (by simpa using (show w.ownsRow base e k v xs.length (xs.map cells).flatten from c3))) ⟨rfl, rfl, rfl, Nat.le_refl _, fun _ _ _ => rfl⟩ (Below.refl _ _))
  | some ad =>
    have hlen : ∀ l : List α, ((l.map cells).flatten).length = l.length * k := fun l => by
      rw [flat_len _ k (fun cs hcs => by
        obtain ⟨y, _, rfl⟩ := List.mem_map.1 hcs
        exact hk y), List.length_map]
    have hnews : ∀ j u, ((ys.map cells).flatten)[j]? = some u → w.cell? (ad.add j) = some u := fun j u hu => by
      have hj := (List.getElem?_eq_some_iff.1 hu).1
      rw [hlen] at hj
      have hq : j / k < ys.length := Nat.div_lt_of_lt_mul (by rw [Nat.mul_comm]; exact hj)
      have hr : j % k < k := Nat.mod_lt _ hsz
      have hij : j = (j / k) * k + j % k := by rw [Nat.mul_comm]; exact (Nat.div_add_mod j k).symm
      obtain ⟨b, off, hA, _, hc⟩ := hy.2 (Nat.lt_of_le_of_lt (Nat.zero_le _) hq)
      cases hA
      obtain ⟨cs, hR, hcs⟩ := hc (j / k) _ (List.getElem?_eq_getElem hq)
      obtain rfl : cs = cells ys[j / k] := hR
      rw [addr_add b off j]
      have h5 := flat_get (ys.map cells) k (fun cs hcs => by
        obtain ⟨y, _, rfl⟩ := List.mem_map.1 hcs
        exact hk y) (j := j / k) (i := j % k) (cs := cells ys[j / k]) (by simp [hq]) (List.getElem?_eq_getElem (by rw [hk]; exact hr))
      rw [← hij, hu] at h5
      have h6 := hcs (j % k) _ (List.getElem?_eq_getElem (by rw [hk]; exact hr))
      rw [show off + j / k * (flat k cells hk).k + j % k = off + j from by show off + j / k * k + j % k = off + j; omega] at h6
      rw [h6, h5]
    refine wpList_append_own w hgd s x t ho base e i z k bytes ht hi hz hsize hbytes hzs hsz v xs.length _ hs c3 ad ys.length c ((ys.map cells).flatten) hx (hlen ys) hnews (fun u hu => ?_) (by unfold maxLen; omega) ?_ hbase fun v' w' h2 h3 _ => ?_
    · obtain ⟨cs, hcs, huc⟩ := List.mem_flatten.1 hu
      obtain ⟨y, _, rfl⟩ := List.mem_map.1 hcs
      exact h1 y u huc
    · exact Nat.le_trans (Nat.mul_le_mul hn hby) (by omega)
    · exact h v' w' (mk v' w' h2) h3 ((Below.refl _ _).grown h3 hbase fun q hq => (c3.lt q hq).1)

end Go.Proofs.Ytkkjljpokannkaa
