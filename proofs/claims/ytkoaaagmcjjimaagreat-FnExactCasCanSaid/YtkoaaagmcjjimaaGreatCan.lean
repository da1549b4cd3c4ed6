/- All that may be begun in a case: spec.CasCan and impl.CasCan give the same. -/
import Derived.Test.YtkoaaagmcjjimaaGreatStuck
import Derived.Test.YtkoaaagmcjjimaaGreatMay
import Derived.Test.YtkoaaagmcjjimaaGreatApp5
import Derived.Test.YtkoaaagmcjjimaaGreatStepC
import Derived.Deep.RegionHeld3
namespace Go.Proofs.YtkoaaagmcjjimaaGreat
open Go.RowKit
set_option linter.unusedSimpArgs false
set_option linter.unusedVariables false

theorem info_casDid : (Tryz.prog.info? 59).map (fun i => (i.zero, i.size, i.bytes)) = some (some (.agg #[.int .i64 0, .int .i64 0]), 2, 16) := by kernel_rfl
/-- The pairs of a task and those who may do it. -/
def pairs (x : GNet) (ps : List Int) (y : GCase) (t : Int) : List GDid := (mayOf x ps y.did y.busy t).map fun w => ⟨t, w⟩
def canTo (x : GNet) (ps : List Int) (y : GCase) (ts : List Int) : List GDid := (ts.map (pairs x ps y)).flatten
def canOf (x : GNet) (ps : List Int) (y : GCase) : List GDid := if runs x y = true ∧ y.busy.length ≠ 6 then canTo x ps y (enaOf x y.marks y.busy) else []
theorem canTo_snoc (x : GNet) (ps : List Int) (y : GCase) (ts : List Int) (k : Nat) (hk : k < ts.length) : canTo x ps y (ts.take (k + 1)) = canTo x ps y (ts.take k) ++ pairs x ps y ts[k] := by
  unfold canTo
  rw [List.take_succ_eq_append_getElem hk, List.map_append, List.flatten_append]; simp
theorem pairs_len (x : GNet) (ps : List Int) (y : GCase) (t : Int) : (pairs x ps y t).length ≤ 4 := by
  unfold pairs
  rw [List.length_map]
  exact mayOf_len _ _ _ _ _
theorem canTo_len (x : GNet) (ps : List Int) (y : GCase) : ∀ ts : List Int, (canTo x ps y ts).length ≤ 4 * ts.length
  | [] => by simp [canTo]
  | t :: ts => by
    have h1 := canTo_len x ps y ts
    have h2 := pairs_len x ps y t
    unfold canTo at *
    rw [List.map_cons, List.flatten_cons, List.length_append, List.length_cons]
    omega
theorem canOf_len (x : GNet) (ps : List Int) (y : GCase) : (canOf x ps y).length ≤ 24 := by
  unfold canOf
  split
  · have h1 := canTo_len x ps y (enaOf x y.marks y.busy)
    have h2 := enaOf_len x y.marks y.busy
    omega
  · simp

/-- What a function that hands back new records leaves. -/
def GivesDid (out : List GDid) (w : World) (e : Ending) (w' : World) : Prop := ∃ v, e = .returned v ∧ OwnC didC 59 w' w.heap.size v out ∧ Below w.heap.size w w'
theorem OwnI.grown {w w' : World} {base : Nat} {A : Option Addr} {xs : List Int} {row : Option Nat} (h : OwnI w base A xs) (hg : w.grownBy w' row) (hr : ∀ g, 0 < xs.length → A = some ⟨g, 0, none⟩ → row ≠ some g) : OwnI w' base A xs := fun h0 => by
  obtain ⟨g, hA, hb, hw⟩ := h h0
  exact ⟨g, hA, hb, hw.keep (hg.block g hw.lt (fun he => hr g h0 hA he.symm))⟩

theorem OwnC.low' {α : Type} {C : Cod α} {e : TypeId} {w : World} {base base' : Nat} {v : Value} {xs : List α} (h : OwnC C e w base v xs) (hb : base' ≤ base) : OwnC C e w base' v xs := by
  obtain ⟨css, h1, h2, h3⟩ := h
  refine ⟨css, h1, fun j cs hj => ?_, h3.1, ?_⟩
  · obtain ⟨x, lo, B, a1, a2, a3, a4, a5⟩ := h2 j cs hj
    exact ⟨x, lo, B, a1, by omega, a3, a4, a5⟩
  · rcases h3.2 with hn | ⟨g, cap, cur, hv, hb', rest⟩
    · exact .inl hn
    · exact .inr ⟨g, cap, cur, hv, by omega, rest⟩
/-- While pairs are gathered: the boxes, the tasks, what is gathered so far. -/
structure CSt (w : World) (x : GNet) (A : Option Addr) (c : Nat) (ca : Array Value) (TA : Option Addr) (ts : List Int) (v : Value) (out : List GDid) (wr : World) : Prop where
  p : Bk wr w.heap.size 36 (netCells x A c)
  k : Bk wr (w.heap.size + 1) 41 ca
  b : Below w.heap.size w wr
  t : OwnI wr (w.heap.size + 2) TA ts
  o : OwnC didC 59 wr (w.heap.size + 2) v out
  s : w.heap.size + 2 ≤ wr.heap.size
  d : ∀ g g', v.ownBlock = some g → 0 < ts.length → TA = some ⟨g', 0, none⟩ → g ≠ g'
section
variable {w wr w' : World} {x : GNet} {A : Option Addr} {c : Nat} {ca : Array Value} {TA : Option Addr} {ts : List Int} {v v' : Value} {out out' : List GDid}
theorem CSt.later (h : CSt w x A c ca TA ts v out wr) (hb : Below wr.heap.size wr w') : CSt w x A c ca TA ts v out w' :=
  ⟨h.p.later hb, h.k.later hb, h.b.trans (hb.mono h.b.size), h.t.later hb, h.o.later hb, Nat.le_trans h.s hb.size, h.d⟩
theorem CSt.app (h : CSt w x A c ca TA ts v out wr) (hg : wr.grownBy w' v.ownBlock) (h5 : v'.ownBlock = v.ownBlock ∨ v'.ownBlock = some wr.heap.size) (ho : OwnC didC 59 w' (w.heap.size + 2) v' out') : CSt w x A c ca TA ts v' out' w' := by
  have hs := h.s
  have hlt := h.o.lt
  refine ⟨(hg.block _ (by omega) (fun he => by have := (hlt _ he.symm).1; omega)).trans h.p, (hg.block _ (by omega) (fun he => by have := (hlt _ he.symm).1; omega)).trans h.k, ?_, h.t.grown hg fun g h0 hA he => h.d g g he h0 hA rfl, ho, Nat.le_trans hs hg.size, fun g g' hv h0 hA => ?_⟩
  · refine ⟨hg.os.trans h.b.os, hg.tape.trans h.b.tape, hg.output.trans h.b.output, Nat.le_trans h.b.size hg.size, fun b hb => ?_⟩
    exact (hg.block b (by omega) (fun he => by have := (hlt _ he.symm).1; omega)).trans (h.b.block b hb)
  · rcases h5 with h5 | h5
    · exact h.d g g' (by rw [← h5]; exact hv) h0 hA
    · rw [h5] at hv
      cases hv
      have := h.t.hi h0 g' hA
      omega
end
theorem pairs_take (x : GNet) (ps : List Int) (y : GCase) (t : Int) (l : List Int) (hl : l = mayOf x ps y.did y.busy t) (k : Nat) (hk : k < l.length) : (l.take (k + 1)).map (fun w => (⟨t, w⟩ : GDid)) = (l.take k).map (fun w => (⟨t, w⟩ : GDid)) ++ [⟨t, l[k]⟩] := by
  rw [List.take_succ_eq_append_getElem hk, List.map_append]; rfl

/-- An append of one record to the walk's own, as a step of a drawn region. -/
theorem step_C5 {α : Type} {ops : Array Oper} {o : Oper} {a : Act} {w : World} {K : Act → World → Prop} {Q : Exit → Act → World → Prop} {E : Prop} (hgd : o.guard = none) (s x : Operand) (t : TypeId)
    (ho : o.op = .call { callee := .builtin .append, args := #[s, x], argTypes := #[t, t] })
    (C : Cod α) (e : TypeId) (z : Value) (bytes : Nat) (ht : Tryz.prog.underlying t = some (.slice e)) (hinfo : (Tryz.prog.info? e).map (fun i => (i.zero, i.size, i.bytes)) = some (some z, C.k, bytes)) (hzs : z.cells.size = C.k) (hsz : 0 < C.k) (hby : bytes ≤ 1024)
    (base : Nat) (v : Value) (xs : List α) (hs : a.eval s = v) (hown : OwnC C e w base v xs)
    (y : α) (cs : List Value) (lo B : Nat) (hR : C.R (some lo) w B y cs) (hlo : base ≤ lo) (hB : B ≤ w.heap.size) (hsep : ∀ g, v.ownBlock = some g → g < lo ∨ B ≤ g)
    (g : Nat) (hx : a.eval x = .slice (some ⟨g, 0, none⟩) 1 1) (hnews : ∀ j u, cs[j]? = some u → w.cell? ⟨g, j, none⟩ = some u) (h1 : ∀ u ∈ cs, u.oneCell' = true)
    (hn : xs.length ≤ 16777216) (hbase : base ≤ w.heap.size)
    (hK : ∀ v' w', OwnC C e w' base v' (xs ++ [y]) → w.grownBy w' v.ownBlock → Below base w w' → (v'.ownBlock = v.ownBlock ∨ v'.ownBlock = some w.heap.size) → K (a.put o.dst v') w') : if Region.wanted o (yielded ops a.tmps) = true then Oper.wp Tryz.prog o a w K Q else E := by
  obtain ⟨css, c1, c2, c3⟩ := hown
  obtain ⟨i, hi, hz, hsize, hbytes⟩ := info_parts hinfo
  have hmul : (xs.length + 1) * bytes ≤ 140737488355328 := Nat.le_trans (Nat.mul_le_mul (show xs.length + 1 ≤ 16777217 by omega) hby) (by omega)
  have hlt := c3.lt
  obtain ⟨v', w', hr, h2, h3, _, h5⟩ := run_append_own_at (P := Tryz.prog) w base t o.type e i z C.k bytes ht hi hz hsize hbytes hzs hsz v xs.length css.flatten c3 ⟨g, 0, none⟩ 1 1 cs (by rw [C.len hR]; omega) (fun j u hu => by
    have hadd : (⟨g, 0, none⟩ : Addr).add j = ⟨g, j, none⟩ := by unfold Addr.add; split <;> simp_all
    rw [hadd]
    exact hnews j u hu) h1 (by unfold maxLen; omega) hmul hbase
  refine step_of_run hgd s x t ho hs hx hr ?_
  · refine hK v' w' ⟨css ++ [cs], by simp [c1], fun j cs' hj => ?_, ?_⟩ h3 ((Below.refl _ _).grown h3 hbase fun k hk => (hlt k hk).1) h5
    · have hkeep : ∀ {x : α} {lo B : Nat} {cs : List Value}, C.R (some lo) w B x cs → B ≤ w.heap.size → (∀ g, v.ownBlock = some g → g < lo ∨ B ≤ g) → C.R (some lo) w' B x cs := fun hr hb hs' => C.keep hr fun b hb' hl => h3.block b (by omega) fun he => by
        have h6 := hs' b he.symm
        have h7 := hl _ rfl
        omega
      have hsep' : ∀ {lo B : Nat}, B ≤ w.heap.size → (∀ g, v.ownBlock = some g → g < lo ∨ B ≤ g) → ∀ g, v'.ownBlock = some g → g < lo ∨ B ≤ g := fun hb hs' g hg => by
        rcases h5 with h5 | h5
        · exact hs' g (by rw [← h5]; exact hg)
        · rw [h5] at hg; cases hg; exact .inr hb
      have hsz' := h3.size
      by_cases hlt' : j < css.length
      · rw [List.getElem?_append_left hlt'] at hj
        obtain ⟨x', lo', B', a1, a2, a3, a4, a5⟩ := c2 j cs' hj
        exact ⟨x', lo', B', by rw [List.getElem?_append_left (by omega)]; exact a1, a2, by omega, hsep' a3 a4, hkeep a5 a3 a4⟩
      · rw [List.getElem?_append_right (by omega)] at hj
        have hj0 : j - css.length = 0 := by
          have := (List.getElem?_eq_some_iff.1 hj).1
          simp at this
          omega
        rw [hj0] at hj
        simp at hj
        subst hj
        exact ⟨y, lo, B, by rw [List.getElem?_append_right (by omega), ← c1, hj0]; rfl, hlo, by omega, hsep' hB hsep, hkeep hR hB hsep⟩
    · rw [List.flatten_append, List.length_append]
      simpa using h2
set_option maxRecDepth 100000 in
set_option maxHeartbeats 4000000 in
theorem impl_CasCan (x : GNet) (A : Option Addr) (c : Nat) (A1 : Option Addr) (c1 : Nat) (ps : List Int) (y : GCase) (B1 : Option Addr) (d1 : Nat) (B2 : Option Addr) (d2 : Nat) (B3 : Option Addr) (d3 : Nat) (B4 : Option Addr) (d4 : Nat) (m m2 : Option Nat) (w : World) (hx : Rows taskC m w w.heap.size A x.tasks) (hp : Ints w w.heap.size A1 ps)
    (h1 : Rows intC m2 w w.heap.size B1 y.marks) (h2 : Rows itemC m2 w w.heap.size B2 y.busy) (h3 : Rows intC m2 w w.heap.size B3 y.data) (h4 : Rows didC m2 w w.heap.size B4 y.did) :
    Calls Tryz.prog 10 #[.agg (netCells x A c), .slice A1 ps.length c1, .agg (caseCells y B1 d1 B2 d2 B3 d3 B4 d4)] w (GivesDid (canOf x ps y) w) := by
  have n2 := h2.1
  have HX := Lib.hid hx
  have HP := Lib.hid hp
  have H1 := Lib.hid h1
  have H2 := Lib.hid h2
  have H3 := Lib.hid h3
  have H4 := Lib.hid h4
  clear hx hp h1 h2 h3 h4
  go_enter Tryz.func10, Tryz.ntmps10
  go_wp2_with fail
  refine callsAt fun W hW => ?_
  have P1 : Hid (Bk W w.heap.size 36 (netCells x A c)) := by show Bk _ _ _ _; rw [hW]; exact (Bk.new rfl).alloc _
  have C1 : Hid (Bk W (w.heap.size + 1) 41 (caseCells y B1 d1 B2 d2 B3 d3 B4 d4)) := by show Bk _ _ _ _; rw [hW]; exact Bk.new (by simp)
  have B : Hid (Below w.heap.size w W) := by show Below _ _ _; rw [hW]; go_grown
  have zW : w.heap.size + 2 ≤ W.heap.size := by rw [hW]; simp
  clear hW
  refine (impl_running x A c y B1 d1 B2 d2 B3 d3 B4 d4 m m2 W (HX.out.later B.out) (H1.out.later B.out) (H2.out.later B.out) (H3.out.later B.out) (H4.out.later B.out)).mono ?_
  rintro e w1 ⟨rfl, hb⟩
  have P1 := Lib.hid (P1.out.later hb)
  have C1 := Lib.hid (C1.out.later hb)
  have B := Lib.hid (B.out.trans (hb.mono B.out.size))
  have z1 := hb.size
  clear hb
  have k0 := fun i => P1.out.cell i
  have k1 := fun i => C1.out.cell i
  cases q1 : runs x y with
  | false =>
    have HE : Hid (canOf x ps y = []) := by show _ = _; rw [canOf, q1]; rfl
    go_wp2
    go_ret
    exact ⟨_, rfl, by rw [HE.out]; exact OwnC.nil _ _, B.out⟩
  | true =>
  by_cases h6 : y.busy.length = 6
  · have hb2 : ((y.busy.length : Int) == 6) = true := by rw [beq_iff_eq]; omega
    have HE : Hid (canOf x ps y = []) := by show _ = _; rw [canOf, if_neg]; simp [h6]
    clear h6
    go_wp2
    go_ret
    exact ⟨_, rfl, by rw [HE.out]; exact OwnC.nil _ _, B.out⟩
  have hb2 : ((y.busy.length : Int) == 6) = false := by rw [beq_eq_false_iff_ne]; omega
  have HE : Hid (canOf x ps y = canTo x ps y (enaOf x y.marks y.busy)) := by show _ = _; rw [canOf, if_pos ⟨q1, h6⟩]
  clear h6 q1
  go_wp2_with fail
  clear k0 k1
  refine (impl_EnaTasks x A c B1 d1 y.marks B2 d2 y.busy m m2 _ (HX.out.later B.out) (H1.out.later B.out).ints (H2.out.later B.out)).mono ?_
  rintro e w2 ⟨v2, rfl, hv, hb⟩
  have hts := enaOf_len x y.marks y.busy
  obtain ⟨TA, tc, hv2, hoi⟩ := OwnI.of_v hv
  subst hv2
  have z2 := hb.size
  have S2 : Hid (CSt w x A c (caseCells y B1 d1 B2 d2 B3 d3 B4 d4) TA (enaOf x y.marks y.busy) (.slice none 0 0) [] w2) := by
    refine ⟨P1.out.later hb, C1.out.later hb, B.out.trans (hb.mono B.out.size), hoi.mono (by omega), OwnC.nil _ _, by omega, fun g g' hg h0 hA => ?_⟩
    cases hg
  clear hb hv hoi P1 C1 B
  generalize enaOf x y.marks y.busy = ts at S2 HE hts
  go_wp2
  go_loopg [7, 29] ts.length (fun gg s7 s29 wr => ∃ i : Nat, i ≤ ts.length ∧ ts.length - i ≤ gg ∧ s29 = .int .i64 i ∧ Aside (CSt w x A c (caseCells y B1 d1 B2 d2 B3 d3 B4 d4) TA ts s7 (canTo x ps y (ts.take i)) wr))
  case atStart => exact ⟨0, Nat.zero_le _, by omega, rfl, S2.out⟩
  case round =>
    obtain ⟨i, hi, hg, rfl, SI⟩ := hrel
    by_cases hil : i < ts.length
    · have hiz : (i : Int) < (ts.length : Int) := by omega
      have hsn := canTo_snoc x ps y ts i hil
      obtain ⟨bt, ot, hAt, _, hct⟩ := (SI.out.t.ints (by omega)).at_ hil
      subst hAt
      have hcl := canTo_len x ps y (ts.take i)
      have htl : (ts.take i).length ≤ 6 := by simp; omega
      generalize ts[i] = t at hct hsn
      have HSN := Lib.hid hsn
      have B := Lib.hid SI.out.b
      have k0 := fun i => SI.out.p.cell i
      have k1 := fun i => SI.out.k.cell i
      have HMAY : Hid (∀ V : World, Below w.heap.size w V → Calls Tryz.prog 32 #[.agg (netCells x A c), .slice A1 ps.length c1, .slice B4 y.did.length d4, .slice B2 y.busy.length d2, .int .i64 t] V (GivesInts (mayOf x ps y.did y.busy t) V)) := fun V hV => impl_PplMay x A c A1 c1 ps B4 d4 y.did B2 d2 y.busy t m m2 m2 V (HX.out.later hV) (HP.out.later hV) (H4.out.later hV) (H2.out.later hV)
      clear hsn
      obtain ⟨wo, hwo⟩ : ∃ wo : World, wo = wr := ⟨_, rfl⟩
      subst hwo
      go_wp2_with fail
      clear k0 k1
      refine (HMAY.out _ B.out).mono ?_
      rintro e w5 ⟨v5, rfl, hv5, hb5⟩
      have S5 := Lib.hid (SI.out.later hb5)
      have z5 := hb5.size
      have hml := mayOf_len x ps y.did y.busy t
      have HPR : Hid (pairs x ps y t = (mayOf x ps y.did y.busy t).map (fun w => (⟨t, w⟩ : GDid))) := rfl
      obtain ⟨MA, mc, hv5', hmi⟩ := OwnI.of_v hv5
      subst hv5'
      have M5 := Lib.hid hmi
      have hmhi := fun h0 => OwnI.hi hmi h0
      have HMH := Lib.hid hmhi
      have D5 : Hid (∀ g, _ → g < wo.heap.size ∨ w5.heap.size ≤ g) := fun g (hg : Value.ownBlock _ = some g) => .inl (SI.out.o.lt g hg).2
      clear hb5 hv5 hmi hmhi
      generalize mayOf x ps y.did y.busy t = may at M5 HMH HPR hml
      generalize canTo x ps y (ts.take i) = pre at S5 HSN hcl
      go_wp2
      go_loopg [7, 42] may.length (fun gg s7 s42 wr => ∃ j : Nat, j ≤ may.length ∧ may.length - j ≤ gg ∧ s42 = .int .i64 j ∧ Aside (CSt w x A c (caseCells y B1 d1 B2 d2 B3 d3 B4 d4) (some ⟨bt, ot, none⟩) ts s7 (pre ++ (may.take j).map (fun w => (⟨t, w⟩ : GDid))) wr) ∧ Aside (OwnI wr wo.heap.size MA may) ∧ Aside (w5.heap.size ≤ wr.heap.size) ∧ Aside (∀ g, s7.ownBlock = some g → g < wo.heap.size ∨ w5.heap.size ≤ g))
      case atStart => exact ⟨0, Nat.zero_le _, by omega, rfl, (by show CSt _ _ _ _ _ _ _ _ _ _; simpa using S5.out), M5.out, Nat.le_refl _, D5.out⟩
      case round =>
        obtain ⟨j, hj, hgj, rfl, SJ, MJ, ZJ, DJ⟩ := hrel
        have zj := ZJ.out
        by_cases hjl : j < may.length
        · have hjz : (j : Int) < (may.length : Int) := by omega
          obtain ⟨bm, om, hAm, _, hcm⟩ := (MJ.out.ints (by omega)).at_ hjl
          subst hAm
          have HMS : Hid ((may.take (j + 1)).map (fun w => (⟨t, w⟩ : GDid)) = (may.take j).map (fun w => (⟨t, w⟩ : GDid)) ++ [⟨t, may[j]⟩]) := by show _ = _; rw [List.take_succ_eq_append_getElem hjl, List.map_append]; rfl
          generalize may[j] = who at hcm HMS
          have hlen : (pre ++ (may.take j).map (fun w => (⟨t, w⟩ : GDid))).length ≤ 100 := by simp; omega
          go_wp2_with (at_builtin; refine append_C5 rfl (.tmp 46) (.tmp 50) 32 rfl didC 59 _ 16 Tryz.underlying32 info_casDid rfl (by decide) (by decide) (w.heap.size + 2) _ _ rfl ((SJ).out.o.later ((Below.refl _ _).alloc (Nat.le_refl _) _)) ⟨t, who⟩ _ (w.heap.size + 2) 0 rfl (Nat.le_refl _) (Nat.zero_le _) (fun _ _ => .inr (Nat.zero_le _)) wr.heap.size rfl (fun j u hu => by rw [Bk.cell (Bk.new rfl)]; simpa [GDid.cells] using hu) (by simp [GDid.cells, Value.oneCell']) (by omega) (by have := (SJ).out.s; simp; omega) ?_; intro v' w6 hown6 hg6 _ h56; have SA := Lib.hid (((SJ).out.later ((Below.refl _ _).alloc (Nat.le_refl _) (.cells #[.int .i64 t, .int .i64 who] 59))).app hg6 h56 hown6); have G6 := Lib.hid hg6; have H56 := Lib.hid h56; have z6 := hg6.size; clear hown6 hg6 h56)
          go_roundg (may.length - (j + 1))
          case measure => omega
          case rel =>
            refine ⟨j + 1, by omega, by omega, by go_num, ?_, ?_, ?_, ?_⟩
            · show CSt _ _ _ _ _ _ _ _ _ _
              rw [HMS.out, ← List.append_assoc]
              exact SA.out
            · refine (MJ.out.later ((Below.refl _ _).alloc (Nat.le_refl _) (.cells #[.int .i64 t, .int .i64 who] 59))).grown G6.out fun g h0 hA he => ?_
              have h7 := DJ.out g he
              have h8 := HMH.out h0 g hA
              obtain ⟨g9, hA9, hb9, _⟩ := M5.out h0
              rw [hA] at hA9
              cases hA9
              omega
            · show _ ≤ _
              simp at z6
              omega
            · intro g hg
              rcases H56.out with h | h
              · exact DJ.out g (h.symm.trans hg)
              · rw [h] at hg
                cases hg
                right
                simp
                omega
        · have hjz : ¬ (j : Int) < (may.length : Int) := by omega
          have he : j = may.length := by omega
          subst he
          have sj := SJ.out
          rw [List.take_length, ← HPR.out, ← HSN.out] at sj
          have SJ2 := Lib.hid sj
          clear sj
          go_wp2
          go_roundg (ts.length - (i + 1))
          case measure => omega
          case rel => exact ⟨i + 1, by omega, by omega, by go_num, SJ2.out⟩
    · have hiz : ¬ (i : Int) < (ts.length : Int) := by omega
      have he : i = ts.length := by omega
      subst he
      have si := SI.out
      rw [List.take_length, ← HE.out] at si
      have SI2 := Lib.hid si
      clear si
      go_wp2
      go_ret
      exact ⟨_, rfl, SI2.out.o.low' (by omega), SI2.out.b⟩

set_option maxRecDepth 100000 in
set_option maxHeartbeats 4000000 in
theorem spec_CasCan (x : GNet) (A : Option Addr) (c : Nat) (A1 : Option Addr) (c1 : Nat) (ps : List Int) (y : GCase) (B1 : Option Addr) (d1 : Nat) (B2 : Option Addr) (d2 : Nat) (B3 : Option Addr) (d3 : Nat) (B4 : Option Addr) (d4 : Nat) (m m2 : Option Nat) (w : World) (hx : Rows taskC m w w.heap.size A x.tasks) (hp : Ints w w.heap.size A1 ps)
    (h1 : Rows intC m2 w w.heap.size B1 y.marks) (h2 : Rows itemC m2 w w.heap.size B2 y.busy) (h3 : Rows intC m2 w w.heap.size B3 y.data) (h4 : Rows didC m2 w w.heap.size B4 y.did) :
    Calls Tryz.prog 6 #[.agg (netCells x A c), .slice A1 ps.length c1, .agg (caseCells y B1 d1 B2 d2 B3 d3 B4 d4)] w (GivesDid (canOf x ps y) w) := by
  have n2 := h2.1
  have HX := Lib.hid hx
  have HP := Lib.hid hp
  have H1 := Lib.hid h1
  have H2 := Lib.hid h2
  have H3 := Lib.hid h3
  have H4 := Lib.hid h4
  clear hx hp h1 h2 h3 h4
  go_enter Tryz.func6, Tryz.ntmps6
  go_wp2_with fail
  refine callsAt fun W hW => ?_
  have P1 : Hid (Bk W w.heap.size 36 (netCells x A c)) := by show Bk _ _ _ _; rw [hW]; exact ((Bk.new rfl).alloc _).alloc _
  have C1 : Hid (Bk W (w.heap.size + 1) 41 (caseCells y B1 d1 B2 d2 B3 d3 B4 d4)) := by show Bk _ _ _ _; rw [hW]; exact (Bk.new (by simp)).alloc _
  have B : Hid (Below w.heap.size w W) := by show Below _ _ _; rw [hW]; go_grown
  have zW : w.heap.size + 2 < W.heap.size := by rw [hW]; simp
  have E1 : Hid (OwnC didC 59 W (w.heap.size + 2) (.slice (some ⟨w.heap.size + 2, 0, none⟩) 0 0) []) := by
    show OwnC _ _ _ _ _ _
    have h := OwnC.made (C := didC) (e := 59) (w := World.alloc (World.alloc w (.cells (netCells x A c) 36)) (.cells (caseCells y B1 d1 B2 d2 B3 d3 B4 d4) 41)) (base := w.heap.size + 2) (by simp) 0 #[] (by decide) rfl
    rw [hW]
    simpa using h
  clear hW
  refine (spec_CasOk x A c y B1 d1 B2 d2 B3 d3 B4 d4 m m2 W (HX.out.later B.out) (H1.out.later B.out) (H2.out.later B.out) (H3.out.later B.out) (H4.out.later B.out)).mono ?_
  rintro e w1 ⟨rfl, hb⟩
  have P1 := Lib.hid (P1.out.later hb)
  have C1 := Lib.hid (C1.out.later hb)
  have E1 := Lib.hid (E1.out.later hb)
  have B := Lib.hid (B.out.trans (hb.mono B.out.size))
  have z1 := hb.size
  clear hb
  have k0 := fun i => P1.out.cell i
  have k1 := fun i => C1.out.cell i
  cases q1 : casOk x y with
  | false =>
    have HE : Hid (canOf x ps y = []) := by show _ = _; rw [canOf, runs, q1]; rfl
    go_wp2
    go_ret
    exact ⟨_, rfl, by rw [HE.out]; exact E1.out.low' (by omega), B.out⟩
  | true =>
  by_cases hs : y.state = 1
  rotate_left
  · have hb1 : (y.state != 1) = true := by simp [hs]
    have HE : Hid (canOf x ps y = []) := by show _ = _; rw [canOf, runs, if_neg]; simp [hs]
    clear hs
    go_wp2
    go_ret
    exact ⟨_, rfl, by rw [HE.out]; exact E1.out.low' (by omega), B.out⟩
  have hb1 : (y.state != 1) = false := by simp [hs]
  by_cases h6 : y.busy.length = 6
  · have hb2 : ((y.busy.length : Int) == 6) = true := by rw [beq_iff_eq]; omega
    have HE : Hid (canOf x ps y = []) := by show _ = _; rw [canOf, if_neg]; simp [h6]
    clear h6 hs
    go_wp2
    go_ret
    exact ⟨_, rfl, by rw [HE.out]; exact E1.out.low' (by omega), B.out⟩
  have hb2 : ((y.busy.length : Int) == 6) = false := by rw [beq_eq_false_iff_ne]; omega
  have HE : Hid (canOf x ps y = canTo x ps y (enaOf x y.marks y.busy)) := by show _ = _; rw [canOf, if_pos ⟨by rw [runs, q1]; simp [hs], h6⟩]
  have ht6 := (netOk_len (casOk_net q1).1).2.1
  clear h6 q1 hs
  go_wp2_with fail
  clear k0 k1
  refine (spec_EnaTasks x A c B1 d1 y.marks B2 d2 y.busy m m2 _ (HX.out.later B.out) (H1.out.later B.out).ints (H2.out.later B.out) (by omega)).mono ?_
  rintro e w2 ⟨v2, rfl, hv, hb⟩
  have hts := enaOf_len x y.marks y.busy
  obtain ⟨TA, tc, hv2, hoi⟩ := OwnI.of_v hv
  subst hv2
  have z2 := hb.size
  have S2 : Hid (CSt w x A c (caseCells y B1 d1 B2 d2 B3 d3 B4 d4) TA (enaOf x y.marks y.busy) (.slice (some ⟨w.heap.size + 2, 0, none⟩) 0 0) [] w2) := by
    refine ⟨P1.out.later hb, C1.out.later hb, B.out.trans (hb.mono B.out.size), hoi.mono (by omega), E1.out.later hb, by omega, fun g g' hg h0 hA => ?_⟩
    cases hg
    obtain ⟨g2, hA2, hb2', _⟩ := hoi h0
    rw [hA] at hA2
    cases hA2
    show w.heap.size + 2 ≠ _
    omega
  clear hb hv hoi P1 C1 B E1
  generalize enaOf x y.marks y.busy = ts at S2 HE hts
  go_wp2
  go_loopg [7, 9] ts.length (fun gg s7 s9 wr => ∃ i : Nat, i ≤ ts.length ∧ ts.length - i ≤ gg ∧ s9 = .int .i64 i ∧ Aside (CSt w x A c (caseCells y B1 d1 B2 d2 B3 d3 B4 d4) TA ts s7 (canTo x ps y (ts.take i)) wr))
  case atStart => exact ⟨0, Nat.zero_le _, by omega, rfl, S2.out⟩
  case round =>
    obtain ⟨i, hi, hg, rfl, SI⟩ := hrel
    by_cases hil : i < ts.length
    · have hiz : (i : Int) < (ts.length : Int) := by omega
      have hsn := canTo_snoc x ps y ts i hil
      obtain ⟨bt, ot, hAt, _, hct⟩ := (SI.out.t.ints (by omega)).at_ hil
      subst hAt
      have hcl := canTo_len x ps y (ts.take i)
      have htl : (ts.take i).length ≤ 6 := by simp; omega
      generalize hti : ts[i] = t at hct hsn
      have HTI := Lib.hid hti
      clear hti
      have HSN := Lib.hid hsn
      have B := Lib.hid SI.out.b
      have k0 := fun i => SI.out.p.cell i
      have k1 := fun i => SI.out.k.cell i
      have HMAY : Hid (∀ V : World, Below w.heap.size w V → Calls Tryz.prog 26 #[.agg (netCells x A c), .slice A1 ps.length c1, .slice B4 y.did.length d4, .slice B2 y.busy.length d2, .int .i64 t] V (GivesInts (mayOf x ps y.did y.busy t) V)) := fun V hV => spec_PplMay x A c A1 c1 ps B4 d4 y.did B2 d2 y.busy t m m2 m2 V (HX.out.later hV) (HP.out.later hV) (H4.out.later hV) (H2.out.later hV)
      clear hsn
      obtain ⟨wo, hwo⟩ : ∃ wo : World, wo = wr := ⟨_, rfl⟩
      subst hwo
      go_wp2
      have hbd : Below wo.heap.size wo wo.drew := (Below.refl _ _).drew
      refine wp_region_held_drew (S := (fun V : World => V.cell? ⟨w.heap.size, 0, none⟩ = some (.int .i64 x.places) ∧ V.cell? ⟨w.heap.size, 1, none⟩ = some (.slice A x.tasks.length c) ∧ V.cell? ⟨w.heap.size + 1, 2, none⟩ = some (.slice B2 y.busy.length d2) ∧ V.cell? ⟨w.heap.size + 1, 4, none⟩ = some (.slice B4 y.did.length d4) ∧ V.cell? ⟨bt, ot + i, none⟩ = some (.int .i64 t))) (by kernel_rfl) ⟨k0 0, k0 1, k1 2, k1 4, hct⟩ (fun hHeld => ?_)
      have SD := Lib.hid (SI.out.later hbd)
      have hctd : wo.drew.cell? ⟨bt, ot + i, none⟩ = some (.int .i64 t) := hct
      have HCT := Lib.hid hctd
      have zd := hbd.size
      clear hbd k0 k1 hct hctd
      generalize wo.drew = wd at SD hHeld HCT zd ⊢
      refine wpAnyH_take (i := 0) (v := ?_) rfl (by kernel_rfl) (by kernel_rfl) (by kernel_rfl) (fun _ _ _ h => h) (Or.inl ⟨by rfl, ?_⟩) (by assumption) ?_
      rotate_left
      · intro V hSw
        (try dsimp only at hSw)
        go_simp
        (try with_reducible rfl)
      simp only [List.getElem_toArray, List.getElem_cons_succ, List.getElem_cons_zero, Act.put, List.setIfInBounds_toArray, List.set_cons_zero, List.set_cons_succ]
      refine wpAnyH_take (i := 1) (v := ?_) rfl (by kernel_rfl) (by kernel_rfl) (by kernel_rfl) (fun _ _ _ h => h) (Or.inl ⟨by rfl, ?_⟩) (by assumption) ?_
      rotate_left
      · intro V hSw
        (try dsimp only at hSw)
        go_simp
        (try with_reducible rfl)
      simp only [List.getElem_toArray, List.getElem_cons_succ, List.getElem_cons_zero, Act.put, List.setIfInBounds_toArray, List.set_cons_zero, List.set_cons_succ]
      refine wpAnyH_take (i := 2) (v := ?_) rfl (by kernel_rfl) (by kernel_rfl) (by kernel_rfl) (fun _ _ _ h => h) (Or.inl ⟨by rfl, ?_⟩) (by assumption) ?_
      rotate_left
      · intro V hSw
        (try dsimp only at hSw)
        go_simp
        (try with_reducible rfl)
      simp only [List.getElem_toArray, List.getElem_cons_succ, List.getElem_cons_zero, Act.put, List.setIfInBounds_toArray, List.set_cons_zero, List.set_cons_succ]
      refine wpAnyH_take (i := 3) (v := ?_) rfl (by kernel_rfl) (by kernel_rfl) (by kernel_rfl) (fun _ _ _ h => h) (Or.inl ⟨by rfl, ?_⟩) (by assumption) ?_
      rotate_left
      · intro V hSw
        (try dsimp only at hSw)
        go_simp
        (try with_reducible rfl)
      simp only [List.getElem_toArray, List.getElem_cons_succ, List.getElem_cons_zero, Act.put, List.setIfInBounds_toArray, List.set_cons_zero, List.set_cons_succ]
      refine wpAnyH_take (i := 4) (v := ?_) rfl (by kernel_rfl) (by kernel_rfl) (by kernel_rfl) (fun _ _ _ h => h) (Or.inl ⟨by rfl, ?_⟩) (by assumption) ?_
      rotate_left
      · intro V hSw
        (try dsimp only at hSw)
        go_simp
        (try with_reducible rfl)
      simp only [List.getElem_toArray, List.getElem_cons_succ, List.getElem_cons_zero, Act.put, List.setIfInBounds_toArray, List.set_cons_zero, List.set_cons_succ]
      refine wpAnyH_take (i := 5) (v := ?_) rfl (by kernel_rfl) (by kernel_rfl) (by kernel_rfl) (fun _ _ _ h => h) (Or.inl ⟨by rfl, ?_⟩) (by assumption) ?_
      rotate_left
      · intro V hSw
        (try dsimp only at hSw)
        go_simp
        (try with_reducible rfl)
      simp only [List.getElem_toArray, List.getElem_cons_succ, List.getElem_cons_zero, Act.put, List.setIfInBounds_toArray, List.set_cons_zero, List.set_cons_succ]
      refine wpAnyH_take (i := 6) (v := ?_) rfl (by kernel_rfl) (by kernel_rfl) (by kernel_rfl) (fun _ _ _ h => h) (Or.inl ⟨by rfl, ?_⟩) (by assumption) ?_
      rotate_left
      · intro V hSw
        (try dsimp only at hSw)
        go_simp
        (try with_reducible rfl)
      simp only [List.getElem_toArray, List.getElem_cons_succ, List.getElem_cons_zero, Act.put, List.setIfInBounds_toArray, List.set_cons_zero, List.set_cons_succ]
      refine wpAnyH_take (i := 7) (v := ?_) rfl (by kernel_rfl) (by kernel_rfl) (by kernel_rfl) (fun _ _ _ h => h) (Or.inl ⟨by rfl, ?_⟩) (by assumption) ?_
      rotate_left
      · intro V hSw
        (try dsimp only at hSw)
        go_simp
        (try with_reducible rfl)
      simp only [List.getElem_toArray, List.getElem_cons_succ, List.getElem_cons_zero, Act.put, List.setIfInBounds_toArray, List.set_cons_zero, List.set_cons_succ]
      refine wpAnyH_take (i := 8) (v := ?_) rfl (by kernel_rfl) (by kernel_rfl) (by kernel_rfl) (fun _ _ _ h => h) (Or.inl ⟨by rfl, ?_⟩) (by assumption) ?_
      rotate_left
      · intro V hSw
        (try dsimp only at hSw)
        go_simp
        (try with_reducible rfl)
      simp only [List.getElem_toArray, List.getElem_cons_succ, List.getElem_cons_zero, Act.put, List.setIfInBounds_toArray, List.set_cons_zero, List.set_cons_succ]
      refine wpAnyH_take (i := 9) (v := ?_) rfl (by kernel_rfl) (by kernel_rfl) (by kernel_rfl) (fun _ _ _ h => h) (Or.inl ⟨by rfl, ?_⟩) (by assumption) ?_
      rotate_left
      · intro V hSw
        (try dsimp only at hSw)
        go_simp
        (try with_reducible rfl)
      simp only [List.getElem_toArray, List.getElem_cons_succ, List.getElem_cons_zero, Act.put, List.setIfInBounds_toArray, List.set_cons_zero, List.set_cons_succ]
      refine wpAnyH_ready (rs := [10]) (by kernel_rfl) (by simp) ?_
      refine AllReadyH.cons rfl (fun K hK => ?_) AllReadyH.nil
      go_simp
      go_wp2_with (go_at_call 26; refine (HMAY.out _ SD.out.b).mono ?_; rintro e w5 ⟨v5, rfl, hv5, hb5⟩)
      have S5 := Lib.hid (SD.out.later hb5)
      have hct5 : w5.cell? ⟨bt, ot + i, none⟩ = some (.int .i64 t) := (hb5.cell (p := ⟨bt, ot + i, none⟩) (World.block_lt_of_cell? _ _ HCT.out)).trans HCT.out
      refine hK.out _ _ ⟨S5.out.p.cell 0, S5.out.p.cell 1, S5.out.k.cell 2, S5.out.k.cell 4, hct5⟩ (fun hHeld => ?_)
      clear hK K
      refine wpAnyH_take (i := 11) (v := ?_) rfl (by kernel_rfl) (by kernel_rfl) (by kernel_rfl) (fun _ _ _ h => h) (Or.inl ⟨by rfl, ?_⟩) (by assumption) ?_
      rotate_left
      · intro V hSw
        (try dsimp only at hSw)
        go_simp
        (try with_reducible rfl)
      simp only [List.getElem_toArray, List.getElem_cons_succ, List.getElem_cons_zero, Act.put, List.setIfInBounds_toArray, List.set_cons_zero, List.set_cons_succ]
      refine wpAnyH_done (by kernel_rfl) ?_ _
      clear hHeld hct5 HCT
      have z5 := hb5.size
      have hml := mayOf_len x ps y.did y.busy t
      have HPR : Hid (pairs x ps y t = (mayOf x ps y.did y.busy t).map (fun w => (⟨t, w⟩ : GDid))) := rfl
      obtain ⟨MA, mc, hv5', hmi⟩ := OwnI.of_v hv5
      subst hv5'
      have M5 := Lib.hid hmi
      have hmhi := fun h0 => OwnI.hi hmi h0
      have HMH := Lib.hid hmhi
      have D5 : Hid (∀ g, _ → g < wd.heap.size ∨ w5.heap.size ≤ g) := fun g (hg : Value.ownBlock _ = some g) => .inl (SD.out.o.lt g hg).2
      clear hb5 hv5 hmi hmhi
      generalize mayOf x ps y.did y.busy t = may at M5 HMH HPR hml
      generalize canTo x ps y (ts.take i) = pre at S5 HSN hcl
      go_wp2
      go_loopg [7, 11] may.length (fun gg s7 s11 wr => ∃ j : Nat, j ≤ may.length ∧ may.length - j ≤ gg ∧ s11 = .int .i64 j ∧ Aside (CSt w x A c (caseCells y B1 d1 B2 d2 B3 d3 B4 d4) (some ⟨bt, ot, none⟩) ts s7 (pre ++ (may.take j).map (fun w => (⟨t, w⟩ : GDid))) wr) ∧ Aside (OwnI wr wd.heap.size MA may) ∧ Aside (w5.heap.size ≤ wr.heap.size) ∧ Aside (∀ g, s7.ownBlock = some g → g < wd.heap.size ∨ w5.heap.size ≤ g))
      case atStart => exact ⟨0, Nat.zero_le _, by omega, rfl, (by show CSt _ _ _ _ _ _ _ _ _ _; simpa using S5.out), M5.out, Nat.le_refl _, D5.out⟩
      case round =>
        obtain ⟨j, hj, hgj, rfl, SJ, MJ, ZJ, DJ⟩ := hrel
        have zj := ZJ.out
        by_cases hjl : j < may.length
        · have hjz : (j : Int) < (may.length : Int) := by omega
          obtain ⟨bm, om, hAm, _, hcm⟩ := (MJ.out.ints (by omega)).at_ hjl
          subst hAm
          have HMS : Hid ((may.take (j + 1)).map (fun w => (⟨t, w⟩ : GDid)) = (may.take j).map (fun w => (⟨t, w⟩ : GDid)) ++ [⟨t, may[j]⟩]) := by show _ = _; rw [List.take_succ_eq_append_getElem hjl, List.map_append]; rfl
          generalize hwi : may[j] = who at hcm HMS
          have HWI := Lib.hid hwi
          clear hwi
          have hlen : (pre ++ (may.take j).map (fun w => (⟨t, w⟩ : GDid))).length ≤ 100 := by simp; omega
          have cT : wr.cell? ⟨bt, ot + i, none⟩ = some (.int .i64 t) := by
            obtain ⟨b9, o9, hA9, _, h9⟩ := (SJ.out.t.ints (by omega)).at_ hil
            cases hA9
            rw [HTI.out] at h9
            exact h9
          go_wp2
          have hbd : Below wr.heap.size wr wr.drew := (Below.refl _ _).drew
          refine wp_region_held_drew (S := (fun V : World => V.cell? ⟨bt, ot + i, none⟩ = some (.int .i64 t) ∧ V.cell? ⟨bm, om + j, none⟩ = some (.int .i64 who))) (by kernel_rfl) ⟨cT, hcm⟩ (fun hHeld => ?_)
          have SD2 := Lib.hid (SJ.out.later hbd)
          have MD2 := Lib.hid (MJ.out.later hbd)
          have zd2 := hbd.size
          have CT2 : Hid (wr.drew.cell? ⟨bt, ot + i, none⟩ = some (.int .i64 t) ∧ wr.drew.cell? ⟨bm, om + j, none⟩ = some (.int .i64 who)) := ⟨cT, hcm⟩
          clear hbd hcm cT
          generalize wr.drew = wj at SD2 MD2 zd2 hHeld CT2 ⊢
          refine wpAnyH_take (i := 0) (v := ?_) rfl (by kernel_rfl) (by kernel_rfl) (by kernel_rfl) (fun _ _ _ h => h) (Or.inl ⟨by rfl, ?_⟩) (by assumption) ?_
          rotate_left
          · intro V hSw
            (try dsimp only at hSw)
            go_simp
            (try with_reducible rfl)
          simp only [List.getElem_toArray, List.getElem_cons_succ, List.getElem_cons_zero, Act.put, List.setIfInBounds_toArray, List.set_cons_zero, List.set_cons_succ]
          refine wpAnyH_take (i := 1) (v := ?_) rfl (by kernel_rfl) (by kernel_rfl) (by kernel_rfl) (fun _ _ _ h => h) (Or.inl ⟨by rfl, ?_⟩) (by assumption) ?_
          rotate_left
          · intro V hSw
            (try dsimp only at hSw)
            go_simp
            (try with_reducible rfl)
          simp only [List.getElem_toArray, List.getElem_cons_succ, List.getElem_cons_zero, Act.put, List.setIfInBounds_toArray, List.set_cons_zero, List.set_cons_succ]
          refine wpAnyH_take (i := 2) (v := ?_) rfl (by kernel_rfl) (by kernel_rfl) (by kernel_rfl) (fun _ _ _ h => h) (Or.inl ⟨by rfl, ?_⟩) (by assumption) ?_
          rotate_left
          · intro V hSw
            (try dsimp only at hSw)
            go_simp
            (try with_reducible rfl)
          simp only [List.getElem_toArray, List.getElem_cons_succ, List.getElem_cons_zero, Act.put, List.setIfInBounds_toArray, List.set_cons_zero, List.set_cons_succ]
          refine wpAnyH_take (i := 3) (v := ?_) rfl (by kernel_rfl) (by kernel_rfl) (by kernel_rfl) (fun _ _ _ h => h) (Or.inl ⟨by rfl, ?_⟩) (by assumption) ?_
          rotate_left
          · intro V hSw
            (try dsimp only at hSw)
            go_simp
            (try with_reducible rfl)
          simp only [List.getElem_toArray, List.getElem_cons_succ, List.getElem_cons_zero, Act.put, List.setIfInBounds_toArray, List.set_cons_zero, List.set_cons_succ]
          refine wpAnyH_take (i := 4) (v := ?_) rfl (by kernel_rfl) (by kernel_rfl) (by kernel_rfl) (fun _ _ _ h => h) (Or.inl ⟨by rfl, ?_⟩) (by assumption) ?_
          rotate_left
          · intro V hSw
            (try dsimp only at hSw)
            go_simp
            (try with_reducible rfl)
          simp only [List.getElem_toArray, List.getElem_cons_succ, List.getElem_cons_zero, Act.put, List.setIfInBounds_toArray, List.set_cons_zero, List.set_cons_succ]
          refine wpAnyH_take (i := 5) (v := ?_) rfl (by kernel_rfl) (by kernel_rfl) (by kernel_rfl) (fun _ _ _ h => h) (Or.inl ⟨by rfl, ?_⟩) (by assumption) ?_
          rotate_left
          · intro V hSw
            (try dsimp only at hSw)
            go_simp
            (try with_reducible rfl)
          simp only [List.getElem_toArray, List.getElem_cons_succ, List.getElem_cons_zero, Act.put, List.setIfInBounds_toArray, List.set_cons_zero, List.set_cons_succ]
          refine wpAnyH_take (i := 6) (v := ?_) rfl (by kernel_rfl) (by kernel_rfl) (by kernel_rfl) (fun _ _ _ h => h) (Or.inl ⟨by rfl, ?_⟩) (by assumption) ?_
          rotate_left
          · intro V hSw
            (try dsimp only at hSw)
            go_simp
            (try with_reducible rfl)
          simp only [List.getElem_toArray, List.getElem_cons_succ, List.getElem_cons_zero, Act.put, List.setIfInBounds_toArray, List.set_cons_zero, List.set_cons_succ]
          refine wpAnyH_take (i := 7) (v := ?_) rfl (by kernel_rfl) (by kernel_rfl) (by kernel_rfl) (fun _ _ _ h => h) (Or.inl ⟨by rfl, ?_⟩) (by assumption) ?_
          rotate_left
          · intro V hSw
            (try dsimp only at hSw)
            go_simp
            (try with_reducible rfl)
          simp only [List.getElem_toArray, List.getElem_cons_succ, List.getElem_cons_zero, Act.put, List.setIfInBounds_toArray, List.set_cons_zero, List.set_cons_succ]
          refine wpAnyH_take (i := 8) (v := ?_) rfl (by kernel_rfl) (by kernel_rfl) (by kernel_rfl) (fun _ _ _ h => h) (Or.inl ⟨by rfl, ?_⟩) (by assumption) ?_
          rotate_left
          · intro V hSw
            (try dsimp only at hSw)
            go_simp
            (try with_reducible rfl)
          simp only [List.getElem_toArray, List.getElem_cons_succ, List.getElem_cons_zero, Act.put, List.setIfInBounds_toArray, List.set_cons_zero, List.set_cons_succ]
          refine wpAnyH_take (i := 9) (v := ?_) rfl (by kernel_rfl) (by kernel_rfl) (by kernel_rfl) (fun _ _ _ h => h) (Or.inl ⟨by rfl, ?_⟩) (by assumption) ?_
          rotate_left
          · intro V hSw
            (try dsimp only at hSw)
            go_simp
            (try with_reducible rfl)
          simp only [List.getElem_toArray, List.getElem_cons_succ, List.getElem_cons_zero, Act.put, List.setIfInBounds_toArray, List.set_cons_zero, List.set_cons_succ]
          refine wpAnyH_ready (rs := [10]) (by kernel_rfl) (by simp) ?_
          refine AllReadyH.cons rfl (fun K hK => ?_) AllReadyH.nil
          go_simp
          refine hK.out _ _ ⟨((Below.refl wj.heap.size wj).alloc (Nat.le_refl _) _ |>.cell (p := ⟨bt, ot + i, none⟩) (World.block_lt_of_cell? _ _ CT2.out.1)).trans CT2.out.1, ((Below.refl wj.heap.size wj).alloc (Nat.le_refl _) _ |>.cell (p := ⟨bm, om + j, none⟩) (World.block_lt_of_cell? _ _ CT2.out.2)).trans CT2.out.2⟩ (fun hHeld => ?_)
          clear hK K
          refine wpAnyH_ready (rs := [11]) (by kernel_rfl) (by simp) ?_
          refine AllReadyH.cons rfl (fun K hK => ?_) AllReadyH.nil
          refine step_C5 rfl (.tmp 58) (.tmp 68) 32 rfl didC 59 _ 16 Tryz.underlying32 info_casDid rfl (by decide) (by decide) (w.heap.size + 2) _ _ rfl ((SD2).out.o.later ((Below.refl _ _).alloc (Nat.le_refl _) _)) ⟨t, who⟩ _ (w.heap.size + 2) 0 rfl (Nat.le_refl _) (Nat.zero_le _) (fun _ _ => .inr (Nat.zero_le _)) wj.heap.size rfl (fun j u hu => by rw [Bk.cell (Bk.new rfl)]; simpa [GDid.cells] using hu) (by simp [GDid.cells, Value.oneCell']) (by omega) (by have := (SD2).out.s; simp; omega) ?_
          intro v' w6 hown6 hg6 _ h56
          have cTM : Hid (w6.cell? ⟨bt, ot + i, none⟩ = some (.int .i64 t) ∧ w6.cell? ⟨bm, om + j, none⟩ = some (.int .i64 who)) := by
            have hsx := SD2.out.later ((Below.refl _ _).alloc (Nat.le_refl _) (.cells #[.int .i64 t, .int .i64 who] 59))
            have hT := (hsx.app hg6 h56 hown6).t
            obtain ⟨b9, o9, hA9, _, h9⟩ := (hT.ints (by omega)).at_ hil
            cases hA9
            rw [HTI.out] at h9
            have hM := (MD2.out.later ((Below.refl _ _).alloc (Nat.le_refl _) (.cells #[.int .i64 t, .int .i64 who] 59))).grown hg6 (fun g h0 hA he => by
              have h7 := DJ.out g he
              have h8 := HMH.out h0 g hA
              obtain ⟨g9, hA9, hb9, _⟩ := M5.out h0
              rw [hA] at hA9
              cases hA9
              omega)
            obtain ⟨b9, o9, hA9, _, h8⟩ := (hM.ints (by omega)).at_ hjl
            cases hA9
            rw [HWI.out] at h8
            exact ⟨h9, h8⟩
          have SA := Lib.hid (((SD2).out.later ((Below.refl _ _).alloc (Nat.le_refl _) (.cells #[.int .i64 t, .int .i64 who] 59))).app hg6 h56 hown6)
          have G6 := Lib.hid hg6
          have H56 := Lib.hid h56
          have z6 := hg6.size
          clear hown6 hg6 h56
          refine hK.out _ _ cTM.out (fun hHeld => ?_)
          clear hK K
          refine wpAnyH_take (i := 12) (v := ?_) rfl (by kernel_rfl) (by kernel_rfl) (by kernel_rfl) (fun _ _ _ h => h) (Or.inl ⟨by rfl, ?_⟩) (by assumption) ?_
          rotate_left
          · intro V hSw
            (try dsimp only at hSw)
            go_simp
            (try with_reducible rfl)
          simp only [List.getElem_toArray, List.getElem_cons_succ, List.getElem_cons_zero, Act.put, List.setIfInBounds_toArray, List.set_cons_zero, List.set_cons_succ]
          refine wpAnyH_done (by kernel_rfl) ?_ _
          clear hHeld
          go_wp2
          go_roundg (may.length - (j + 1))
          case measure => omega
          case rel =>
            refine ⟨j + 1, by omega, by omega, by go_num, ?_, ?_, ?_, ?_⟩
            · show CSt _ _ _ _ _ _ _ _ _ _
              rw [HMS.out, ← List.append_assoc]
              exact SA.out
            · refine (MD2.out.later ((Below.refl _ _).alloc (Nat.le_refl _) (.cells #[.int .i64 t, .int .i64 who] 59))).grown G6.out fun g h0 hA he => ?_
              have h7 := DJ.out g he
              have h8 := HMH.out h0 g hA
              obtain ⟨g9, hA9, hb9, _⟩ := M5.out h0
              rw [hA] at hA9
              cases hA9
              omega
            · show _ ≤ _
              simp at z6
              omega
            · intro g hg
              rcases H56.out with h | h
              · exact DJ.out g (h.symm.trans hg)
              · rw [h] at hg
                cases hg
                right
                simp
                omega
        · have hjz : ¬ (j : Int) < (may.length : Int) := by omega
          have he : j = may.length := by omega
          subst he
          have sj := SJ.out
          rw [List.take_length, ← HPR.out, ← HSN.out] at sj
          have SJ2 := Lib.hid sj
          clear sj
          go_wp2
          go_roundg (ts.length - (i + 1))
          case measure => omega
          case rel => exact ⟨i + 1, by omega, by omega, by go_num, SJ2.out⟩
    · have hiz : ¬ (i : Int) < (ts.length : Int) := by omega
      have he : i = ts.length := by omega
      subst he
      have si := SI.out
      rw [List.take_length, ← HE.out] at si
      have SI2 := Lib.hid si
      clear si
      go_wp2
      go_ret
      exact ⟨_, rfl, SI2.out.o.low' (by omega), SI2.out.b⟩
end Go.Proofs.YtkoaaagmcjjimaaGreat
