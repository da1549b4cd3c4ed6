/- A net that is ok drawn: l20Net. -/
import Derived.Test.YtjieilicjdoaaaaDrawShape
import Derived.Test.YtjieilicjdoaaaaNetG
namespace Go.Proofs.Ytjieilicjdoaaaa
open Go.RowKit
set_option linter.unusedSimpArgs false
set_option linter.unusedVariables false

theorem rows_bk1 {α : Type} {k : Nat} {cells : α → List Value} {hk : ∀ x, (cells x).length = k} {w : World} {b lo : Nat} {t : TypeId} (x : α) (h : Bk w b t (cells x).toArray) (hlo : lo ≤ b) : Rows (flat k cells hk) (some lo) w w.heap.size (some ⟨b, 0, none⟩) [x] :=
 ⟨by simp, fun _ => ⟨b, 0, rfl, ⟨h.lt, fun l hl => by cases hl; exact ⟨hlo, _, t, h⟩⟩, fun j y hy => ⟨cells x, by
  match j, hy with
  | 0, hy => simp only [List.getElem?_cons_zero, Option.some.injEq] at hy; subst hy; exact ⟨rfl, fun i u hu => by rw [Nat.zero_mul, Nat.zero_add, h.cell]; simpa using hu⟩
  | j + 1, hy => simp at hy⟩⟩⟩
theorem OwnC.form1 {α : Type} {C : Cod α} {e : TypeId} {w : World} {base : Nat} {v : Value} {xs : List α} (h : OwnC C e w base v xs) (hn : 0 < xs.length) : ∃ g c, v = .slice (some ⟨g, 0, none⟩) xs.length c := by
 obtain ⟨css, h1, h2, h3⟩ := h
 rcases h3.2 with ⟨_, h0⟩ | ⟨g, cap, cur, hv, _⟩
 ·
  omega
 ·
  exact ⟨g, cap, hv⟩

/-- The net that is drawn where another would not be ok. -/
def netLast : GNet := ⟨2, [⟨1, 1, [0], [⟨1, ⟨0, 0, 0⟩⟩], [], 1, -1, 1, 1⟩]⟩
theorem netLast_ok : netOk netLast = true := by decide

/-- The two nets at hand while one is drawn: the result's cell, and the net. -/
def NtSt (R : Nat) (w0 : World) (N E P g c n : Nat) (y : GNet) (W : World) : Prop :=
 Bk W N 75 #[.int .i64 0, .slice none 0 0] ∧ Bk W E 75 #[.int .i64 y.places, .slice (some ⟨g, 0, none⟩) n c] ∧ NetG W (N + 1) g y.tasks ∧ RdB W R P ∧ Turned R w0 W ∧ E ≠ g ∧ N < E
section
variable {R : Nat} {w0 W W' : World} {N E P Q g c n : Nat} {y : GNet}
theorem NtSt.pick (h : NtSt R w0 N E P g c n y W) (hN : R < N) (hr : RdB W' R Q) (ht : Turned R W W') : NtSt R w0 N E Q g c n y W' := by
 obtain ⟨h1, h2, h3, h4, h5, h6, h7⟩ := h
 exact ⟨h1.turned ht (by omega), h2.turned ht (by omega), h3.turned ht (by omega), hr, h5.trans ht, h6, h7⟩
theorem NtSt.more (h : NtSt R w0 N E P g c n y W) (hb : Below W.heap.size W W') : NtSt R w0 N E P g c n y W' := by
 obtain ⟨h1, h2, h3, h4, h5, h6, h7⟩ := h
 exact ⟨h1.later hb, h2.later hb, h3.later hb, h4.grown hb, h5.then hb, h6, h7⟩
theorem NtSt.rd (h : NtSt R w0 N E P g c n y W) : RdB W R P := h.2.2.2.1
theorem NtSt.lt (h : NtSt R w0 N E P g c n y W) : E < W.heap.size := h.2.1.lt
theorem NtSt.grow (h : NtSt R w0 N E P g c n y W) : w0.heap.size ≤ W.heap.size := h.2.2.2.2.1.size
end

set_option maxRecDepth 100000 in
set_option maxHeartbeats 4000000 in
theorem l20Net (R P : Nat) (w : World) (h : RdB w R P) (hP : P ≤ 700000) :
  Calls Try.prog 58 #[.pointer (some ⟨R, 0, none⟩)] w (DrawnG R (P + 300) (fun x => netOk x = true) w) := by
 have HR := Lib.hid h
 have hR := h.lt
 clear h
 go_enter Try.func58, Try.ntmps58
 go_wp2_with fail
 refine callsAt fun W hW => ?_
 have bN : Bk W w.heap.size 75 #[.int .i64 0, .slice none 0 0] := by rw [hW]; exact Bk.new rfl
 have hB : Below w.heap.size w W := by rw [hW]; exact (Below.refl _ _).alloc (Nat.le_refl _) _
 have hWs : W.heap.size = w.heap.size + 1 := by rw [hW]; simp
 clear hW
 refine (l20Shape R P W (HR.out.low hB hR) (by omega)).mono ?_
 rintro e w1 ⟨x, v, rfl, hown, hok, hr1, ht1⟩
 obtain ⟨hx1, hx4, hp3, hp7⟩ := hok
 obtain ⟨g, c, hv⟩ := hown.form1 (by omega)
 subst hv
 have HG := Lib.hid ((NetG.of_own hown).low (by omega : w.heap.size + 1 ≤ W.heap.size))
 have HN := Lib.hid (bN.turned ht1 (by omega))
 have HT := Lib.hid ((Turned.of_below hB).trans ht1)
 have HRD := Lib.hid hr1
 have hN1 := HN.out.lt
 have hg1 := HG.out.lt
 clear bN hB hWs hown hr1 ht1
 go_wp2_with fail
 refine callsAt fun V hV => ?_
 have S2 : Hid (NtSt R w w.heap.size w1.heap.size (P + 200) g c x.tasks.length x V) := by
  show NtSt _ _ _ _ _ _ _ _ _ _
  rw [hV]
  exact ⟨HN.out.alloc _, Bk.new rfl, HG.out.later ((Below.refl _ _).alloc (Nat.le_refl _) _), HRD.out.grown ((Below.refl _ _).alloc (Nat.le_refl _) _), HT.out.alloc _, by omega, hN1⟩
 clear hV HG HN HT HRD
 generalize w1.heap.size = E at S2 hN1 hg1 ⊢
 refine (l20Rd_pick R _ 3 _ S2.out.rd (by omega) (by omega)).mono ?_
 rintro e w2 ⟨v2, rfl, hv2, hu2, _, hr2, ht2⟩
 have S3 := Lib.hid (S2.out.pick hR hr2 ht2)
 clear hr2 ht2 S2
 have kE := fun i => S3.out.2.1.cell i
 by_cases h0 : v2 = 0
 ·
  subst h0
  by_cases hp : 3 < x.places
  ·
   go_wp2_with fail
   refine (l20Rd_pick R _ (x.tasks.length : Int) _ S3.out.rd (by omega) (by omega)).mono ?_
   rintro e w3 ⟨v3, rfl, hv3, hu3, _, hr3, ht3⟩
   have S4 := Lib.hid (S3.out.pick hR hr3 ht3)
   obtain ⟨k, rfl⟩ := Int.eq_ofNat_of_zero_le hv3
   have hk : k < x.tasks.length := by have := hu3 (by omega); omega
   have hkz : (k : Int) < (x.tasks.length : Int) := by omega
   clear hr3 ht3 kE S3 hu3
   have kE := fun i => S4.out.2.1.cell i
   have hE4 := S4.out.lt
   have hgr4 := S4.out.grow
   have bE4 := fun o i => (S4.out.2.1.alloc o).cell i
   obtain ⟨cur4, hcur4⟩ : ∃ u, w3.cell? ⟨g, k * 9 + 4, none⟩ = some u := by
    obtain ⟨cs, a, b⟩ := S4.out.2.2.1.2.2 k hk
    exact ⟨_, b 4 _ (List.getElem?_eq_getElem (by rw [a.len]; omega))⟩
   have hg4 := S4.out.2.2.1.lt
   have hold : ∀ o, (w3.alloc o).cell? ⟨g, k * 9 + 4, none⟩ = some cur4 := fun o => by rw [World.cell?_alloc_lt w3 o ⟨g, k * 9 + 4, none⟩ hg4]; exact hcur4
   have hfr := fun o i => (S4.out.2.2.1.later ((Below.refl _ _).alloc (Nat.le_refl _) o)).frozen i
   go_upto_region 5 with fail
   clear bE4 hold hfr hcur4 kE
   generalize hV : (World.alloc (World.setCell w3 _ _) _) = V5
   rw [← World.setCell_alloc_past _ _ _ _ hg4] at hV
   obtain ⟨y, hy⟩ : ∃ y : GNet, y = ⟨x.places, x.tasks.set k { x.tasks[k] with clear := [2, 3] }⟩ := ⟨_, rfl⟩
   have hyl : y.tasks.length = x.tasks.length := by rw [hy]; simp
   have hyp : y.places = x.places := by rw [hy]
   have S5 : Hid (NtSt R w w.heap.size E (P + 202) g c x.tasks.length y V5) := by
    show NtSt _ _ _ _ _ _ _ _ _ _
    obtain ⟨h1, h2, h3, h4, h5, h6, h7⟩ := S4.out.more (W' := w3.alloc (.cells (iv [2, 3]).toArray 3)) ((Below.refl _ _).alloc (Nat.le_refl _) _)
    have hb : Bk (w3.alloc (.cells (iv [2, 3]).toArray 3)) w3.heap.size 3 (iv [2, 3]).toArray := Bk.new rfl
    have hsl : SlR intC (w3.alloc (.cells (iv [2, 3]).toArray 3)) (w.heap.size + 1) g (some ⟨w3.heap.size, 0, none⟩) [2, 3] := ⟨rows_made [2, 3] hb (by simp) (by omega), fun b off _ hA => by cases hA; omega⟩
    have hcl := h3.clear hk (c := 2) hsl
    have hgb := h3.1
    rw [← hV]
    exact ⟨h1.far (p := ⟨g, k * 9 + 4, none⟩) (by show w.heap.size ≠ g; omega) _, by rw [hyp]; exact h2.far (p := ⟨g, k * 9 + 4, none⟩) h6 _, by rw [hy]; exact hcl, (h4.low ((Below.refl g _).setCell (p := ⟨g, k * 9 + 4, none⟩) (Nat.le_refl _) _) (by omega)).mono (by omega), h5.trans' ((Below.refl w.heap.size _).setCell (p := ⟨g, k * 9 + 4, none⟩) (by show w.heap.size ≤ g; omega) _), h6, h7⟩
   have hEV : E < V5.heap.size := S5.out.lt
   rw [← hyp] at *
   clear hV S4 hy hg4
   have LEN := Lib.hid hyl
   clear hyl
   have kE := fun i => S5.out.2.1.cell i
   have hno := spec_NetOk y _ (some (w.heap.size + 1)) V5 ⟨some ⟨g, 0, none⟩, c, rfl, S5.out.2.2.1.rows (by have := LEN.out; omega)⟩
   rw [LEN.out] at hno
   have HNO := Lib.hid hno
   clear hno
   go_wp2_with fail
   refine HNO.out.mono ?_
   rintro e w6 ⟨rfl, hb6⟩
   have S6 := Lib.hid (S5.out.more hb6)
   have hE6 := S6.out.lt
   have hgr := S6.out.grow
   clear hb6 kE HNO
   have kE := fun i => S6.out.2.1.cell i
   cases q : netOk y with
   | true =>
    have kN := fun i => S6.out.1.cell i
    have fN := fun i => S6.out.1.frozen i
    go_wp2
    generalize hV2 : (World.setCell (World.setCell w6 _ _) _ _) = V2
    have bV : Bk V2 w.heap.size 75 #[.int .i64 y.places, .slice (some ⟨g, 0, none⟩) x.tasks.length c] := by rw [← hV2]; exact (S6.out.1.set 0 _).set 1 _
    have hbl : ∀ b, w.heap.size + 1 ≤ b → V2.heap[b]? = w6.heap[b]? := fun b hb => by
     rw [← hV2]
     exact (Below.heap_setCell _ ⟨w.heap.size, 1, none⟩ _ b (by show b ≠ w.heap.size; omega)).trans (Below.heap_setCell _ ⟨w.heap.size, 0, none⟩ _ b (by show b ≠ w.heap.size; omega))
    have hsz : V2.heap.size = w6.heap.size := by rw [← hV2]; simp [World.setCell]
    have gV := (S6.out.2.2.1.kept (by rw [hsz]; exact Nat.le_refl _) fun b h1 _ => hbl b h1).low (Nat.le_succ w.heap.size)
    have tV : Turned R w V2 := by rw [← hV2]; exact S6.out.2.2.2.2.1.trans' (((Below.refl _ _).setCell (p := ⟨w.heap.size, 0, none⟩) (Nat.le_refl _) _).setCell (p := ⟨w.heap.size, 1, none⟩) (Nat.le_refl _) _)
    have rV : RdB V2 R (P + 300) := by rw [← hV2]; exact (S6.out.rd.low (((Below.refl w.heap.size _).setCell (p := ⟨w.heap.size, 0, none⟩) (Nat.le_refl _) _).setCell (p := ⟨w.heap.size, 1, none⟩) (Nat.le_refl _) _) hR).mono (by omega)
    clear hV2 kE kN fN hbl hsz
    have k1 := fun i => bV.cell i
    refine bodyPost_ret (v := .agg #[.int .i64 y.places, .slice (some ⟨g, 0, none⟩) x.tasks.length c]) (by simp [results, Try.results58, go_sem, k1]) rfl ?_
    exact ⟨y, g, c, by rw [LEN.out], gV, q, rV, tV⟩
   | false =>
    have kN := fun o1 o2 o3 i => (((S6.out.1.alloc o1).alloc o2).alloc o3).cell i
    have fN := fun o1 o2 o3 i => (((S6.out.1.alloc o1).alloc o2).alloc o3).frozen i
    clear kE
    go_wp2
    generalize hV2 : (World.setCell (World.setCell (World.alloc (World.alloc (World.alloc w6 _) _) _) _ _) _ _) = V2
    have bV : Bk V2 w.heap.size 75 #[.int .i64 2, .slice (some ⟨w6.heap.size + 1 + 1, 0, none⟩) 1 1] := by rw [← hV2]; exact ((((S6.out.1.alloc _).alloc _).alloc _).set 0 _).set 1 _
    have hNS := S6.out.2.2.2.2.2.2
    have bI : Bk V2 w6.heap.size 3 (iv [0]).toArray := by rw [← hV2]; exact ((((Bk.new rfl).alloc _).alloc _).far (p := ⟨w.heap.size, 0, none⟩) (by show w6.heap.size ≠ w.heap.size; omega) _).far (p := ⟨w.heap.size, 1, none⟩) (by show w6.heap.size ≠ w.heap.size; omega) _
    have bF : Bk V2 (w6.heap.size + 1) 102 (GFlow.cells ⟨1, ⟨0, 0, 0⟩⟩).toArray := by rw [← hV2]; exact (((Bk.new (by simp)).alloc _).far (p := ⟨w.heap.size, 0, none⟩) (by show w6.heap.size + 1 ≠ w.heap.size; omega) _).far (p := ⟨w.heap.size, 1, none⟩) (by show w6.heap.size + 1 ≠ w.heap.size; omega) _
    have bT : Bk V2 (w6.heap.size + 1 + 1) 99 #[.int .i64 1, .int .i64 1, .slice (some ⟨w6.heap.size, 0, none⟩) 1 1, .slice (some ⟨w6.heap.size + 1, 0, none⟩) 1 1, .slice none 0 0, .int .i64 1, .int .i64 (-1), .int .i64 1, .int .i64 1] := by rw [← hV2]; exact ((Bk.new (by simp)).far (p := ⟨w.heap.size, 0, none⟩) (by show w6.heap.size + 1 + 1 ≠ w.heap.size; omega) _).far (p := ⟨w.heap.size, 1, none⟩) (by show w6.heap.size + 1 + 1 ≠ w.heap.size; omega) _
    have tV : Turned R w V2 := by rw [← hV2]; exact (((S6.out.2.2.2.2.1.alloc _).alloc _).alloc _).trans' (((Below.refl _ _).setCell (p := ⟨w.heap.size, 0, none⟩) (Nat.le_refl _) _).setCell (p := ⟨w.heap.size, 1, none⟩) (Nat.le_refl _) _)
    have rV : RdB V2 R (P + 300) := by rw [← hV2]; exact ((S6.out.rd.grown ((((Below.refl _ _).alloc (Nat.le_refl _) _).alloc (by simp) _).alloc (by simp; omega) _)).low (((Below.refl w.heap.size _).setCell (p := ⟨w.heap.size, 0, none⟩) (Nat.le_refl _) _).setCell (p := ⟨w.heap.size, 1, none⟩) (Nat.le_refl _) _) hR).mono (by omega)
    clear hV2 kN fN
    have k1 := fun i => bV.cell i
    refine bodyPost_ret (v := .agg #[.int .i64 2, .slice (some ⟨w6.heap.size + 1 + 1, 0, none⟩) 1 1]) (by simp [results, Try.results58, go_sem, k1]) rfl ?_
    refine ⟨netLast, w6.heap.size + 1 + 1, 1, rfl, ⟨by omega, ⟨_, _, bT⟩, fun j hj => ?_⟩, netLast_ok, rV, tV⟩
    obtain rfl : j = 0 := by simp [netLast] at hj; omega
    refine ⟨[.int .i64 1, .int .i64 1, .slice (some ⟨w6.heap.size, 0, none⟩) 1 1, .slice (some ⟨w6.heap.size + 1, 0, none⟩) 1 1, .slice none 0 0, .int .i64 1, .int .i64 (-1), .int .i64 1, .int .i64 1], ⟨_, 1, _, 1, none, 0, rfl, ⟨rows_made [0] bI (by simp) (by omega), fun b off _ hA => by cases hA; omega⟩, ⟨rows_bk1 (k := 4) (cells := GFlow.cells) (hk := fun _ => rfl) ⟨1, ⟨0, 0, 0⟩⟩ bF (by omega), fun b off _ hA => by cases hA; omega⟩, SlR.nil⟩, fun i u hu => ?_⟩
    rw [Nat.zero_mul, Nat.zero_add, bT.cell]
    simpa using hu
  ·
   have hS : Hid (NtSt R w w.heap.size E (P + 202) g c x.tasks.length x w2) := ⟨S3.out.1, S3.out.2.1, S3.out.2.2.1, S3.out.rd.mono (by omega), S3.out.2.2.2.2⟩
   have hEV := hS.out.lt
   clear S3
   go_upto_region 5 with fail
   clear kE
   have kE := fun i => hS.out.2.1.cell i
   have hno := spec_NetOk x _ (some (w.heap.size + 1)) w2 ⟨some ⟨g, 0, none⟩, c, rfl, hS.out.2.2.1.rows (by omega)⟩
   have HNO := Lib.hid hno
   clear hno
   go_wp2_with fail
   refine HNO.out.mono ?_
   rintro e w6 ⟨rfl, hb6⟩
   have S6 := Lib.hid (hS.out.more hb6)
   have hE6 := S6.out.lt
   have hgr := S6.out.grow
   clear hb6 kE HNO
   have kE := fun i => S6.out.2.1.cell i
   cases q : netOk x with
   | true =>
    have kN := fun i => S6.out.1.cell i
    have fN := fun i => S6.out.1.frozen i
    go_wp2
    generalize hV2 : (World.setCell (World.setCell w6 _ _) _ _) = V2
    have bV : Bk V2 w.heap.size 75 #[.int .i64 x.places, .slice (some ⟨g, 0, none⟩) x.tasks.length c] := by rw [← hV2]; exact (S6.out.1.set 0 _).set 1 _
    have hbl : ∀ b, w.heap.size + 1 ≤ b → V2.heap[b]? = w6.heap[b]? := fun b hb => by
     rw [← hV2]
     exact (Below.heap_setCell _ ⟨w.heap.size, 1, none⟩ _ b (by show b ≠ w.heap.size; omega)).trans (Below.heap_setCell _ ⟨w.heap.size, 0, none⟩ _ b (by show b ≠ w.heap.size; omega))
    have hsz : V2.heap.size = w6.heap.size := by rw [← hV2]; simp [World.setCell]
    have gV := (S6.out.2.2.1.kept (by rw [hsz]; exact Nat.le_refl _) fun b h1 _ => hbl b h1).low (Nat.le_succ w.heap.size)
    have tV : Turned R w V2 := by rw [← hV2]; exact S6.out.2.2.2.2.1.trans' (((Below.refl _ _).setCell (p := ⟨w.heap.size, 0, none⟩) (Nat.le_refl _) _).setCell (p := ⟨w.heap.size, 1, none⟩) (Nat.le_refl _) _)
    have rV : RdB V2 R (P + 300) := by rw [← hV2]; exact (S6.out.rd.low (((Below.refl w.heap.size _).setCell (p := ⟨w.heap.size, 0, none⟩) (Nat.le_refl _) _).setCell (p := ⟨w.heap.size, 1, none⟩) (Nat.le_refl _) _) hR).mono (by omega)
    clear hV2 kE kN fN hbl hsz
    have k1 := fun i => bV.cell i
    refine bodyPost_ret (v := .agg #[.int .i64 x.places, .slice (some ⟨g, 0, none⟩) x.tasks.length c]) (by simp [results, Try.results58, go_sem, k1]) rfl ?_
    exact ⟨x, g, c, rfl, gV, q, rV, tV⟩
   | false =>
    have kN := fun o1 o2 o3 i => (((S6.out.1.alloc o1).alloc o2).alloc o3).cell i
    have fN := fun o1 o2 o3 i => (((S6.out.1.alloc o1).alloc o2).alloc o3).frozen i
    clear kE
    go_wp2
    generalize hV2 : (World.setCell (World.setCell (World.alloc (World.alloc (World.alloc w6 _) _) _) _ _) _ _) = V2
    have bV : Bk V2 w.heap.size 75 #[.int .i64 2, .slice (some ⟨w6.heap.size + 1 + 1, 0, none⟩) 1 1] := by rw [← hV2]; exact ((((S6.out.1.alloc _).alloc _).alloc _).set 0 _).set 1 _
    have hNS := S6.out.2.2.2.2.2.2
    have bI : Bk V2 w6.heap.size 3 (iv [0]).toArray := by rw [← hV2]; exact ((((Bk.new rfl).alloc _).alloc _).far (p := ⟨w.heap.size, 0, none⟩) (by show w6.heap.size ≠ w.heap.size; omega) _).far (p := ⟨w.heap.size, 1, none⟩) (by show w6.heap.size ≠ w.heap.size; omega) _
    have bF : Bk V2 (w6.heap.size + 1) 102 (GFlow.cells ⟨1, ⟨0, 0, 0⟩⟩).toArray := by rw [← hV2]; exact (((Bk.new (by simp)).alloc _).far (p := ⟨w.heap.size, 0, none⟩) (by show w6.heap.size + 1 ≠ w.heap.size; omega) _).far (p := ⟨w.heap.size, 1, none⟩) (by show w6.heap.size + 1 ≠ w.heap.size; omega) _
    have bT : Bk V2 (w6.heap.size + 1 + 1) 99 #[.int .i64 1, .int .i64 1, .slice (some ⟨w6.heap.size, 0, none⟩) 1 1, .slice (some ⟨w6.heap.size + 1, 0, none⟩) 1 1, .slice none 0 0, .int .i64 1, .int .i64 (-1), .int .i64 1, .int .i64 1] := by rw [← hV2]; exact ((Bk.new (by simp)).far (p := ⟨w.heap.size, 0, none⟩) (by show w6.heap.size + 1 + 1 ≠ w.heap.size; omega) _).far (p := ⟨w.heap.size, 1, none⟩) (by show w6.heap.size + 1 + 1 ≠ w.heap.size; omega) _
    have tV : Turned R w V2 := by rw [← hV2]; exact (((S6.out.2.2.2.2.1.alloc _).alloc _).alloc _).trans' (((Below.refl _ _).setCell (p := ⟨w.heap.size, 0, none⟩) (Nat.le_refl _) _).setCell (p := ⟨w.heap.size, 1, none⟩) (Nat.le_refl _) _)
    have rV : RdB V2 R (P + 300) := by rw [← hV2]; exact ((S6.out.rd.grown ((((Below.refl _ _).alloc (Nat.le_refl _) _).alloc (by simp) _).alloc (by simp; omega) _)).low (((Below.refl w.heap.size _).setCell (p := ⟨w.heap.size, 0, none⟩) (Nat.le_refl _) _).setCell (p := ⟨w.heap.size, 1, none⟩) (Nat.le_refl _) _) hR).mono (by omega)
    clear hV2 kN fN
    have k1 := fun i => bV.cell i
    refine bodyPost_ret (v := .agg #[.int .i64 2, .slice (some ⟨w6.heap.size + 1 + 1, 0, none⟩) 1 1]) (by simp [results, Try.results58, go_sem, k1]) rfl ?_
    refine ⟨netLast, w6.heap.size + 1 + 1, 1, rfl, ⟨by omega, ⟨_, _, bT⟩, fun j hj => ?_⟩, netLast_ok, rV, tV⟩
    obtain rfl : j = 0 := by simp [netLast] at hj; omega
    refine ⟨[.int .i64 1, .int .i64 1, .slice (some ⟨w6.heap.size, 0, none⟩) 1 1, .slice (some ⟨w6.heap.size + 1, 0, none⟩) 1 1, .slice none 0 0, .int .i64 1, .int .i64 (-1), .int .i64 1, .int .i64 1], ⟨_, 1, _, 1, none, 0, rfl, ⟨rows_made [0] bI (by simp) (by omega), fun b off _ hA => by cases hA; omega⟩, ⟨rows_bk1 (k := 4) (cells := GFlow.cells) (hk := fun _ => rfl) ⟨1, ⟨0, 0, 0⟩⟩ bF (by omega), fun b off _ hA => by cases hA; omega⟩, SlR.nil⟩, fun i u hu => ?_⟩
    rw [Nat.zero_mul, Nat.zero_add, bT.cell]
    simpa using hu
 ·
  have b0 : (v2 == 0) = false := by simp [h0]
  have hS : Hid (NtSt R w w.heap.size E (P + 202) g c x.tasks.length x w2) := ⟨S3.out.1, S3.out.2.1, S3.out.2.2.1, S3.out.rd.mono (by omega), S3.out.2.2.2.2⟩
  have hEV := hS.out.lt
  clear S3
  go_upto_region 5 with fail
  clear kE
  have kE := fun i => hS.out.2.1.cell i
  have hno := spec_NetOk x _ (some (w.heap.size + 1)) w2 ⟨some ⟨g, 0, none⟩, c, rfl, hS.out.2.2.1.rows (by omega)⟩
  have HNO := Lib.hid hno
  clear hno
  go_wp2_with fail
  refine HNO.out.mono ?_
  rintro e w6 ⟨rfl, hb6⟩
  have S6 := Lib.hid (hS.out.more hb6)
  have hE6 := S6.out.lt
  have hgr := S6.out.grow
  clear hb6 kE HNO
  have kE := fun i => S6.out.2.1.cell i
  cases q : netOk x with
  | true =>
   have kN := fun i => S6.out.1.cell i
   have fN := fun i => S6.out.1.frozen i
   go_wp2
   generalize hV2 : (World.setCell (World.setCell w6 _ _) _ _) = V2
   have bV : Bk V2 w.heap.size 75 #[.int .i64 x.places, .slice (some ⟨g, 0, none⟩) x.tasks.length c] := by rw [← hV2]; exact (S6.out.1.set 0 _).set 1 _
   have hbl : ∀ b, w.heap.size + 1 ≤ b → V2.heap[b]? = w6.heap[b]? := fun b hb => by
    rw [← hV2]
    exact (Below.heap_setCell _ ⟨w.heap.size, 1, none⟩ _ b (by show b ≠ w.heap.size; omega)).trans (Below.heap_setCell _ ⟨w.heap.size, 0, none⟩ _ b (by show b ≠ w.heap.size; omega))
   have hsz : V2.heap.size = w6.heap.size := by rw [← hV2]; simp [World.setCell]
   have gV := (S6.out.2.2.1.kept (by rw [hsz]; exact Nat.le_refl _) fun b h1 _ => hbl b h1).low (Nat.le_succ w.heap.size)
   have tV : Turned R w V2 := by rw [← hV2]; exact S6.out.2.2.2.2.1.trans' (((Below.refl _ _).setCell (p := ⟨w.heap.size, 0, none⟩) (Nat.le_refl _) _).setCell (p := ⟨w.heap.size, 1, none⟩) (Nat.le_refl _) _)
   have rV : RdB V2 R (P + 300) := by rw [← hV2]; exact (S6.out.rd.low (((Below.refl w.heap.size _).setCell (p := ⟨w.heap.size, 0, none⟩) (Nat.le_refl _) _).setCell (p := ⟨w.heap.size, 1, none⟩) (Nat.le_refl _) _) hR).mono (by omega)
   clear hV2 kE kN fN hbl hsz
   have k1 := fun i => bV.cell i
   refine bodyPost_ret (v := .agg #[.int .i64 x.places, .slice (some ⟨g, 0, none⟩) x.tasks.length c]) (by simp [results, Try.results58, go_sem, k1]) rfl ?_
   exact ⟨x, g, c, rfl, gV, q, rV, tV⟩
  | false =>
   have kN := fun o1 o2 o3 i => (((S6.out.1.alloc o1).alloc o2).alloc o3).cell i
   have fN := fun o1 o2 o3 i => (((S6.out.1.alloc o1).alloc o2).alloc o3).frozen i
   clear kE
   go_wp2
   generalize hV2 : (World.setCell (World.setCell (World.alloc (World.alloc (World.alloc w6 _) _) _) _ _) _ _) = V2
   have bV : Bk V2 w.heap.size 75 #[.int .i64 2, .slice (some ⟨w6.heap.size + 1 + 1, 0, none⟩) 1 1] := by rw [← hV2]; exact ((((S6.out.1.alloc _).alloc _).alloc _).set 0 _).set 1 _
   have hNS := S6.out.2.2.2.2.2.2
   have bI : Bk V2 w6.heap.size 3 (iv [0]).toArray := by rw [← hV2]; exact ((((Bk.new rfl).alloc _).alloc _).far (p := ⟨w.heap.size, 0, none⟩) (by show w6.heap.size ≠ w.heap.size; omega) _).far (p := ⟨w.heap.size, 1, none⟩) (by show w6.heap.size ≠ w.heap.size; omega) _
   have bF : Bk V2 (w6.heap.size + 1) 102 (GFlow.cells ⟨1, ⟨0, 0, 0⟩⟩).toArray := by rw [← hV2]; exact (((Bk.new (by simp)).alloc _).far (p := ⟨w.heap.size, 0, none⟩) (by show w6.heap.size + 1 ≠ w.heap.size; omega) _).far (p := ⟨w.heap.size, 1, none⟩) (by show w6.heap.size + 1 ≠ w.heap.size; omega) _
   have bT : Bk V2 (w6.heap.size + 1 + 1) 99 #[.int .i64 1, .int .i64 1, .slice (some ⟨w6.heap.size, 0, none⟩) 1 1, .slice (some ⟨w6.heap.size + 1, 0, none⟩) 1 1, .slice none 0 0, .int .i64 1, .int .i64 (-1), .int .i64 1, .int .i64 1] := by rw [← hV2]; exact ((Bk.new (by simp)).far (p := ⟨w.heap.size, 0, none⟩) (by show w6.heap.size + 1 + 1 ≠ w.heap.size; omega) _).far (p := ⟨w.heap.size, 1, none⟩) (by show w6.heap.size + 1 + 1 ≠ w.heap.size; omega) _
   have tV : Turned R w V2 := by rw [← hV2]; exact (((S6.out.2.2.2.2.1.alloc _).alloc _).alloc _).trans' (((Below.refl _ _).setCell (p := ⟨w.heap.size, 0, none⟩) (Nat.le_refl _) _).setCell (p := ⟨w.heap.size, 1, none⟩) (Nat.le_refl _) _)
   have rV : RdB V2 R (P + 300) := by rw [← hV2]; exact ((S6.out.rd.grown ((((Below.refl _ _).alloc (Nat.le_refl _) _).alloc (by simp) _).alloc (by simp; omega) _)).low (((Below.refl w.heap.size _).setCell (p := ⟨w.heap.size, 0, none⟩) (Nat.le_refl _) _).setCell (p := ⟨w.heap.size, 1, none⟩) (Nat.le_refl _) _) hR).mono (by omega)
   clear hV2 kN fN
   have k1 := fun i => bV.cell i
   refine bodyPost_ret (v := .agg #[.int .i64 2, .slice (some ⟨w6.heap.size + 1 + 1, 0, none⟩) 1 1]) (by simp [results, Try.results58, go_sem, k1]) rfl ?_
   refine ⟨netLast, w6.heap.size + 1 + 1, 1, rfl, ⟨by omega, ⟨_, _, bT⟩, fun j hj => ?_⟩, netLast_ok, rV, tV⟩
   obtain rfl : j = 0 := by simp [netLast] at hj; omega
   refine ⟨[.int .i64 1, .int .i64 1, .slice (some ⟨w6.heap.size, 0, none⟩) 1 1, .slice (some ⟨w6.heap.size + 1, 0, none⟩) 1 1, .slice none 0 0, .int .i64 1, .int .i64 (-1), .int .i64 1, .int .i64 1], ⟨_, 1, _, 1, none, 0, rfl, ⟨rows_made [0] bI (by simp) (by omega), fun b off _ hA => by cases hA; omega⟩, ⟨rows_bk1 (k := 4) (cells := GFlow.cells) (hk := fun _ => rfl) ⟨1, ⟨0, 0, 0⟩⟩ bF (by omega), fun b off _ hA => by cases hA; omega⟩, SlR.nil⟩, fun i u hu => ?_⟩
   rw [Nat.zero_mul, Nat.zero_add, bT.cell]
   simpa using hu
end Go.Proofs.Ytjieilicjdoaaaa
