/- A net, people and a case drawn: what is at hand on the way. -/
import Derived.Test.YtjieilicjdoaaaaStepS
import Derived.Test.YtjieilicjdoaaaaDrawNet
import Derived.Test.YtjieilicjdoaaaaGPeop
import Derived.Test.YtjieilicjdoaaaaDrawAny
import Derived.Test.YtjieilicjdoaaaaBusyC
import Derived.Test.YtjieilicjdoaaaaGNew
import Derived.Test.YtjieilicjdoaaaaGStep
import Derived.Deep.QuietTactic
import Derived.Deep.RegionHeld3
namespace Go.Proofs.Ytjieilicjdoaaaa
open Go.RowKit
set_option linter.unusedSimpArgs false
set_option linter.unusedVariables false

theorem wr_rows {w : World} {g lo : Nat} {xs : List Int} (h : Wr w g 3 (iv xs)) (hlo : lo ≤ g) (hl : xs.length ≤ 9223372036854775807) : Rows intC (some lo) w w.heap.size (some ⟨g, 0, none⟩) xs := by
 obtain ⟨cur, hc, ht⟩ := id h
 refine ⟨hl, fun h0 => ⟨g, 0, rfl, ⟨h.lt, fun l hlx => by cases hlx; exact ⟨hlo, cur, _, hc⟩⟩, fun j z hz => ⟨[.int .i64 z], rfl, fun i u hu => ?_⟩⟩⟩
 obtain ⟨b, off, hA, _, hcell⟩ := (h.ints h.lt hl).2 h0
 simp only [Option.some.injEq, Addr.mk.injEq, and_true] at hA
 obtain ⟨rfl, rfl⟩ := hA
 have hi : i = 0 := by
  have := (List.getElem?_eq_some_iff.1 hu).1
  simp at this
  omega
 subst hi
 simp only [List.getElem?_cons_zero, Option.some.injEq] at hu
 subst hu
 rw [show 0 + j * intC.k + 0 = 0 + j from by show 0 + j * 1 + 0 = _; omega]
 exact hcell j z hz
theorem ownI_rows {w : World} {lo : Nat} {A : Option Addr} {xs : List Int} (h : OwnI w lo A xs) (hl : xs.length ≤ 9223372036854775807) : Rows intC (some lo) w w.heap.size A xs := by
 by_cases h0 : 0 < xs.length
 ·
  obtain ⟨g, rfl, hg, hw⟩ := h h0
  exact wr_rows hw hg hl
 ·
  rw [List.length_eq_zero_iff.1 (by omega : xs.length = 0)]
  exact Rows.nil
theorem casNew_data (x : GNet) (d : List Int) : (casNew x d).data.length ≤ d.length := by
 unfold casNew
 split
 ·
  exact Nat.le_refl _
 ·
  exact Nat.zero_le _
theorem new_case {w : World} {base hi : Nat} {A1 A3 : Option Addr} {y : GCase} (h : NewAt w base hi A1 y.marks A3 y.data) (hb : y.busy = []) (hd : y.did = []) (h1 : y.marks.length ≤ 1000) (h3 : y.data.length ≤ 1000) :
  CaseAt (some base) w y A1 none A3 none ∧ DidOwn w base A1 none 0 y := by
 obtain ⟨g1, g3, hg, hm, ha⟩ := h
 refine ⟨⟨?_, by rw [hb]; exact Rows.nil, ?_, by rw [hd]; exact Rows.nil⟩, ?_, ?_⟩
 ·
  by_cases h0 : 0 < y.marks.length
  ·
   obtain ⟨rfl, hw⟩ := hm h0
   exact wr_rows hw hg.1 (by omega)
  ·
   rw [List.length_eq_zero_iff.1 (by omega : y.marks.length = 0)]
   exact Rows.nil
 ·
  by_cases h0 : 0 < y.data.length
  ·
   obtain ⟨rfl, hw⟩ := ha h0
   exact wr_rows hw hg.2.2.1 (by omega)
  ·
   rw [List.length_eq_zero_iff.1 (by omega : y.data.length = 0)]
   exact Rows.nil
 ·
  rw [hd]; exact OwnC.nil _ _
 ·
  intro _ q o _ h4
  cases h4
theorem caseAt_off {m : Option Nat} {w w' : World} {gf : Nat} {y : GCase} {A1 A2 A3 A4 : Option Addr} {c4 : Nat} (h : CaseAt m w y A1 A2 A3 A4) (ho : CaseOff gf y A1 A2 A3 A4 c4) (hb : ∀ b, b ≠ gf → w'.heap[b]? = w.heap[b]?) (hs : w.heap.size ≤ w'.heap.size) : CaseAt m w' y A1 A2 A3 A4 :=
 ⟨(rows_keep1 h.1 fun b o h0 hA _ _ => hb b (ho.1 h0 b o hA)).more hs, (rows_keep1 h.2.1 fun b o h0 hA _ _ => hb b (ho.2.1 h0 b o hA)).more hs, (rows_keep1 h.2.2.1 fun b o h0 hA _ _ => hb b (ho.2.2.1 h0 b o hA)).more hs, (rows_keep1 h.2.2.2 fun b o h0 hA _ _ => hb b (ho.2.2.2 b (by rw [hA]; rfl))).more hs⟩
theorem grown_off {w w' : World} {gf B : Nat} (hb : Below B w w') (ho : ∀ b, b ≠ gf → w'.heap[b]? = w.heap[b]?) : w.grownBy w' (some gf) :=
 ⟨hb.os, hb.tape, hb.output, hb.size, fun b _ hne => ho b fun he => hne (by rw [he])⟩
theorem rows_up {α : Type} {k : Nat} {cells : α → List Value} {hk : ∀ x, (cells x).length = k} {a lo : Nat} {w : World} {B : Nat} {A : Option Addr} {xs : List α} (h : Rows (flat k cells hk) (some a) w B A xs) (hu : 0 < xs.length → ∀ q o : Nat, A = some ⟨q, o, none⟩ → lo ≤ q) : Rows (flat k cells hk) (some lo) w B A xs :=
 ⟨h.1, fun h0 => by
  obtain ⟨b, off, hA, hok, hc⟩ := h.2 h0
  exact ⟨b, off, hA, ⟨hok.1, fun l hl => by cases hl; exact ⟨hu h0 b off hA, (hok.2 a rfl).2⟩⟩, hc⟩⟩
theorem put2 {w : World} {g : Nat} {t : TypeId} {a0 a1 b0 b1 : Value} (h : Bk w g t #[a0, a1]) :
  Bk (World.setCell (World.setCell w ⟨g, 0, none⟩ b0) ⟨g, 1, none⟩ b1) g t #[b0, b1] ∧ (∀ (B : Nat) (w0 : World), B ≤ g → Below B w0 w → Below B w0 (World.setCell (World.setCell w ⟨g, 0, none⟩ b0) ⟨g, 1, none⟩ b1)) ∧ (∀ b, b ≠ g → (World.setCell (World.setCell w ⟨g, 0, none⟩ b0) ⟨g, 1, none⟩ b1).heap[b]? = w.heap[b]?) :=
 ⟨(h.set 0 _).set 1 _, fun B w0 hB h0 => (h0.setCell (p := ⟨g, 0, none⟩) hB _).setCell (p := ⟨g, 1, none⟩) hB _, fun b hb => (Below.heap_setCell _ ⟨g, 1, none⟩ _ b hb).trans (Below.heap_setCell _ ⟨g, 0, none⟩ _ b hb)⟩
theorem marksJ (R P : Nat) (z : Int) (n : Int) (w : World) (h : RdB w R P) (hP : P ≤ 800000) (hz : 0 ≤ z) (hz2 : z ≤ 10) (hn : n ≤ 1000) :
  Calls Try.prog 64 #[.pointer (some ⟨R, 0, none⟩), .int .i64 z, .int .i64 n] w (DrawnM R (P + 40) w) := by
 obtain ⟨p, rfl⟩ := Int.eq_ofNat_of_zero_le hz
 exact l20Marks R P p n w h hP (by omega) hn
theorem lit5 (a b c d e : Int) (k : Nat) (hk : k < 5) (h : ∀ z ∈ [a, b, c, d, e], 0 ≤ z ∧ z ≤ 16) : ∃ z : Int, (iv [a, b, c, d, e]).toArray[k]? = some (.int .i64 z) ∧ 0 ≤ z ∧ z ≤ 16 := by
 rcases (by omega : k = 0 ∨ k = 1 ∨ k = 2 ∨ k = 3 ∨ k = 4) with rfl | rfl | rfl | rfl | rfl
 ·
  exact ⟨a, rfl, h a (by simp)⟩
 ·
  exact ⟨b, rfl, h b (by simp)⟩
 ·
  exact ⟨c, rfl, h c (by simp)⟩
 ·
  exact ⟨d, rfl, h d (by simp)⟩
 ·
  exact ⟨e, rfl, h e (by simp)⟩

/-- What a drawn case leaves, as far as it is asked for: its marks and what was done read as lists. -/
def DrawnCase (R Q : Nat) (w : World) (e : Ending) (w' : World) : Prop :=
 ∃ (na : Int) (nA : Option Addr) (nn nc : Nat) (Pe : Value) (y : GCase) (D1 : Option Addr) (j1 : Nat) (D2 : Option Addr) (j2 : Nat) (D3 : Option Addr) (j3 : Nat) (D4 : Option Addr) (j4 : Nat),
  e = .returned (.tuple #[.agg #[.int .i64 na, .slice nA nn nc], Pe, .agg (caseCells y D1 j1 D2 j2 D3 j3 D4 j4)]) ∧ Rows intC (some (R + 1)) w' w'.heap.size D1 y.marks ∧ Rows didC (some (R + 1)) w' w'.heap.size D4 y.did ∧ y.marks.length ≤ 20 ∧ y.did.length ≤ 200 ∧ RdB w' R Q ∧ Turned R w w'
/-- The reader, and all that lay at u. -/
def StB (R P : Nat) (u W : World) : Prop := RdB W R P ∧ Turned R u W
section
variable {R P Q : Nat} {u W W' : World}
theorem StB.pick (h : StB R P u W) (hr : RdB W' R Q) (ht : Turned R W W') : StB R Q u W' := ⟨hr, h.2.trans ht⟩
theorem StB.more (h : StB R P u W) (hb : Below W.heap.size W W') : StB R P u W' := ⟨h.1.grown hb, h.2.then hb⟩
theorem StB.low (h : StB R P u W) (hb : Below u.heap.size W W') (hR : R < u.heap.size) : StB R P u W' := ⟨h.1.low hb hR, turned_low h.2 hb⟩
end
/-- A case in a box of the call's own. -/
def CsA (R P : Nat) (u : World) (g9 : Nat) (W : World) : Prop :=
 StB R P u W ∧ u.heap.size ≤ g9 ∧ ∃ (y : GCase) (A1 : Option Addr) (c1 : Nat) (A2 : Option Addr) (c2 : Nat) (A3 : Option Addr) (c3 : Nat) (A4 : Option Addr) (c4 : Nat),
  Bk W g9 43 (caseCells y A1 c1 A2 c2 A3 c3 A4 c4) ∧ CaseAt (some (R + 1)) W y A1 A2 A3 A4 ∧ caseFew y ∧ y.busy.length ≤ c2 ∧ DidOwn W (R + 1) A1 A4 c4 y ∧ (∀ gf, (gf < u.heap.size ∨ gf = g9) → CaseOff gf y A1 A2 A3 A4 c4)
theorem CsA.pick {R P Q : Nat} {u W W' : World} {g9 : Nat} (h : CsA R P u g9 W) (hu : R < u.heap.size) (hr : RdB W' R Q) (ht : Turned R W W') : CsA R Q u g9 W' := by
 obtain ⟨h0, h1, y, A1, c1, A2, c2, A3, c3, A4, c4, a, b, c, d, e, f⟩ := h
 exact ⟨h0.pick hr ht, h1, y, A1, c1, A2, c2, A3, c3, A4, c4, a.turned ht (by omega), b.turned ht, c, d, e.turned ht, f⟩
theorem CsA.more {R P : Nat} {u W W' : World} {g9 : Nat} (h : CsA R P u g9 W) (hb : Below W.heap.size W W') : CsA R P u g9 W' := by
 obtain ⟨h0, h1, y, A1, c1, A2, c2, A3, c3, A4, c4, a, b, c, d, e, f⟩ := h
 exact ⟨h0.more hb, h1, y, A1, c1, A2, c2, A3, c3, A4, c4, a.later hb, b.later hb, c, d, e.kept (Kept.of_below hb), f⟩
theorem CsA.mono {R P Q : Nat} {u W : World} {g9 : Nat} (h : CsA R P u g9 W) (hQ : P ≤ Q) : CsA R Q u g9 W := ⟨⟨h.1.1.mono hQ, h.1.2⟩, h.2⟩
/-- A case put into its box. -/
theorem CsA.put {R P : Nat} {u W V : World} {g9 : Nat} {y : GCase} {A1 A2 A3 A4 : Option Addr} {c1 c2 c3 c4 : Nat} (h : StB R P u W) (hu : R < u.heap.size) (h9 : u.heap.size ≤ g9) (hV : Bk V g9 43 (caseCells y A1 c1 A2 c2 A3 c3 A4 c4)) (hbe : Below u.heap.size W V) (ho : ∀ b, b ≠ g9 → V.heap[b]? = W.heap[b]?)
  (hc : CaseAt (some (R + 1)) W y A1 A2 A3 A4) (hf : caseFew y) (hcp : y.busy.length ≤ c2) (hd : DidOwn W (R + 1) A1 A4 c4 y) (hoff : ∀ gf, (gf < u.heap.size ∨ gf = g9) → CaseOff gf y A1 A2 A3 A4 c4) : CsA R P u g9 V :=
 ⟨h.low hbe hu, h9, y, A1, c1, A2, c2, A3, c3, A4, c4, hV, caseAt_off hc (hoff g9 (.inr rfl)) ho hbe.size, hf, hcp, ⟨ownC_apart' hd.1 (grown_off hbe ho) fun q hq he => (hoff g9 (.inr rfl)).2.2.2 q hq (by cases he; rfl), hd.2⟩, hoff⟩

/-- The end of l21Case: the three boxes of the results, the net's, the case's. -/
structure EndSt (R Q : Nat) (w : World) (lo N1 g9 : Nat) (nc : Array Value) (y : GCase) (A1 : Option Addr) (c1 : Nat) (A2 : Option Addr) (c2 : Nat) (A3 : Option Addr) (c3 : Nat) (A4 : Option Addr) (c4 : Nat) (cs0 cs1 : Array Value) (W : World) : Prop where
 rd : RdB W R Q
 tw : Turned R w W
 b0 : Bk W w.heap.size 75 cs0
 b1 : Bk W (w.heap.size + 1) 43 cs1
 bn : Bk W N1 75 nc
 bc : Bk W g9 43 (caseCells y A1 c1 A2 c2 A3 c3 A4 c4)
 mks : Rows intC (some lo) W W.heap.size A1 y.marks
 dd : Rows didC (some lo) W W.heap.size A4 y.did
 mo : 0 < y.marks.length → ∀ q o : Nat, A1 = some ⟨q, o, none⟩ → q ≠ g9
 do_ : 0 < y.did.length → ∀ q o : Nat, A4 = some ⟨q, o, none⟩ → q ≠ g9
 ml : y.marks.length ≤ 20
 dl : y.did.length ≤ 200
 hw : R < w.heap.size
 hn : w.heap.size + 2 ≤ N1
 hn2 : N1 < lo
 h9 : lo ≤ g9
section
variable {R Q Q' : Nat} {w W W' V : World} {lo N1 g9 : Nat} {nc : Array Value} {y : GCase} {A1 : Option Addr} {c1 : Nat} {A2 : Option Addr} {c2 : Nat} {A3 : Option Addr} {c3 : Nat} {A4 : Option Addr} {c4 : Nat} {cs0 cs1 : Array Value}
theorem EndSt.pick (h : EndSt R Q w lo N1 g9 nc y A1 c1 A2 c2 A3 c3 A4 c4 cs0 cs1 W) (hr : RdB W' R Q') (ht : Turned R W W') : EndSt R Q' w lo N1 g9 nc y A1 c1 A2 c2 A3 c3 A4 c4 cs0 cs1 W' := by
 obtain ⟨rd, tw, b0, b1, bn, bc, mk, dd, mo, do_, ml, dl, hw, hn, hn2, h9⟩ := h
 exact ⟨hr, tw.trans ht, b0.turned ht (by omega), b1.turned ht (by omega), bn.turned ht (by omega), bc.turned ht (by omega), rowsT mk ht (by omega), rowsT dd ht (by omega), mo, do_, ml, dl, hw, hn, hn2, h9⟩
theorem EndSt.more (h : EndSt R Q w lo N1 g9 nc y A1 c1 A2 c2 A3 c3 A4 c4 cs0 cs1 W) (hb : Below W.heap.size W W') : EndSt R Q w lo N1 g9 nc y A1 c1 A2 c2 A3 c3 A4 c4 cs0 cs1 W' := by
 obtain ⟨rd, tw, b0, b1, bn, bc, mk, dd, mo, do_, ml, dl, hw, hn, hn2, h9⟩ := h
 exact ⟨rd.grown hb, tw.then hb, b0.later hb, b1.later hb, bn.later hb, bc.later hb, mk.later hb, dd.later hb, mo, do_, ml, dl, hw, hn, hn2, h9⟩
/-- One of the results' boxes written. -/
theorem EndSt.put (h : EndSt R Q w lo N1 g9 nc y A1 c1 A2 c2 A3 c3 A4 c4 cs0 cs1 W) {gb : Nat} (hgb : gb = w.heap.size ∨ gb = w.heap.size + 1) {cs0' cs1' : Array Value} (hbe : Below w.heap.size W V) (ho : ∀ b, b ≠ gb → V.heap[b]? = W.heap[b]?)
  (b0' : Bk V w.heap.size 75 cs0') (b1' : Bk V (w.heap.size + 1) 43 cs1') : EndSt R Q w lo N1 g9 nc y A1 c1 A2 c2 A3 c3 A4 c4 cs0' cs1' V := by
 obtain ⟨rd, tw, b0, b1, bn, bc, mk, dd, mo, do_, ml, dl, hw, hn, hn2, h9⟩ := h
 have hk : Kept lo W V := ⟨hbe.size, fun b hb hl => ho b (by omega)⟩
 exact ⟨rd.low hbe hw, turned_low tw hbe, b0', b1', (ho _ (by omega)).trans bn, (ho _ (by omega)).trans bc, rows_kept mk hk, rows_kept dd hk, mo, do_, ml, dl, hw, hn, hn2, h9⟩
/-- A field of the case written. -/
theorem EndSt.field (h : EndSt R Q w lo N1 g9 nc y A1 c1 A2 c2 A3 c3 A4 c4 cs0 cs1 W) (i : Nat) (v : Value) {y' : GCase} {B1 : Option Addr} {d1 : Nat} {B2 : Option Addr} {d2 : Nat} {B3 : Option Addr} {d3 : Nat} {B4 : Option Addr} {d4 : Nat} (hc : (caseCells y A1 c1 A2 c2 A3 c3 A4 c4).setIfInBounds i v = caseCells y' B1 d1 B2 d2 B3 d3 B4 d4)
  (mk' : Rows intC (some lo) W W.heap.size B1 y'.marks) (mo' : 0 < y'.marks.length → ∀ q o : Nat, B1 = some ⟨q, o, none⟩ → q ≠ g9) (dd' : Rows didC (some lo) W W.heap.size B4 y'.did) (do' : 0 < y'.did.length → ∀ q o : Nat, B4 = some ⟨q, o, none⟩ → q ≠ g9) (ml' : y'.marks.length ≤ 20) (dl' : y'.did.length ≤ 200) :
  EndSt R Q w lo N1 g9 nc y' B1 d1 B2 d2 B3 d3 B4 d4 cs0 cs1 (W.setCell ⟨g9, i, none⟩ v) := by
 obtain ⟨rd, tw, b0, b1, bn, bc, mk, dd, mo, do_, ml, dl, hw, hn, hn2, h9⟩ := h
 have ho : ∀ b, b ≠ g9 → (W.setCell ⟨g9, i, none⟩ v).heap[b]? = W.heap[b]? := fun b hb => Below.heap_setCell _ ⟨g9, i, none⟩ _ b hb
 have hbe : Below (w.heap.size + 2) W (W.setCell ⟨g9, i, none⟩ v) := (Below.refl _ _).setCell (p := ⟨g9, i, none⟩) (by show _ ≤ g9; omega) _
 have hsz : (W.setCell ⟨g9, i, none⟩ v).heap.size = W.heap.size := by simp [World.setCell]
 refine ⟨rd.low hbe (by omega), turned_low tw (hbe.mono (by omega)), (ho _ (by omega)).trans b0, (ho _ (by omega)).trans b1, (ho _ (by omega)).trans bn, by rw [← hc]; exact bc.set i v, ?_, ?_, mo', do', ml', dl', hw, hn, hn2, h9⟩
 ·
  rw [hsz]; exact rows_keep1 mk' fun b o h0 hA _ _ => ho b (mo' h0 b o hA)
 ·
  rw [hsz]; exact rows_keep1 dd' fun b o h0 hA _ _ => ho b (do' h0 b o hA)
/-- What was done grown by one. -/
theorem EndSt.app (h : EndSt R Q w lo N1 g9 nc y A1 c1 A2 c2 A3 c3 A4 c4 cs0 cs1 W) {ob : Option Nat} (hg : W.grownBy V ob) (hob : ∀ q, ob = some q → lo ≤ q ∧ q ≠ g9 ∧ (0 < y.marks.length → ∀ q' o : Nat, A1 = some ⟨q', o, none⟩ → q' ≠ q)) (hbe : Below lo W V) {B4 : Option Addr} {d4 : Nat} {ds : List GDid}
  (dd' : Rows didC (some lo) V V.heap.size B4 ds) (do' : 0 < ds.length → ∀ q o : Nat, B4 = some ⟨q, o, none⟩ → q ≠ g9) (dl' : ds.length ≤ 200) :
  EndSt R Q w lo N1 g9 nc ⟨y.state, y.marks, y.busy, y.data, ds⟩ A1 c1 A2 c2 A3 c3 B4 d4 cs0 cs1 (V.setCell ⟨g9, 4, none⟩ (.slice B4 ds.length d4)) := by
 obtain ⟨rd, tw, b0, b1, bn, bc, mk, dd, mo, do_, ml, dl, hw, hn, hn2, h9⟩ := h
 have hk : ∀ b, b < W.heap.size → (∀ q, ob = some q → b ≠ q) → V.heap[b]? = W.heap[b]? := fun b hb hq => hg.block b hb fun he => hq b he.symm rfl
 have l0 := b0.lt
 have l1 := b1.lt
 have ln := bn.lt
 have lc := bc.lt
 have mk' : Rows intC (some lo) V V.heap.size A1 y.marks := (rows_keep1 mk fun b o h0 hA hB _ => hk b hB fun q hq => (hob q hq).2.2 h0 b o hA).more hg.size
 have bc' : Bk V g9 43 (caseCells y A1 c1 A2 c2 A3 c3 A4 c4) := (hk _ lc fun q hq he => (hob q hq).2.1 he.symm).trans bc
 have ho : ∀ b, b ≠ g9 → (V.setCell ⟨g9, 4, none⟩ (.slice B4 ds.length d4)).heap[b]? = V.heap[b]? := fun b hb => Below.heap_setCell _ ⟨g9, 4, none⟩ _ b hb
 have hbe2 : Below lo W (V.setCell ⟨g9, 4, none⟩ (.slice B4 ds.length d4)) := hbe.setCell (p := ⟨g9, 4, none⟩) h9 _
 have hsz : (V.setCell ⟨g9, 4, none⟩ (.slice B4 ds.length d4)).heap.size = V.heap.size := by simp [World.setCell]
 refine ⟨rd.low hbe2 (by omega), turned_low tw (hbe2.mono (by omega)), (hbe2.block _ (by omega)).trans b0, (hbe2.block _ (by omega)).trans b1, (hbe2.block _ (by omega)).trans bn, bc'.set 4 _, ?_, ?_, mo, do', ml, dl', hw, hn, hn2, h9⟩
 ·
  rw [hsz]; exact rows_keep1 mk' fun b o h0 hA _ _ => ho b (mo h0 b o hA)
 ·
  rw [hsz]; exact rows_keep1 dd' fun b o h0 hA _ _ => ho b (do' h0 b o hA)
end
end Go.Proofs.Ytjieilicjdoaaaa
