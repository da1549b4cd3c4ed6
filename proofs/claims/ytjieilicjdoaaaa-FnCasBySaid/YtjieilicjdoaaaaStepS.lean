/- A step of a case drawn: l21Step. -/
import Derived.Test.YtjieilicjdoaaaaWorkS
import Derived.Test.YtjieilicjdoaaaaStartS
import Derived.Test.YtjieilicjdoaaaaGCopy
import Derived.Deep.QuietTactic
import Derived.Deep.RegionHeld3
namespace Go.Proofs.Ytjieilicjdoaaaa
open Go.RowKit
open List renaming getElem_toArray → sA, getElem_cons_succ → sB, getElem_cons_zero → sC, setIfInBounds_toArray → sD, set_cons_zero → sE, set_cons_succ → sF
set_option linter.unusedSimpArgs false
set_option linter.unusedVariables false

theorem rowsT {α : Type} {C : Cod α} {lo R : Nat} {w w' : World} {A : Option Addr} {xs : List α} (h : Rows C (some lo) w w.heap.size A xs) (ht : Turned R w w') (hR : R < lo) : Rows C (some lo) w' w'.heap.size A xs :=
 (h.keep fun b hb hl => ht.block b hb (by have := hl _ rfl; omega)).more ht.size
theorem caseAt_agree {m : Option Nat} {w w' : World} {y : GCase} {A1 A2 A3 A4 : Option Addr} (h : CaseAt m w y A1 A2 A3 A4) (ha : Agree m w.heap.size w w') (hs : w.heap.size ≤ w'.heap.size) : CaseAt m w' y A1 A2 A3 A4 :=
 ⟨(h.1.keep ha).more hs, (h.2.1.keep ha).more hs, (h.2.2.1.keep ha).more hs, (h.2.2.2.keep ha).more hs⟩
theorem CaseAt.turned {R : Nat} {w w' : World} {y : GCase} {A1 A2 A3 A4 : Option Addr} (h : CaseAt (some (R + 1)) w y A1 A2 A3 A4) (ht : Turned R w w') : CaseAt (some (R + 1)) w' y A1 A2 A3 A4 :=
 caseAt_agree h (ht.agree (Nat.lt_succ_self _) (Nat.le_refl _)) ht.size
theorem DidOwn.kept {w w' : World} {base : Nat} {D1 D4 : Option Addr} {j4 : Nat} {y : GCase} (h : DidOwn w base D1 D4 j4 y) (hk : Kept base w w') : DidOwn w' base D1 D4 j4 y := ⟨h.1.kept hk, h.2⟩
theorem DidOwn.low {w : World} {base base' : Nat} {D1 D4 : Option Addr} {j4 : Nat} {y : GCase} (h : DidOwn w base D1 D4 j4 y) (hb : base' ≤ base) : DidOwn w base' D1 D4 j4 y := ⟨ownC_low h.1 hb, h.2⟩
theorem DidOwn.turned {R : Nat} {w w' : World} {D1 D4 : Option Addr} {j4 : Nat} {y : GCase} (h : DidOwn w (R + 1) D1 D4 j4 y) (ht : Turned R w w') : DidOwn w' (R + 1) D1 D4 j4 y := h.kept ⟨ht.size, fun b hb hl => ht.block b hb (by omega)⟩
theorem turned_low {R : Nat} {a b c : World} (h : Turned R a b) (k : Below a.heap.size b c) : Turned R a c :=
 ⟨k.os.trans h.os, k.tape.trans h.tape, k.output.trans h.output, Nat.le_trans h.size k.size, fun i hi hr => (k.block i hi).trans (h.block i hi hr)⟩

/-- None of a case's slices lies in block gf. -/
def CaseOff (gf : Nat) (y : GCase) (A1 A2 A3 A4 : Option Addr) (c4 : Nat) : Prop :=
 (0 < y.marks.length → ∀ q o : Nat, A1 = some ⟨q, o, none⟩ → q ≠ gf) ∧ (0 < y.busy.length → ∀ q o : Nat, A2 = some ⟨q, o, none⟩ → q ≠ gf) ∧ (0 < y.data.length → ∀ q o : Nat, A3 = some ⟨q, o, none⟩ → q ≠ gf) ∧ (∀ q, Value.ownBlock (.slice A4 y.did.length c4) = some q → q ≠ gf)
theorem caseOff_of {gf lo : Nat} {w : World} {y : GCase} {A1 A2 A3 A4 : Option Addr} {c4 : Nat} (h : CaseAt (some lo) w y A1 A2 A3 A4) (hd : DidOwn w lo A1 A4 c4 y) (hg : gf < lo) : CaseOff gf y A1 A2 A3 A4 c4 :=
 ⟨fun h0 q o hA => by have := (rows_lo h.1 h0 q o hA).1; omega, fun h0 q o hA => by have := (rows_lo h.2.1 h0 q o hA).1; omega, fun h0 q o hA => by have := (rows_lo h.2.2.1 h0 q o hA).1; omega, fun q hq => by have := (hd.1.lt q hq).1; omega⟩
/-- What a drawn step of a case leaves: some case, the reader kept. -/
def StepsCase (off : Nat → Prop) (R Q : Nat) (w : World) (e : Ending) (w' : World) : Prop :=
 ∃ (y : GCase) (D1 : Option Addr) (j1 : Nat) (D2 : Option Addr) (j2 : Nat) (D3 : Option Addr) (j3 : Nat) (D4 : Option Addr) (j4 : Nat),
  e = .returned (.agg (caseCells y D1 j1 D2 j2 D3 j3 D4 j4)) ∧ CaseAt (some (R + 1)) w' y D1 D2 D3 D4 ∧ caseFew y ∧ y.busy.length ≤ j2 ∧ DidOwn w' (R + 1) D1 D4 j4 y ∧ (∀ gf, gf < w.heap.size → off gf → CaseOff gf y D1 D2 D3 D4 j4) ∧ RdB w' R Q ∧ Turned R w w'
/-- The three boxes of a step, and the reader. -/
def StSt (R P : Nat) (w : World) (nc cc : Array Value) (W : World) : Prop :=
 Bk W w.heap.size 75 nc ∧ Bk W (w.heap.size + 1) 43 cc ∧ Bk W (w.heap.size + 2) 43 #[.int .i64 0, .slice none 0 0, .slice none 0 0, .slice none 0 0, .slice none 0 0] ∧ RdB W R P ∧ Turned R w W
section
variable {R P Q : Nat} {w W W' : World} {nc cc : Array Value}
theorem StSt.lt (h : StSt R P w nc cc W) : w.heap.size + 3 ≤ W.heap.size := h.2.2.1.lt
theorem StSt.pick (h : StSt R P w nc cc W) (hR : R < w.heap.size) (hr : RdB W' R Q) (ht : Turned R W W') : StSt R Q w nc cc W' :=
 ⟨h.1.turned ht (by omega), h.2.1.turned ht (by omega), h.2.2.1.turned ht (by omega), hr, h.2.2.2.2.trans ht⟩
theorem StSt.low (h : StSt R P w nc cc W) (hb : Below (w.heap.size + 3) W W') (hR : R < w.heap.size) : StSt R P w nc cc W' :=
 ⟨(hb.block _ (by omega)).trans h.1, (hb.block _ (by omega)).trans h.2.1, (hb.block _ (by omega)).trans h.2.2.1, h.2.2.2.1.low hb (by omega), turned_low h.2.2.2.2 (hb.mono (by omega))⟩
theorem StSt.more (h : StSt R P w nc cc W) (hb : Below W.heap.size W W') : StSt R P w nc cc W' :=
 ⟨h.1.later hb, h.2.1.later hb, h.2.2.1.later hb, h.2.2.2.1.grown hb, h.2.2.2.2.then hb⟩
theorem StSt.mono (h : StSt R P w nc cc W) (hQ : P ≤ Q) : StSt R Q w nc cc W := ⟨h.1, h.2.1, h.2.2.1, h.2.2.2.1.mono hQ, h.2.2.2.2⟩
end
/-- A row of ints behind the reader, cell by cell. -/
def IntsAt (R bm om : Nat) (ms : List Int) (W : World) : Prop := R < bm ∧ bm < W.heap.size ∧ ∀ (j : Nat) (z : Int), ms[j]? = some z → W.cell? ⟨bm, om + j, none⟩ = some (.int .i64 z)
section
variable {R bm om : Nat} {ms : List Int} {W W' : World}
theorem IntsAt.turned (h : IntsAt R bm om ms W) (ht : Turned R W W') : IntsAt R bm om ms W' :=
 ⟨h.1, Nat.lt_of_lt_of_le h.2.1 ht.size, fun j z hz => (World.cell?_of_block (a := ⟨bm, om + j, none⟩) (ht.block bm h.2.1 (by have := h.1; omega))).trans (h.2.2 j z hz)⟩
theorem IntsAt.more (h : IntsAt R bm om ms W) (hb : Below W.heap.size W W') : IntsAt R bm om ms W' :=
 ⟨h.1, Nat.lt_of_lt_of_le h.2.1 hb.size, fun j z hz => (hb.cell (p := ⟨bm, om + j, none⟩) h.2.1).trans (h.2.2 j z hz)⟩
theorem IntsAt.off (h : IntsAt R bm om ms W) {gx : Nat} (hne : bm ≠ gx) (ho : ∀ b, b ≠ gx → W'.heap[b]? = W.heap[b]?) (hs : W.heap.size ≤ W'.heap.size) : IntsAt R bm om ms W' :=
 ⟨h.1, Nat.lt_of_lt_of_le h.2.1 hs, fun j z hz => (World.cell?_of_block (a := ⟨bm, om + j, none⟩) (ho bm hne)).trans (h.2.2 j z hz)⟩
theorem IntsAt.of {lo : Nat} {A : Option Addr} (h : Rows intC (some lo) W W.heap.size A ms) (hlo : R < lo) (h0 : 0 < ms.length) : ∃ bm om, A = some ⟨bm, om, none⟩ ∧ IntsAt R bm om ms W := by
 obtain ⟨b, off, hA, hok, hc⟩ := h.2 h0
 obtain ⟨b', off', hA', _, hc'⟩ := h.ints.2 h0
 rw [hA] at hA'
 simp only [Option.some.injEq, Addr.mk.injEq, and_true] at hA'
 obtain ⟨rfl, rfl⟩ := hA'
 exact ⟨b, off, hA, by have := (hok.2 lo rfl).1; omega, hok.1, hc'⟩
end

set_option maxRecDepth 100000 in
set_option maxHeartbeats 8000000 in
theorem l21Step (RB P : Nat) (x : GNet) (A : Option Addr) (c : Nat) (Ap : Option Addr) (cp : Nat) (ps : List Int) (y : GCase) (A1 : Option Addr) (c1 : Nat) (A2 : Option Addr) (c2 : Nat) (A3 : Option Addr) (c3 : Nat) (A4 : Option Addr) (c4 : Nat) (w : World)
  (h : RdB w RB P) (hP : P ≤ 900000) (hx : Rows taskC (some (RB + 1)) w w.heap.size A x.tasks) (hl : x.tasks.length ≤ 1000) (hp : Rows intC (some (RB + 1)) w w.heap.size Ap ps) (hc : CaseAt (some (RB + 1)) w y A1 A2 A3 A4) (hf : caseFew y) (hcap : y.busy.length ≤ c2) (hd : DidOwn w (RB + 1) A1 A4 c4 y) :
  Calls Try.prog 62 #[.pointer (some ⟨RB, 0, none⟩), .agg (netCells x A c), .slice Ap ps.length cp, .agg (caseCells y A1 c1 A2 c2 A3 c3 A4 c4)] w (StepsCase (fun gf => CaseOff gf y A1 A2 A3 A4 c4) RB (P + 10) w) := by
 have HR := Lib.hid h
 have HRlt := Lib.hid h.lt
 have hRl := h.lt
 have HX := Lib.hid hx
 have HP := Lib.hid hp
 have HC := Lib.hid hc
 have HF := Lib.hid hf
 have HCAP := Lib.hid hcap
 have HD := Lib.hid hd
 have np := hp.1
 have hbl : y.busy.length ≤ 20 := hf.2.1
 clear h hx hp hc hf hcap hd
 go_enter Try.func62, Try.ntmps62
 go_upto_region 1 with fail
 generalize hW : World.alloc (World.alloc (World.alloc w _) _) _ = W
 have S : Hid (StSt RB P w (netCells x A c) (caseCells y A1 c1 A2 c2 A3 c3 A4 c4) W) := by
  show StSt _ _ _ _ _ _
  have hb : Below w.heap.size w W := by rw [← hW]; exact ((((Below.refl _ _).alloc (Nat.le_refl _) _).alloc (by simp) _).alloc (by simp; omega) _)
  refine ⟨?_, ?_, ?_, HR.out.low hb HRlt.out, Turned.of_below hb⟩
  ·
   rw [← hW]; exact ((Bk.new rfl).alloc _).alloc _
  ·
   rw [← hW]; exact (Bk.new (by simp)).alloc _
  ·
   rw [← hW]; exact Bk.new (by simp)
 clear hW HR
 go_cut [24] from 16 to 25 (fun s24 wx => (∃ b : Bool, s24 = .bool b ∧ (b = true → 0 < y.busy.length)) ∧ Aside (StSt RB (P + 1) w (netCells x A c) (caseCells y A1 c1 A2 c2 A3 c3 A4 c4) wx))
 case first =>
  have kC := S.out.2.1.cell 2
  rw [show (caseCells y A1 c1 A2 c2 A3 c3 A4 c4)[2]? = some (.slice A2 y.busy.length c2) from rfl] at kC
  obtain ⟨nb, hnb⟩ : ∃ nb, nb = y.busy.length := ⟨_, rfl⟩
  rw [← hnb] at kC
  have HNB := Lib.hid hnb
  clear hnb hbl
  by_cases hb0 : 0 < nb
  ·
   have hb0z : (0 : Int) < (nb : Int) := by omega
   go_wp2_with fail
   refine (l20Rd_pick RB P 3 _ S.out.2.2.2.1 (by omega) (by omega)).mono ?_
   rintro e w1 ⟨v, rfl, hv0, hv1, _, hr, ht⟩
   have S := Lib.hid (S.out.pick HRlt.out hr ht)
   clear hr ht kC hv0 hv1
   go_wp2
   go_meet
   case rel => exact ⟨⟨_, rfl, fun _ => HNB.out ▸ hb0⟩, S.out⟩
  ·
   have hb0z : ¬ (0 : Int) < (nb : Int) := by omega
   go_wp2
   go_meet
   case rel => exact ⟨⟨_, rfl, by simp⟩, S.out.mono (by omega)⟩
 case rest =>
  obtain ⟨⟨b, rfl, hb⟩, S⟩ := hcut
  have S : Hid (StSt RB (P + 1) w (netCells x A c) (caseCells y A1 c1 A2 c2 A3 c3 A4 c4) wc) := S
  cases b with
  | true =>
   have hb0 := hb rfl
   clear hb
   go_upto_region 2 with fail
   have hdr := (Below.refl wc.heap.size wc).drew
   refine wp_region_held_drew (S := (fun V : World => V.cell? ⟨w.heap.size, 0, none⟩ = some (.int .i64 x.places) ∧ V.cell? ⟨w.heap.size, 1, none⟩ = some (.slice A x.tasks.length c) ∧ V.cell? ⟨w.heap.size + 1, 0, none⟩ = some (.int .i64 y.state) ∧ V.cell? ⟨w.heap.size + 1, 1, none⟩ = some (.slice A1 y.marks.length c1) ∧ V.cell? ⟨w.heap.size + 1, 2, none⟩ = some (.slice A2 y.busy.length c2) ∧ V.cell? ⟨w.heap.size + 1, 3, none⟩ = some (.slice A3 y.data.length c3) ∧ V.cell? ⟨w.heap.size + 1, 4, none⟩ = some (.slice A4 y.did.length c4))) (by kernel_rfl) ⟨S.out.1.cell 0, S.out.1.cell 1, S.out.2.1.cell 0, S.out.2.1.cell 1, S.out.2.1.cell 2, S.out.2.1.cell 3, S.out.2.1.cell 4⟩ (fun hHeld => ?_)
   generalize wc.drew = v1 at hdr hHeld ⊢
   have S := Lib.hid (S.out.more hdr)
   clear hdr
   refine tk (i := 0) (v := ?_) rfl (.inl ⟨by rfl, ?_⟩) ?_
   rotate_left
   ·
    intro V hSw; (try dsimp only at hSw); go_simp; (try with_reducible rfl)
   simp only [sA, sB, sC, Act.put, sD, sE, sF]
   refine tk (i := 1) (v := ?_) rfl (.inl ⟨by rfl, ?_⟩) ?_
   rotate_left
   ·
    intro V hSw; (try dsimp only at hSw); go_simp; (try with_reducible rfl)
   simp only [sA, sB, sC, Act.put, sD, sE, sF]
   refine tk (i := 2) (v := ?_) rfl (.inl ⟨by rfl, ?_⟩) ?_
   rotate_left
   ·
    intro V hSw; (try dsimp only at hSw); go_simp; (try with_reducible rfl)
   simp only [sA, sB, sC, Act.put, sD, sE, sF]
   refine tk (i := 3) (v := ?_) rfl (.inl ⟨by rfl, ?_⟩) ?_
   rotate_left
   ·
    intro V hSw; (try dsimp only at hSw); go_simp; (try with_reducible rfl)
   simp only [sA, sB, sC, Act.put, sD, sE, sF]
   refine tk (i := 4) (v := ?_) rfl (.inl ⟨by rfl, ?_⟩) ?_
   rotate_left
   ·
    intro V hSw; (try dsimp only at hSw); go_simp; (try with_reducible rfl)
   simp only [sA, sB, sC, Act.put, sD, sE, sF]
   refine tk (i := 5) (v := ?_) rfl (.inl ⟨by rfl, ?_⟩) ?_
   rotate_left
   ·
    intro V hSw; (try dsimp only at hSw); go_simp; (try with_reducible rfl)
   simp only [sA, sB, sC, Act.put, sD, sE, sF]
   refine tk (i := 7) (v := ?_) rfl (.inl ⟨by rfl, ?_⟩) ?_
   rotate_left
   ·
    intro V hSw; (try dsimp only at hSw); go_simp; (try with_reducible rfl)
   simp only [sA, sB, sC, Act.put, sD, sE, sF]
   refine tk (i := 10) (v := ?_) rfl (.inl ⟨by rfl, ?_⟩) ?_
   rotate_left
   ·
    intro V hSw; (try dsimp only at hSw); go_simp; (try with_reducible rfl)
   simp only [sA, sB, sC, Act.put, sD, sE, sF]
   refine wpAnyH_ready (rs := [6, 17]) (by kernel_rfl) (by simp) ?_
   refine AllReadyH.cons rfl (fun K hK => ?_) (AllReadyH.cons rfl (fun K hK => ?_) AllReadyH.nil)
   ·
    go_simp
    go_wp2_with (go_at_call 47; refine (l20Rd_pick RB (P + 1) (y.busy.length : Int) _ S.out.2.2.2.1 (by omega) (by omega)).mono ?_; rintro e v3 ⟨z1, rfl, hz10, hz11, _, hr, ht⟩)
    have S := Lib.hid (S.out.pick HRlt.out hr ht)
    clear hr ht
    refine hK.out _ _ ⟨S.out.1.cell 0, S.out.1.cell 1, S.out.2.1.cell 0, S.out.2.1.cell 1, S.out.2.1.cell 2, S.out.2.1.cell 3, S.out.2.1.cell 4⟩ (fun hHeld => ?_)
    clear hK K
    refine wpAnyH_ready (rs := [8, 17]) (by kernel_rfl) (by simp) ?_
    refine AllReadyH.cons rfl (fun K hK => ?_) (AllReadyH.cons rfl (fun K hK => ?_) AllReadyH.nil)
    ·
     go_simp
     go_wp2_with (go_at_call 47; refine (l20Rd_pick RB (P + 2) 4 _ S.out.2.2.2.1 (by omega) (by omega)).mono ?_; rintro e v4 ⟨z2, rfl, hz20, hz21, _, hr, ht⟩)
     have S := Lib.hid (S.out.pick HRlt.out hr ht)
     clear hr ht
     refine hK.out _ _ ⟨S.out.1.cell 0, S.out.1.cell 1, S.out.2.1.cell 0, S.out.2.1.cell 1, S.out.2.1.cell 2, S.out.2.1.cell 3, S.out.2.1.cell 4⟩ (fun hHeld => ?_)
     clear hK K
     refine tk (i := 9) (v := ?_) rfl (.inl ⟨by rfl, ?_⟩) ?_
     rotate_left
     ·
      intro V hSw; (try dsimp only at hSw); go_simp; (try with_reducible rfl)
     simp only [sA, sB, sC, Act.put, sD, sE, sF]
     refine wpAnyH_ready (rs := [11, 17]) (by kernel_rfl) (by simp) ?_
     refine AllReadyH.cons rfl (fun K hK => ?_) (AllReadyH.cons rfl (fun K hK => ?_) AllReadyH.nil)
     ·
      go_simp
      go_wp2_with (go_at_call 47; refine (l20Rd_pick RB (P + 3) 7 _ S.out.2.2.2.1 (by omega) (by omega)).mono ?_; rintro e v5 ⟨z3, rfl, hz30, hz31, _, hr, ht⟩)
      have S := Lib.hid (S.out.pick HRlt.out hr ht)
      clear hr ht
      refine hK.out _ _ ⟨S.out.1.cell 0, S.out.1.cell 1, S.out.2.1.cell 0, S.out.2.1.cell 1, S.out.2.1.cell 2, S.out.2.1.cell 3, S.out.2.1.cell 4⟩ (fun hHeld => ?_)
      clear hK K
      refine tk (i := 12) (v := ?_) rfl (.inl ⟨by rfl, ?_⟩) ?_
      rotate_left
      ·
       intro V hSw; (try dsimp only at hSw); go_simp; (try with_reducible rfl)
      simp only [sA, sB, sC, Act.put, sD, sE, sF]
      refine wpAnyH_ready (rs := [13, 17]) (by kernel_rfl) (by simp) ?_
      refine AllReadyH.cons rfl (fun K hK => ?_) (AllReadyH.cons rfl (fun K hK => ?_) AllReadyH.nil)
      ·
       go_simp
       go_wp2_with (go_at_call 70; refine (spec_CasWork x A c y A1 c1 A2 c2 A3 c3 A4 c4 _ _ _ _ _ _ (rowsT HX.out S.out.2.2.2.2 (Nat.lt_succ_self _)) (HC.out.turned S.out.2.2.2.2) HF.out HCAP.out).mono ?_; rintro e v6 ⟨y2, D1, j1, D2, j2, D3, j3, D4, j4, b2, rfl, hca, hfw, hb, hcp, hdo⟩)
       have FW := Lib.hid hfw
       have CP := Lib.hid hcp
       have hlt3 := S.out.lt
       have CA0 := Lib.hid (hca.weak (Weaker.some hlt3))
       have DO0 := Lib.hid (hdo.low hlt3)
       have S := Lib.hid (S.out.more hb)
       clear hca hfw hcp hb hlt3 hdo
       refine hK.out _ _ ⟨S.out.1.cell 0, S.out.1.cell 1, S.out.2.1.cell 0, S.out.2.1.cell 1, S.out.2.1.cell 2, S.out.2.1.cell 3, S.out.2.1.cell 4⟩ (fun hHeld => ?_)
       clear hK K
       refine tk (i := 14) (v := ?_) rfl (.inl ⟨by rfl, ?_⟩) ?_
       rotate_left
       ·
        intro V hSw; (try dsimp only at hSw); go_simp; (try with_reducible rfl)
       simp only [sA, sB, sC, Act.put, sD, sE, sF]
       refine tk (i := 15) (v := ?_) rfl (.inl ⟨by rfl, ?_⟩) ?_
       rotate_left
       ·
        intro V hSw; (try dsimp only at hSw); go_simp; (try with_reducible rfl)
       simp only [sA, sB, sC, Act.put, sD, sE, sF]
       refine tk (i := 16) (v := ?_) rfl (.inl ⟨by rfl, ?_⟩) ?_
       rotate_left
       ·
        intro V hSw; (try dsimp only at hSw); go_simp; (try with_reducible rfl)
       simp only [sA, sB, sC, Act.put, sD, sE, sF]
       refine wpAnyH_ready (rs := [17]) (by kernel_rfl) (by simp) ?_
       refine AllReadyH.cons rfl (fun K hK => ?_) AllReadyH.nil
       go_simp
       generalize hV : World.alloc v6 _ = v7
       have hb : Below v6.heap.size v6 v7 := by rw [← hV]; exact (Below.refl _ _).alloc (Nat.le_refl _) _
       have PX : Hid (Bk v7 v6.heap.size 43 #[.int .i64 0, .slice none 0 0, .slice none 0 0, .slice none 0 0, .slice none 0 0]) := by show Bk _ _ _ _; rw [← hV]; exact Bk.new rfl
       have GX : Hid (w.heap.size + 3 ≤ v6.heap.size) := S.out.lt
       have CA : Hid (∀ V : World, (∀ b, b ≠ v6.heap.size → V.heap[b]? = v7.heap[b]?) → v7.heap.size ≤ V.heap.size → CaseAt (some (w.heap.size + 3)) V y2 D1 D2 D3 D4) := fun V h1 h2 => caseAt_agree CA0.out (fun b hb' _ => (h1 b (by omega)).trans (hb.block b hb')) (Nat.le_trans hb.size h2)
       have DO : Hid (∀ V : World, (∀ b, b ≠ v6.heap.size → V.heap[b]? = v7.heap[b]?) → v7.heap.size ≤ V.heap.size → DidOwn V (w.heap.size + 3) D1 D4 j4 y2) := fun V h1 h2 => DO0.out.kept ⟨Nat.le_trans hb.size h2, fun b hb' _ => (h1 b (by omega)).trans (hb.block b hb')⟩
       clear CA0 DO0
       have S := Lib.hid (S.out.more hb)
       clear hV hb
       generalize v6.heap.size = gx at PX GX CA DO ⊢
       refine hK.out _ _ ⟨S.out.1.cell 0, S.out.1.cell 1, S.out.2.1.cell 0, S.out.2.1.cell 1, S.out.2.1.cell 2, S.out.2.1.cell 3, S.out.2.1.cell 4⟩ (fun hHeld => ?_)
       clear hK K
       refine wpAnyH_ready (rs := [18]) (by kernel_rfl) (by simp) ?_
       refine AllReadyH.cons rfl (fun K hK => ?_) AllReadyH.nil
       have kX := fun i => PX.out.cell i
       have fX := fun i => PX.out.frozen i
       go_simp
       generalize hV : World.setCell (World.setCell (World.setCell (World.setCell (World.setCell v7 _ _) _ _) _ _) _ _) _ _ = v8
       have PY : Hid (Bk v8 gx 43 (caseCells y2 D1 j1 D2 j2 D3 j3 D4 j4)) := by show Bk _ _ _ _; rw [← hV]; exact (put5 PX.out).1
       have hoff : ∀ b, b ≠ gx → v8.heap[b]? = v7.heap[b]? := by rw [← hV]; exact (put5 PX.out).2.2.2
       have hsz : v7.heap.size ≤ v8.heap.size := by rw [← hV]; simp [World.setCell]
       have hbe : Below (w.heap.size + 3) v7 v8 := by rw [← hV]; exact (put5 PX.out).2.2.1 _ _ GX.out (Below.refl _ _)
       have S := Lib.hid (S.out.low hbe HRlt.out)
       have CA := Lib.hid (CA.out _ hoff hsz)
       have DO := Lib.hid (DO.out _ hoff hsz)
       clear hV kX fX hoff hsz hbe PX
       refine hK.out _ _ ⟨S.out.1.cell 0, S.out.1.cell 1, S.out.2.1.cell 0, S.out.2.1.cell 1, S.out.2.1.cell 2, S.out.2.1.cell 3, S.out.2.1.cell 4⟩ (fun hHeld => ?_)
       clear hK K
       refine tk (i := 19) (v := ?_) rfl (.inl ⟨by rfl, ?_⟩) ?_
       rotate_left
       ·
        intro V hSw; (try dsimp only at hSw); go_simp; (try with_reducible rfl)
       simp only [sA, sB, sC, Act.put, sD, sE, sF]
       refine wpAnyH_done (by kernel_rfl) ?_ _
       clear hHeld
       have kX := fun i => PY.out.cell i
       have kZ := fun i => S.out.2.2.1.cell i
       have fZ := fun i => S.out.2.2.1.frozen i
       go_wp2
       generalize hV : World.setCell (World.setCell (World.setCell (World.setCell (World.setCell v8 _ _) _ _) _ _) _ _) _ _ = V
       have hbk : Bk V (w.heap.size + 2) 43 (caseCells y2 D1 j1 D2 j2 D3 j3 D4 j4) := by rw [← hV]; exact (put5 S.out.2.2.1).1
       have hke : Kept (w.heap.size + 3) v8 V := by rw [← hV]; exact (put5 S.out.2.2.1).2.1 _ (by omega)
       have hbe : Below w.heap.size v8 V := by rw [← hV]; exact (put5 S.out.2.2.1).2.2.1 _ _ (by omega) (Below.refl _ _)
       clear hV kZ fZ kX
       have k1 := fun i => hbk.cell i
       have hT := turned_low S.out.2.2.2.2 hbe
       have hR := (S.out.2.2.2.1.low hbe HRlt.out).mono (show _ ≤ P + 10 by omega)
       refine bodyPost_ret (v := .agg (caseCells y2 D1 j1 D2 j2 D3 j3 D4 j4)) (by simp [results, Try.results62, go_sem, k1]) rfl ?_
       exact ⟨y2, D1, j1, D2, j2, D3, j3, D4, j4, rfl, (CA.out.kept hke).weak (Weaker.some (by have := HRlt.out; omega)), FW.out, CP.out, (DO.out.kept hke).low (by have := HRlt.out; omega), fun gf hg _ => caseOff_of CA.out DO.out (by omega), hR, hT⟩
      ·
       go_simp
       generalize hV : World.alloc v5 _ = v9
       have hb : Below v5.heap.size v5 v9 := by rw [← hV]; exact (Below.refl _ _).alloc (Nat.le_refl _) _
       have PX : Hid (Bk v9 v5.heap.size 43 #[.int .i64 0, .slice none 0 0, .slice none 0 0, .slice none 0 0, .slice none 0 0]) := by show Bk _ _ _ _; rw [← hV]; exact Bk.new rfl
       have GX : Hid (w.heap.size + 3 ≤ v5.heap.size) := S.out.lt
       have S := Lib.hid (S.out.more hb)
       clear hV hb
       generalize v5.heap.size = gx at PX GX ⊢
       refine hK.out _ _ ⟨S.out.1.cell 0, S.out.1.cell 1, S.out.2.1.cell 0, S.out.2.1.cell 1, S.out.2.1.cell 2, S.out.2.1.cell 3, S.out.2.1.cell 4⟩ (fun hHeld => ?_)
       clear hK K
       refine wpAnyH_ready (rs := [13]) (by kernel_rfl) (by simp) ?_
       refine AllReadyH.cons rfl (fun K hK => ?_) AllReadyH.nil
       go_simp
       go_wp2_with (go_at_call 70; refine (spec_CasWork x A c y A1 c1 A2 c2 A3 c3 A4 c4 _ _ _ _ _ _ (rowsT HX.out S.out.2.2.2.2 (Nat.lt_succ_self _)) (HC.out.turned S.out.2.2.2.2) HF.out HCAP.out).mono ?_; rintro e v10 ⟨y2, D1, j1, D2, j2, D3, j3, D4, j4, b2, rfl, hca, hfw, hb, hcp, hdo⟩)
       have FW := Lib.hid hfw
       have CP := Lib.hid hcp
       have hlt3 := S.out.lt
       have hgx : gx < v9.heap.size := PX.out.lt
       have CA : Hid (∀ V : World, (∀ b, b ≠ gx → V.heap[b]? = v10.heap[b]?) → v10.heap.size ≤ V.heap.size → CaseAt (some (w.heap.size + 3)) V y2 D1 D2 D3 D4) := fun V h1 h2 => (hca.kept ⟨h2, fun b _ hl => h1 b (by omega)⟩).weak (Weaker.some hlt3)
       have DO : Hid (∀ V : World, (∀ b, b ≠ gx → V.heap[b]? = v10.heap[b]?) → v10.heap.size ≤ V.heap.size → DidOwn V (w.heap.size + 3) D1 D4 j4 y2) := fun V h1 h2 => (hdo.kept ⟨h2, fun b _ hl => h1 b (by omega)⟩).low hlt3
       have PX := Lib.hid (PX.out.later hb)
       clear hgx
       have S := Lib.hid (S.out.more hb)
       clear hca hfw hcp hb hlt3 hdo
       refine hK.out _ _ ⟨S.out.1.cell 0, S.out.1.cell 1, S.out.2.1.cell 0, S.out.2.1.cell 1, S.out.2.1.cell 2, S.out.2.1.cell 3, S.out.2.1.cell 4⟩ (fun hHeld => ?_)
       clear hK K
       refine tk (i := 14) (v := ?_) rfl (.inl ⟨by rfl, ?_⟩) ?_
       rotate_left
       ·
        intro V hSw; (try dsimp only at hSw); go_simp; (try with_reducible rfl)
       simp only [sA, sB, sC, Act.put, sD, sE, sF]
       refine tk (i := 15) (v := ?_) rfl (.inl ⟨by rfl, ?_⟩) ?_
       rotate_left
       ·
        intro V hSw; (try dsimp only at hSw); go_simp; (try with_reducible rfl)
       simp only [sA, sB, sC, Act.put, sD, sE, sF]
       refine tk (i := 16) (v := ?_) rfl (.inl ⟨by rfl, ?_⟩) ?_
       rotate_left
       ·
        intro V hSw; (try dsimp only at hSw); go_simp; (try with_reducible rfl)
       simp only [sA, sB, sC, Act.put, sD, sE, sF]
       refine wpAnyH_ready (rs := [18]) (by kernel_rfl) (by simp) ?_
       refine AllReadyH.cons rfl (fun K hK => ?_) AllReadyH.nil
       have kX := fun i => PX.out.cell i
       have fX := fun i => PX.out.frozen i
       go_simp
       generalize hV : World.setCell (World.setCell (World.setCell (World.setCell (World.setCell v10 _ _) _ _) _ _) _ _) _ _ = v11
       have PY : Hid (Bk v11 gx 43 (caseCells y2 D1 j1 D2 j2 D3 j3 D4 j4)) := by show Bk _ _ _ _; rw [← hV]; exact (put5 PX.out).1
       have hoff : ∀ b, b ≠ gx → v11.heap[b]? = v10.heap[b]? := by rw [← hV]; exact (put5 PX.out).2.2.2
       have hsz : v10.heap.size ≤ v11.heap.size := by rw [← hV]; simp [World.setCell]
       have hbe : Below (w.heap.size + 3) v10 v11 := by rw [← hV]; exact (put5 PX.out).2.2.1 _ _ GX.out (Below.refl _ _)
       have S := Lib.hid (S.out.low hbe HRlt.out)
       have CA := Lib.hid (CA.out _ hoff hsz)
       have DO := Lib.hid (DO.out _ hoff hsz)
       clear hV kX fX hoff hsz hbe PX
       refine hK.out _ _ ⟨S.out.1.cell 0, S.out.1.cell 1, S.out.2.1.cell 0, S.out.2.1.cell 1, S.out.2.1.cell 2, S.out.2.1.cell 3, S.out.2.1.cell 4⟩ (fun hHeld => ?_)
       clear hK K
       refine tk (i := 19) (v := ?_) rfl (.inl ⟨by rfl, ?_⟩) ?_
       rotate_left
       ·
        intro V hSw; (try dsimp only at hSw); go_simp; (try with_reducible rfl)
       simp only [sA, sB, sC, Act.put, sD, sE, sF]
       refine wpAnyH_done (by kernel_rfl) ?_ _
       clear hHeld
       have kX := fun i => PY.out.cell i
       have kZ := fun i => S.out.2.2.1.cell i
       have fZ := fun i => S.out.2.2.1.frozen i
       go_wp2
       generalize hV : World.setCell (World.setCell (World.setCell (World.setCell (World.setCell v11 _ _) _ _) _ _) _ _) _ _ = V
       have hbk : Bk V (w.heap.size + 2) 43 (caseCells y2 D1 j1 D2 j2 D3 j3 D4 j4) := by rw [← hV]; exact (put5 S.out.2.2.1).1
       have hke : Kept (w.heap.size + 3) v11 V := by rw [← hV]; exact (put5 S.out.2.2.1).2.1 _ (by omega)
       have hbe : Below w.heap.size v11 V := by rw [← hV]; exact (put5 S.out.2.2.1).2.2.1 _ _ (by omega) (Below.refl _ _)
       clear hV kZ fZ kX
       have k1 := fun i => hbk.cell i
       have hT := turned_low S.out.2.2.2.2 hbe
       have hR := (S.out.2.2.2.1.low hbe HRlt.out).mono (show _ ≤ P + 10 by omega)
       refine bodyPost_ret (v := .agg (caseCells y2 D1 j1 D2 j2 D3 j3 D4 j4)) (by simp [results, Try.results62, go_sem, k1]) rfl ?_
       exact ⟨y2, D1, j1, D2, j2, D3, j3, D4, j4, rfl, (CA.out.kept hke).weak (Weaker.some (by have := HRlt.out; omega)), FW.out, CP.out, (DO.out.kept hke).low (by have := HRlt.out; omega), fun gf hg _ => caseOff_of CA.out DO.out (by omega), hR, hT⟩
     ·
      go_simp
      generalize hV : World.alloc v4 _ = v12
      have hb : Below v4.heap.size v4 v12 := by rw [← hV]; exact (Below.refl _ _).alloc (Nat.le_refl _) _
      have PX : Hid (Bk v12 v4.heap.size 43 #[.int .i64 0, .slice none 0 0, .slice none 0 0, .slice none 0 0, .slice none 0 0]) := by show Bk _ _ _ _; rw [← hV]; exact Bk.new rfl
      have GX : Hid (w.heap.size + 3 ≤ v4.heap.size) := S.out.lt
      have S := Lib.hid (S.out.more hb)
      clear hV hb
      generalize v4.heap.size = gx at PX GX ⊢
      refine hK.out _ _ ⟨S.out.1.cell 0, S.out.1.cell 1, S.out.2.1.cell 0, S.out.2.1.cell 1, S.out.2.1.cell 2, S.out.2.1.cell 3, S.out.2.1.cell 4⟩ (fun hHeld => ?_)
      clear hK K
      refine wpAnyH_ready (rs := [11]) (by kernel_rfl) (by simp) ?_
      refine AllReadyH.cons rfl (fun K hK => ?_) AllReadyH.nil
      go_simp
      go_wp2_with (go_at_call 47; refine (l20Rd_pick RB (P + 3) 7 _ S.out.2.2.2.1 (by omega) (by omega)).mono ?_; rintro e v13 ⟨z3, rfl, hz30, hz31, _, hr, ht⟩)
      have S := Lib.hid (S.out.pick HRlt.out hr ht)
      have PX := Lib.hid (PX.out.turned ht (by have := GX.out; have := HRlt.out; omega))
      clear hr ht
      refine hK.out _ _ ⟨S.out.1.cell 0, S.out.1.cell 1, S.out.2.1.cell 0, S.out.2.1.cell 1, S.out.2.1.cell 2, S.out.2.1.cell 3, S.out.2.1.cell 4⟩ (fun hHeld => ?_)
      clear hK K
      refine tk (i := 12) (v := ?_) rfl (.inl ⟨by rfl, ?_⟩) ?_
      rotate_left
      ·
       intro V hSw; (try dsimp only at hSw); go_simp; (try with_reducible rfl)
      simp only [sA, sB, sC, Act.put, sD, sE, sF]
      refine wpAnyH_ready (rs := [13]) (by kernel_rfl) (by simp) ?_
      refine AllReadyH.cons rfl (fun K hK => ?_) AllReadyH.nil
      go_simp
      go_wp2_with (go_at_call 70; refine (spec_CasWork x A c y A1 c1 A2 c2 A3 c3 A4 c4 _ _ _ _ _ _ (rowsT HX.out S.out.2.2.2.2 (Nat.lt_succ_self _)) (HC.out.turned S.out.2.2.2.2) HF.out HCAP.out).mono ?_; rintro e v14 ⟨y2, D1, j1, D2, j2, D3, j3, D4, j4, b2, rfl, hca, hfw, hb, hcp, hdo⟩)
      have FW := Lib.hid hfw
      have CP := Lib.hid hcp
      have hlt3 := S.out.lt
      have hgx : gx < v13.heap.size := PX.out.lt
      have CA : Hid (∀ V : World, (∀ b, b ≠ gx → V.heap[b]? = v14.heap[b]?) → v14.heap.size ≤ V.heap.size → CaseAt (some (w.heap.size + 3)) V y2 D1 D2 D3 D4) := fun V h1 h2 => (hca.kept ⟨h2, fun b _ hl => h1 b (by omega)⟩).weak (Weaker.some hlt3)
      have DO : Hid (∀ V : World, (∀ b, b ≠ gx → V.heap[b]? = v14.heap[b]?) → v14.heap.size ≤ V.heap.size → DidOwn V (w.heap.size + 3) D1 D4 j4 y2) := fun V h1 h2 => (hdo.kept ⟨h2, fun b _ hl => h1 b (by omega)⟩).low hlt3
      have PX := Lib.hid (PX.out.later hb)
      clear hgx
      have S := Lib.hid (S.out.more hb)
      clear hca hfw hcp hb hlt3 hdo
      refine hK.out _ _ ⟨S.out.1.cell 0, S.out.1.cell 1, S.out.2.1.cell 0, S.out.2.1.cell 1, S.out.2.1.cell 2, S.out.2.1.cell 3, S.out.2.1.cell 4⟩ (fun hHeld => ?_)
      clear hK K
      refine tk (i := 14) (v := ?_) rfl (.inl ⟨by rfl, ?_⟩) ?_
      rotate_left
      ·
       intro V hSw; (try dsimp only at hSw); go_simp; (try with_reducible rfl)
      simp only [sA, sB, sC, Act.put, sD, sE, sF]
      refine tk (i := 15) (v := ?_) rfl (.inl ⟨by rfl, ?_⟩) ?_
      rotate_left
      ·
       intro V hSw; (try dsimp only at hSw); go_simp; (try with_reducible rfl)
      simp only [sA, sB, sC, Act.put, sD, sE, sF]
      refine tk (i := 16) (v := ?_) rfl (.inl ⟨by rfl, ?_⟩) ?_
      rotate_left
      ·
       intro V hSw; (try dsimp only at hSw); go_simp; (try with_reducible rfl)
      simp only [sA, sB, sC, Act.put, sD, sE, sF]
      refine wpAnyH_ready (rs := [18]) (by kernel_rfl) (by simp) ?_
      refine AllReadyH.cons rfl (fun K hK => ?_) AllReadyH.nil
      have kX := fun i => PX.out.cell i
      have fX := fun i => PX.out.frozen i
      go_simp
      generalize hV : World.setCell (World.setCell (World.setCell (World.setCell (World.setCell v14 _ _) _ _) _ _) _ _) _ _ = v15
      have PY : Hid (Bk v15 gx 43 (caseCells y2 D1 j1 D2 j2 D3 j3 D4 j4)) := by show Bk _ _ _ _; rw [← hV]; exact (put5 PX.out).1
      have hoff : ∀ b, b ≠ gx → v15.heap[b]? = v14.heap[b]? := by rw [← hV]; exact (put5 PX.out).2.2.2
      have hsz : v14.heap.size ≤ v15.heap.size := by rw [← hV]; simp [World.setCell]
      have hbe : Below (w.heap.size + 3) v14 v15 := by rw [← hV]; exact (put5 PX.out).2.2.1 _ _ GX.out (Below.refl _ _)
      have S := Lib.hid (S.out.low hbe HRlt.out)
      have CA := Lib.hid (CA.out _ hoff hsz)
      have DO := Lib.hid (DO.out _ hoff hsz)
      clear hV kX fX hoff hsz hbe PX
      refine hK.out _ _ ⟨S.out.1.cell 0, S.out.1.cell 1, S.out.2.1.cell 0, S.out.2.1.cell 1, S.out.2.1.cell 2, S.out.2.1.cell 3, S.out.2.1.cell 4⟩ (fun hHeld => ?_)
      clear hK K
      refine tk (i := 19) (v := ?_) rfl (.inl ⟨by rfl, ?_⟩) ?_
      rotate_left
      ·
       intro V hSw; (try dsimp only at hSw); go_simp; (try with_reducible rfl)
      simp only [sA, sB, sC, Act.put, sD, sE, sF]
      refine wpAnyH_done (by kernel_rfl) ?_ _
      clear hHeld
      have kX := fun i => PY.out.cell i
      have kZ := fun i => S.out.2.2.1.cell i
      have fZ := fun i => S.out.2.2.1.frozen i
      go_wp2
      generalize hV : World.setCell (World.setCell (World.setCell (World.setCell (World.setCell v15 _ _) _ _) _ _) _ _) _ _ = V
      have hbk : Bk V (w.heap.size + 2) 43 (caseCells y2 D1 j1 D2 j2 D3 j3 D4 j4) := by rw [← hV]; exact (put5 S.out.2.2.1).1
      have hke : Kept (w.heap.size + 3) v15 V := by rw [← hV]; exact (put5 S.out.2.2.1).2.1 _ (by omega)
      have hbe : Below w.heap.size v15 V := by rw [← hV]; exact (put5 S.out.2.2.1).2.2.1 _ _ (by omega) (Below.refl _ _)
      clear hV kZ fZ kX
      have k1 := fun i => hbk.cell i
      have hT := turned_low S.out.2.2.2.2 hbe
      have hR := (S.out.2.2.2.1.low hbe HRlt.out).mono (show _ ≤ P + 10 by omega)
      refine bodyPost_ret (v := .agg (caseCells y2 D1 j1 D2 j2 D3 j3 D4 j4)) (by simp [results, Try.results62, go_sem, k1]) rfl ?_
      exact ⟨y2, D1, j1, D2, j2, D3, j3, D4, j4, rfl, (CA.out.kept hke).weak (Weaker.some (by have := HRlt.out; omega)), FW.out, CP.out, (DO.out.kept hke).low (by have := HRlt.out; omega), fun gf hg _ => caseOff_of CA.out DO.out (by omega), hR, hT⟩
    ·
     go_simp
     generalize hV : World.alloc v3 _ = v16
     have hb : Below v3.heap.size v3 v16 := by rw [← hV]; exact (Below.refl _ _).alloc (Nat.le_refl _) _
     have PX : Hid (Bk v16 v3.heap.size 43 #[.int .i64 0, .slice none 0 0, .slice none 0 0, .slice none 0 0, .slice none 0 0]) := by show Bk _ _ _ _; rw [← hV]; exact Bk.new rfl
     have GX : Hid (w.heap.size + 3 ≤ v3.heap.size) := S.out.lt
     have S := Lib.hid (S.out.more hb)
     clear hV hb
     generalize v3.heap.size = gx at PX GX ⊢
     refine hK.out _ _ ⟨S.out.1.cell 0, S.out.1.cell 1, S.out.2.1.cell 0, S.out.2.1.cell 1, S.out.2.1.cell 2, S.out.2.1.cell 3, S.out.2.1.cell 4⟩ (fun hHeld => ?_)
     clear hK K
     refine wpAnyH_ready (rs := [8]) (by kernel_rfl) (by simp) ?_
     refine AllReadyH.cons rfl (fun K hK => ?_) AllReadyH.nil
     go_simp
     go_wp2_with (go_at_call 47; refine (l20Rd_pick RB (P + 2) 4 _ S.out.2.2.2.1 (by omega) (by omega)).mono ?_; rintro e v17 ⟨z2, rfl, hz20, hz21, _, hr, ht⟩)
     have S := Lib.hid (S.out.pick HRlt.out hr ht)
     have PX := Lib.hid (PX.out.turned ht (by have := GX.out; have := HRlt.out; omega))
     clear hr ht
     refine hK.out _ _ ⟨S.out.1.cell 0, S.out.1.cell 1, S.out.2.1.cell 0, S.out.2.1.cell 1, S.out.2.1.cell 2, S.out.2.1.cell 3, S.out.2.1.cell 4⟩ (fun hHeld => ?_)
     clear hK K
     refine tk (i := 9) (v := ?_) rfl (.inl ⟨by rfl, ?_⟩) ?_
     rotate_left
     ·
      intro V hSw; (try dsimp only at hSw); go_simp; (try with_reducible rfl)
     simp only [sA, sB, sC, Act.put, sD, sE, sF]
     refine wpAnyH_ready (rs := [11]) (by kernel_rfl) (by simp) ?_
     refine AllReadyH.cons rfl (fun K hK => ?_) AllReadyH.nil
     go_simp
     go_wp2_with (go_at_call 47; refine (l20Rd_pick RB (P + 3) 7 _ S.out.2.2.2.1 (by omega) (by omega)).mono ?_; rintro e v18 ⟨z3, rfl, hz30, hz31, _, hr, ht⟩)
     have S := Lib.hid (S.out.pick HRlt.out hr ht)
     have PX := Lib.hid (PX.out.turned ht (by have := GX.out; have := HRlt.out; omega))
     clear hr ht
     refine hK.out _ _ ⟨S.out.1.cell 0, S.out.1.cell 1, S.out.2.1.cell 0, S.out.2.1.cell 1, S.out.2.1.cell 2, S.out.2.1.cell 3, S.out.2.1.cell 4⟩ (fun hHeld => ?_)
     clear hK K
     refine tk (i := 12) (v := ?_) rfl (.inl ⟨by rfl, ?_⟩) ?_
     rotate_left
     ·
      intro V hSw; (try dsimp only at hSw); go_simp; (try with_reducible rfl)
     simp only [sA, sB, sC, Act.put, sD, sE, sF]
     refine wpAnyH_ready (rs := [13]) (by kernel_rfl) (by simp) ?_
     refine AllReadyH.cons rfl (fun K hK => ?_) AllReadyH.nil
     go_simp
     go_wp2_with (go_at_call 70; refine (spec_CasWork x A c y A1 c1 A2 c2 A3 c3 A4 c4 _ _ _ _ _ _ (rowsT HX.out S.out.2.2.2.2 (Nat.lt_succ_self _)) (HC.out.turned S.out.2.2.2.2) HF.out HCAP.out).mono ?_; rintro e v19 ⟨y2, D1, j1, D2, j2, D3, j3, D4, j4, b2, rfl, hca, hfw, hb, hcp, hdo⟩)
     have FW := Lib.hid hfw
     have CP := Lib.hid hcp
     have hlt3 := S.out.lt
     have hgx : gx < v18.heap.size := PX.out.lt
     have CA : Hid (∀ V : World, (∀ b, b ≠ gx → V.heap[b]? = v19.heap[b]?) → v19.heap.size ≤ V.heap.size → CaseAt (some (w.heap.size + 3)) V y2 D1 D2 D3 D4) := fun V h1 h2 => (hca.kept ⟨h2, fun b _ hl => h1 b (by omega)⟩).weak (Weaker.some hlt3)
     have DO : Hid (∀ V : World, (∀ b, b ≠ gx → V.heap[b]? = v19.heap[b]?) → v19.heap.size ≤ V.heap.size → DidOwn V (w.heap.size + 3) D1 D4 j4 y2) := fun V h1 h2 => (hdo.kept ⟨h2, fun b _ hl => h1 b (by omega)⟩).low hlt3
     have PX := Lib.hid (PX.out.later hb)
     clear hgx
     have S := Lib.hid (S.out.more hb)
     clear hca hfw hcp hb hlt3 hdo
     refine hK.out _ _ ⟨S.out.1.cell 0, S.out.1.cell 1, S.out.2.1.cell 0, S.out.2.1.cell 1, S.out.2.1.cell 2, S.out.2.1.cell 3, S.out.2.1.cell 4⟩ (fun hHeld => ?_)
     clear hK K
     refine tk (i := 14) (v := ?_) rfl (.inl ⟨by rfl, ?_⟩) ?_
     rotate_left
     ·
      intro V hSw; (try dsimp only at hSw); go_simp; (try with_reducible rfl)
     simp only [sA, sB, sC, Act.put, sD, sE, sF]
     refine tk (i := 15) (v := ?_) rfl (.inl ⟨by rfl, ?_⟩) ?_
     rotate_left
     ·
      intro V hSw; (try dsimp only at hSw); go_simp; (try with_reducible rfl)
     simp only [sA, sB, sC, Act.put, sD, sE, sF]
     refine tk (i := 16) (v := ?_) rfl (.inl ⟨by rfl, ?_⟩) ?_
     rotate_left
     ·
      intro V hSw; (try dsimp only at hSw); go_simp; (try with_reducible rfl)
     simp only [sA, sB, sC, Act.put, sD, sE, sF]
     refine wpAnyH_ready (rs := [18]) (by kernel_rfl) (by simp) ?_
     refine AllReadyH.cons rfl (fun K hK => ?_) AllReadyH.nil
     have kX := fun i => PX.out.cell i
     have fX := fun i => PX.out.frozen i
     go_simp
     generalize hV : World.setCell (World.setCell (World.setCell (World.setCell (World.setCell v19 _ _) _ _) _ _) _ _) _ _ = v20
     have PY : Hid (Bk v20 gx 43 (caseCells y2 D1 j1 D2 j2 D3 j3 D4 j4)) := by show Bk _ _ _ _; rw [← hV]; exact (put5 PX.out).1
     have hoff : ∀ b, b ≠ gx → v20.heap[b]? = v19.heap[b]? := by rw [← hV]; exact (put5 PX.out).2.2.2
     have hsz : v19.heap.size ≤ v20.heap.size := by rw [← hV]; simp [World.setCell]
     have hbe : Below (w.heap.size + 3) v19 v20 := by rw [← hV]; exact (put5 PX.out).2.2.1 _ _ GX.out (Below.refl _ _)
     have S := Lib.hid (S.out.low hbe HRlt.out)
     have CA := Lib.hid (CA.out _ hoff hsz)
     have DO := Lib.hid (DO.out _ hoff hsz)
     clear hV kX fX hoff hsz hbe PX
     refine hK.out _ _ ⟨S.out.1.cell 0, S.out.1.cell 1, S.out.2.1.cell 0, S.out.2.1.cell 1, S.out.2.1.cell 2, S.out.2.1.cell 3, S.out.2.1.cell 4⟩ (fun hHeld => ?_)
     clear hK K
     refine tk (i := 19) (v := ?_) rfl (.inl ⟨by rfl, ?_⟩) ?_
     rotate_left
     ·
      intro V hSw; (try dsimp only at hSw); go_simp; (try with_reducible rfl)
     simp only [sA, sB, sC, Act.put, sD, sE, sF]
     refine wpAnyH_done (by kernel_rfl) ?_ _
     clear hHeld
     have kX := fun i => PY.out.cell i
     have kZ := fun i => S.out.2.2.1.cell i
     have fZ := fun i => S.out.2.2.1.frozen i
     go_wp2
     generalize hV : World.setCell (World.setCell (World.setCell (World.setCell (World.setCell v20 _ _) _ _) _ _) _ _) _ _ = V
     have hbk : Bk V (w.heap.size + 2) 43 (caseCells y2 D1 j1 D2 j2 D3 j3 D4 j4) := by rw [← hV]; exact (put5 S.out.2.2.1).1
     have hke : Kept (w.heap.size + 3) v20 V := by rw [← hV]; exact (put5 S.out.2.2.1).2.1 _ (by omega)
     have hbe : Below w.heap.size v20 V := by rw [← hV]; exact (put5 S.out.2.2.1).2.2.1 _ _ (by omega) (Below.refl _ _)
     clear hV kZ fZ kX
     have k1 := fun i => hbk.cell i
     have hT := turned_low S.out.2.2.2.2 hbe
     have hR := (S.out.2.2.2.1.low hbe HRlt.out).mono (show _ ≤ P + 10 by omega)
     refine bodyPost_ret (v := .agg (caseCells y2 D1 j1 D2 j2 D3 j3 D4 j4)) (by simp [results, Try.results62, go_sem, k1]) rfl ?_
     exact ⟨y2, D1, j1, D2, j2, D3, j3, D4, j4, rfl, (CA.out.kept hke).weak (Weaker.some (by have := HRlt.out; omega)), FW.out, CP.out, (DO.out.kept hke).low (by have := HRlt.out; omega), fun gf hg _ => caseOff_of CA.out DO.out (by omega), hR, hT⟩
   ·
    go_simp
    generalize hV : World.alloc v1 _ = v21
    have hb : Below v1.heap.size v1 v21 := by rw [← hV]; exact (Below.refl _ _).alloc (Nat.le_refl _) _
    have PX : Hid (Bk v21 v1.heap.size 43 #[.int .i64 0, .slice none 0 0, .slice none 0 0, .slice none 0 0, .slice none 0 0]) := by show Bk _ _ _ _; rw [← hV]; exact Bk.new rfl
    have GX : Hid (w.heap.size + 3 ≤ v1.heap.size) := S.out.lt
    have S := Lib.hid (S.out.more hb)
    clear hV hb
    generalize v1.heap.size = gx at PX GX ⊢
    refine hK.out _ _ ⟨S.out.1.cell 0, S.out.1.cell 1, S.out.2.1.cell 0, S.out.2.1.cell 1, S.out.2.1.cell 2, S.out.2.1.cell 3, S.out.2.1.cell 4⟩ (fun hHeld => ?_)
    clear hK K
    refine wpAnyH_ready (rs := [6]) (by kernel_rfl) (by simp) ?_
    refine AllReadyH.cons rfl (fun K hK => ?_) AllReadyH.nil
    go_simp
    go_wp2_with (go_at_call 47; refine (l20Rd_pick RB (P + 1) (y.busy.length : Int) _ S.out.2.2.2.1 (by omega) (by omega)).mono ?_; rintro e v22 ⟨z1, rfl, hz10, hz11, _, hr, ht⟩)
    have S := Lib.hid (S.out.pick HRlt.out hr ht)
    have PX := Lib.hid (PX.out.turned ht (by have := GX.out; have := HRlt.out; omega))
    clear hr ht
    refine hK.out _ _ ⟨S.out.1.cell 0, S.out.1.cell 1, S.out.2.1.cell 0, S.out.2.1.cell 1, S.out.2.1.cell 2, S.out.2.1.cell 3, S.out.2.1.cell 4⟩ (fun hHeld => ?_)
    clear hK K
    refine wpAnyH_ready (rs := [8]) (by kernel_rfl) (by simp) ?_
    refine AllReadyH.cons rfl (fun K hK => ?_) AllReadyH.nil
    go_simp
    go_wp2_with (go_at_call 47; refine (l20Rd_pick RB (P + 2) 4 _ S.out.2.2.2.1 (by omega) (by omega)).mono ?_; rintro e v23 ⟨z2, rfl, hz20, hz21, _, hr, ht⟩)
    have S := Lib.hid (S.out.pick HRlt.out hr ht)
    have PX := Lib.hid (PX.out.turned ht (by have := GX.out; have := HRlt.out; omega))
    clear hr ht
    refine hK.out _ _ ⟨S.out.1.cell 0, S.out.1.cell 1, S.out.2.1.cell 0, S.out.2.1.cell 1, S.out.2.1.cell 2, S.out.2.1.cell 3, S.out.2.1.cell 4⟩ (fun hHeld => ?_)
    clear hK K
    refine tk (i := 9) (v := ?_) rfl (.inl ⟨by rfl, ?_⟩) ?_
    rotate_left
    ·
     intro V hSw; (try dsimp only at hSw); go_simp; (try with_reducible rfl)
    simp only [sA, sB, sC, Act.put, sD, sE, sF]
    refine wpAnyH_ready (rs := [11]) (by kernel_rfl) (by simp) ?_
    refine AllReadyH.cons rfl (fun K hK => ?_) AllReadyH.nil
    go_simp
    go_wp2_with (go_at_call 47; refine (l20Rd_pick RB (P + 3) 7 _ S.out.2.2.2.1 (by omega) (by omega)).mono ?_; rintro e v24 ⟨z3, rfl, hz30, hz31, _, hr, ht⟩)
    have S := Lib.hid (S.out.pick HRlt.out hr ht)
    have PX := Lib.hid (PX.out.turned ht (by have := GX.out; have := HRlt.out; omega))
    clear hr ht
    refine hK.out _ _ ⟨S.out.1.cell 0, S.out.1.cell 1, S.out.2.1.cell 0, S.out.2.1.cell 1, S.out.2.1.cell 2, S.out.2.1.cell 3, S.out.2.1.cell 4⟩ (fun hHeld => ?_)
    clear hK K
    refine tk (i := 12) (v := ?_) rfl (.inl ⟨by rfl, ?_⟩) ?_
    rotate_left
    ·
     intro V hSw; (try dsimp only at hSw); go_simp; (try with_reducible rfl)
    simp only [sA, sB, sC, Act.put, sD, sE, sF]
    refine wpAnyH_ready (rs := [13]) (by kernel_rfl) (by simp) ?_
    refine AllReadyH.cons rfl (fun K hK => ?_) AllReadyH.nil
    go_simp
    go_wp2_with (go_at_call 70; refine (spec_CasWork x A c y A1 c1 A2 c2 A3 c3 A4 c4 _ _ _ _ _ _ (rowsT HX.out S.out.2.2.2.2 (Nat.lt_succ_self _)) (HC.out.turned S.out.2.2.2.2) HF.out HCAP.out).mono ?_; rintro e v25 ⟨y2, D1, j1, D2, j2, D3, j3, D4, j4, b2, rfl, hca, hfw, hb, hcp, hdo⟩)
    have FW := Lib.hid hfw
    have CP := Lib.hid hcp
    have hlt3 := S.out.lt
    have hgx : gx < v24.heap.size := PX.out.lt
    have CA : Hid (∀ V : World, (∀ b, b ≠ gx → V.heap[b]? = v25.heap[b]?) → v25.heap.size ≤ V.heap.size → CaseAt (some (w.heap.size + 3)) V y2 D1 D2 D3 D4) := fun V h1 h2 => (hca.kept ⟨h2, fun b _ hl => h1 b (by omega)⟩).weak (Weaker.some hlt3)
    have DO : Hid (∀ V : World, (∀ b, b ≠ gx → V.heap[b]? = v25.heap[b]?) → v25.heap.size ≤ V.heap.size → DidOwn V (w.heap.size + 3) D1 D4 j4 y2) := fun V h1 h2 => (hdo.kept ⟨h2, fun b _ hl => h1 b (by omega)⟩).low hlt3
    have PX := Lib.hid (PX.out.later hb)
    clear hgx
    have S := Lib.hid (S.out.more hb)
    clear hca hfw hcp hb hlt3 hdo
    refine hK.out _ _ ⟨S.out.1.cell 0, S.out.1.cell 1, S.out.2.1.cell 0, S.out.2.1.cell 1, S.out.2.1.cell 2, S.out.2.1.cell 3, S.out.2.1.cell 4⟩ (fun hHeld => ?_)
    clear hK K
    refine tk (i := 14) (v := ?_) rfl (.inl ⟨by rfl, ?_⟩) ?_
    rotate_left
    ·
     intro V hSw; (try dsimp only at hSw); go_simp; (try with_reducible rfl)
    simp only [sA, sB, sC, Act.put, sD, sE, sF]
    refine tk (i := 15) (v := ?_) rfl (.inl ⟨by rfl, ?_⟩) ?_
    rotate_left
    ·
     intro V hSw; (try dsimp only at hSw); go_simp; (try with_reducible rfl)
    simp only [sA, sB, sC, Act.put, sD, sE, sF]
    refine tk (i := 16) (v := ?_) rfl (.inl ⟨by rfl, ?_⟩) ?_
    rotate_left
    ·
     intro V hSw; (try dsimp only at hSw); go_simp; (try with_reducible rfl)
    simp only [sA, sB, sC, Act.put, sD, sE, sF]
    refine wpAnyH_ready (rs := [18]) (by kernel_rfl) (by simp) ?_
    refine AllReadyH.cons rfl (fun K hK => ?_) AllReadyH.nil
    have kX := fun i => PX.out.cell i
    have fX := fun i => PX.out.frozen i
    go_simp
    generalize hV : World.setCell (World.setCell (World.setCell (World.setCell (World.setCell v25 _ _) _ _) _ _) _ _) _ _ = v26
    have PY : Hid (Bk v26 gx 43 (caseCells y2 D1 j1 D2 j2 D3 j3 D4 j4)) := by show Bk _ _ _ _; rw [← hV]; exact (put5 PX.out).1
    have hoff : ∀ b, b ≠ gx → v26.heap[b]? = v25.heap[b]? := by rw [← hV]; exact (put5 PX.out).2.2.2
    have hsz : v25.heap.size ≤ v26.heap.size := by rw [← hV]; simp [World.setCell]
    have hbe : Below (w.heap.size + 3) v25 v26 := by rw [← hV]; exact (put5 PX.out).2.2.1 _ _ GX.out (Below.refl _ _)
    have S := Lib.hid (S.out.low hbe HRlt.out)
    have CA := Lib.hid (CA.out _ hoff hsz)
    have DO := Lib.hid (DO.out _ hoff hsz)
    clear hV kX fX hoff hsz hbe PX
    refine hK.out _ _ ⟨S.out.1.cell 0, S.out.1.cell 1, S.out.2.1.cell 0, S.out.2.1.cell 1, S.out.2.1.cell 2, S.out.2.1.cell 3, S.out.2.1.cell 4⟩ (fun hHeld => ?_)
    clear hK K
    refine tk (i := 19) (v := ?_) rfl (.inl ⟨by rfl, ?_⟩) ?_
    rotate_left
    ·
     intro V hSw; (try dsimp only at hSw); go_simp; (try with_reducible rfl)
    simp only [sA, sB, sC, Act.put, sD, sE, sF]
    refine wpAnyH_done (by kernel_rfl) ?_ _
    clear hHeld
    have kX := fun i => PY.out.cell i
    have kZ := fun i => S.out.2.2.1.cell i
    have fZ := fun i => S.out.2.2.1.frozen i
    go_wp2
    generalize hV : World.setCell (World.setCell (World.setCell (World.setCell (World.setCell v26 _ _) _ _) _ _) _ _) _ _ = V
    have hbk : Bk V (w.heap.size + 2) 43 (caseCells y2 D1 j1 D2 j2 D3 j3 D4 j4) := by rw [← hV]; exact (put5 S.out.2.2.1).1
    have hke : Kept (w.heap.size + 3) v26 V := by rw [← hV]; exact (put5 S.out.2.2.1).2.1 _ (by omega)
    have hbe : Below w.heap.size v26 V := by rw [← hV]; exact (put5 S.out.2.2.1).2.2.1 _ _ (by omega) (Below.refl _ _)
    clear hV kZ fZ kX
    have k1 := fun i => hbk.cell i
    have hT := turned_low S.out.2.2.2.2 hbe
    have hR := (S.out.2.2.2.1.low hbe HRlt.out).mono (show _ ≤ P + 10 by omega)
    refine bodyPost_ret (v := .agg (caseCells y2 D1 j1 D2 j2 D3 j3 D4 j4)) (by simp [results, Try.results62, go_sem, k1]) rfl ?_
    exact ⟨y2, D1, j1, D2, j2, D3, j3, D4, j4, rfl, (CA.out.kept hke).weak (Weaker.some (by have := HRlt.out; omega)), FW.out, CP.out, (DO.out.kept hke).low (by have := HRlt.out; omega), fun gf hg _ => caseOff_of CA.out DO.out (by omega), hR, hT⟩
  | false =>
   clear hb
   have kC := fun i => S.out.2.1.cell i
   have kN := fun i => S.out.1.cell i
   go_wp2_with fail
   clear kC kN
   refine (spec_EnaTasks x A c A1 c1 y.marks A2 c2 y.busy _ _ _ (rowsT HX.out S.out.2.2.2.2 (Nat.lt_succ_self _)) (HC.out.turned S.out.2.2.2.2).1.ints (HC.out.turned S.out.2.2.2.2).2.1 (by omega)).mono ?_
   rintro e w1 ⟨v, rfl, ov, hb⟩
   have tl := enaOf_len x y.marks y.busy
   generalize enaOf x y.marks y.busy = ts at ov tl
   have hlt3 := S.out.lt
   obtain ⟨At, ct, rfl, _⟩ := ov.form
   have TS := Lib.hid (ownV_rows ov)
   have S := Lib.hid (S.out.more hb)
   clear ov hb
   by_cases ht0 : 0 < ts.length
   rotate_left
   ·
    have ht0e : ts.length = 0 := by omega
    have kX := fun i => S.out.2.1.cell i
    rw [ht0e]
    clear ht0 ht0e
    have kZ := fun i => S.out.2.2.1.cell i
    have fZ := fun i => S.out.2.2.1.frozen i
    go_wp2
    generalize hV : World.setCell (World.setCell (World.setCell (World.setCell (World.setCell w1 _ _) _ _) _ _) _ _) _ _ = V
    have hbk : Bk V (w.heap.size + 2) 43 (caseCells y A1 c1 A2 c2 A3 c3 A4 c4) := by rw [← hV]; exact (put5 S.out.2.2.1).1
    have hke : Kept (w.heap.size + 3) w1 V := by rw [← hV]; exact (put5 S.out.2.2.1).2.1 _ (by omega)
    have hbe : Below w.heap.size w1 V := by rw [← hV]; exact (put5 S.out.2.2.1).2.2.1 _ _ (by omega) (Below.refl _ _)
    clear hV kZ fZ kX
    have k1 := fun i => hbk.cell i
    have hT := turned_low S.out.2.2.2.2 hbe
    have hR := (S.out.2.2.2.1.low hbe HRlt.out).mono (show _ ≤ P + 10 by omega)
    refine bodyPost_ret (v := .agg (caseCells y A1 c1 A2 c2 A3 c3 A4 c4)) (by simp [results, Try.results62, go_sem, k1]) rfl ?_
    exact ⟨y, A1, c1, A2, c2, A3, c3, A4, c4, rfl, HC.out.turned hT, HF.out, HCAP.out, HD.out.turned hT, fun gf _ h => h, hR, hT⟩

   obtain ⟨bt, ot, rfl, TT⟩ := IntsAt.of TS.out (show RB < wc.heap.size by omega) ht0
   have MT := Lib.hid TT
   have htb : ((ts.length : Int) == 0) = false := by rw [beq_eq_false_iff_ne]; omega
   have htl : (ts.length : Int) ≤ 4611686018427387904 := by omega
   clear TT TS
   go_wp2_with fail
   refine (l20Rd_pick RB (P + 1) (ts.length : Int) _ S.out.2.2.2.1 (by omega) htl).mono ?_
   rintro e w2 ⟨z, rfl, hz0, hz1, _, hr, ht⟩
   have S := Lib.hid (S.out.pick HRlt.out hr ht)
   have MT := Lib.hid (MT.out.turned ht)
   have hz2 := hz1 (by omega)
   obtain ⟨i, rfl⟩ := Int.eq_ofNat_of_zero_le hz0
   have hil : i < ts.length := by omega
   have hilz : (i : Int) < (ts.length : Int) := by omega
   have hci := MT.out.2.2 i _ (List.getElem?_eq_getElem hil)
   generalize ts[i] = tsk at hci
   clear hr ht hz0 hz1 hz2 htb
   go_upto_region 8 with fail
   clear hci hilz
   have kC := fun i => S.out.2.1.cell i
   have kN := fun i => S.out.1.cell i
   go_wp2_with fail
   clear kC kN
   refine (spec_PplMay x A c Ap cp ps A4 c4 y.did A2 c2 y.busy tsk _ _ _ _ (rowsT HX.out S.out.2.2.2.2 (Nat.lt_succ_self _)) (rowsT HP.out S.out.2.2.2.2 (Nat.lt_succ_self _)).ints (HC.out.turned S.out.2.2.2.2).2.2.2 (HC.out.turned S.out.2.2.2.2).2.1).mono ?_
   rintro e w3 ⟨v, rfl, ov, hb⟩
   have ml := mayOf_len x ps y.did y.busy tsk
   generalize mayOf x ps y.did y.busy tsk = ms at ov ml
   have hlt4 := S.out.lt
   obtain ⟨Am, cm, rfl, _⟩ := ov.form
   have TS := Lib.hid (ownV_rows ov)
   have S := Lib.hid (S.out.more hb)
   clear ov hb MT
   by_cases hm0 : 0 < ms.length
   rotate_left
   ·
    have hm0e : ms.length = 0 := by omega
    have kX := fun i => S.out.2.1.cell i
    rw [hm0e]
    clear hm0 hm0e
    have kZ := fun i => S.out.2.2.1.cell i
    have fZ := fun i => S.out.2.2.1.frozen i
    go_wp2
    generalize hV : World.setCell (World.setCell (World.setCell (World.setCell (World.setCell w3 _ _) _ _) _ _) _ _) _ _ = V
    have hbk : Bk V (w.heap.size + 2) 43 (caseCells y A1 c1 A2 c2 A3 c3 A4 c4) := by rw [← hV]; exact (put5 S.out.2.2.1).1
    have hke : Kept (w.heap.size + 3) w3 V := by rw [← hV]; exact (put5 S.out.2.2.1).2.1 _ (by omega)
    have hbe : Below w.heap.size w3 V := by rw [← hV]; exact (put5 S.out.2.2.1).2.2.1 _ _ (by omega) (Below.refl _ _)
    clear hV kZ fZ kX
    have k1 := fun i => hbk.cell i
    have hT := turned_low S.out.2.2.2.2 hbe
    have hR := (S.out.2.2.2.1.low hbe HRlt.out).mono (show _ ≤ P + 10 by omega)
    refine bodyPost_ret (v := .agg (caseCells y A1 c1 A2 c2 A3 c3 A4 c4)) (by simp [results, Try.results62, go_sem, k1]) rfl ?_
    exact ⟨y, A1, c1, A2, c2, A3, c3, A4, c4, rfl, HC.out.turned hT, HF.out, HCAP.out, HD.out.turned hT, fun gf _ h => h, hR, hT⟩

   obtain ⟨bm, om, rfl, TT⟩ := IntsAt.of TS.out (show RB < w2.heap.size by omega) hm0
   have MY := Lib.hid TT
   have hmb : ((ms.length : Int) == 0) = false := by rw [beq_eq_false_iff_ne]; omega
   clear TT TS
   go_upto_region 11 with fail
   clear hmb
   have hdr := (Below.refl w3.heap.size w3).drew
   refine wp_region_held_drew (S := (fun V : World => V.cell? ⟨w.heap.size, 0, none⟩ = some (.int .i64 x.places) ∧ V.cell? ⟨w.heap.size, 1, none⟩ = some (.slice A x.tasks.length c) ∧ V.cell? ⟨w.heap.size + 1, 0, none⟩ = some (.int .i64 y.state) ∧ V.cell? ⟨w.heap.size + 1, 1, none⟩ = some (.slice A1 y.marks.length c1) ∧ V.cell? ⟨w.heap.size + 1, 2, none⟩ = some (.slice A2 y.busy.length c2) ∧ V.cell? ⟨w.heap.size + 1, 3, none⟩ = some (.slice A3 y.data.length c3) ∧ V.cell? ⟨w.heap.size + 1, 4, none⟩ = some (.slice A4 y.did.length c4) ∧ ∀ (j : Nat) (z : Int), ms[j]? = some z → V.cell? ⟨bm, om + j, none⟩ = some (.int .i64 z))) (by kernel_rfl) ⟨S.out.1.cell 0, S.out.1.cell 1, S.out.2.1.cell 0, S.out.2.1.cell 1, S.out.2.1.cell 2, S.out.2.1.cell 3, S.out.2.1.cell 4, MY.out.2.2⟩ (fun hHeld => ?_)
   generalize w3.drew = v2 at hdr hHeld ⊢
   have S := Lib.hid (S.out.more hdr)
   have MY := Lib.hid (MY.out.more hdr)
   clear hdr
   refine tk (i := 0) (v := ?_) rfl (.inl ⟨by rfl, ?_⟩) ?_
   rotate_left
   ·
    intro V hSw; (try dsimp only at hSw); go_simp; (try with_reducible rfl)
   simp only [sA, sB, sC, Act.put, sD, sE, sF]
   refine tk (i := 1) (v := ?_) rfl (.inl ⟨by rfl, ?_⟩) ?_
   rotate_left
   ·
    intro V hSw; (try dsimp only at hSw); go_simp; (try with_reducible rfl)
   simp only [sA, sB, sC, Act.put, sD, sE, sF]
   refine tk (i := 2) (v := ?_) rfl (.inl ⟨by rfl, ?_⟩) ?_
   rotate_left
   ·
    intro V hSw; (try dsimp only at hSw); go_simp; (try with_reducible rfl)
   simp only [sA, sB, sC, Act.put, sD, sE, sF]
   refine tk (i := 3) (v := ?_) rfl (.inl ⟨by rfl, ?_⟩) ?_
   rotate_left
   ·
    intro V hSw; (try dsimp only at hSw); go_simp; (try with_reducible rfl)
   simp only [sA, sB, sC, Act.put, sD, sE, sF]
   refine tk (i := 4) (v := ?_) rfl (.inl ⟨by rfl, ?_⟩) ?_
   rotate_left
   ·
    intro V hSw; (try dsimp only at hSw); go_simp; (try with_reducible rfl)
   simp only [sA, sB, sC, Act.put, sD, sE, sF]
   refine tk (i := 5) (v := ?_) rfl (.inl ⟨by rfl, ?_⟩) ?_
   rotate_left
   ·
    intro V hSw; (try dsimp only at hSw); go_simp; (try with_reducible rfl)
   simp only [sA, sB, sC, Act.put, sD, sE, sF]
   refine tk (i := 6) (v := ?_) rfl (.inl ⟨by rfl, ?_⟩) ?_
   rotate_left
   ·
    intro V hSw; (try dsimp only at hSw); go_simp; (try with_reducible rfl)
   simp only [sA, sB, sC, Act.put, sD, sE, sF]
   refine tk (i := 7) (v := ?_) rfl (.inl ⟨by rfl, ?_⟩) ?_
   rotate_left
   ·
    intro V hSw; (try dsimp only at hSw); go_simp; (try with_reducible rfl)
   simp only [sA, sB, sC, Act.put, sD, sE, sF]
   refine wpAnyH_ready (rs := [8, 15]) (by kernel_rfl) (by simp) ?_
   refine AllReadyH.cons rfl (fun K hK => ?_) (AllReadyH.cons rfl (fun K hK => ?_) AllReadyH.nil)
   ·
    go_simp
    go_wp2_with (go_at_call 47; refine (l20Rd_pick RB (P + 2) (ms.length : Int) _ S.out.2.2.2.1 (by omega) (by omega)).mono ?_; rintro e v27 ⟨z4, rfl, hz40, hz41, _, hr, ht⟩)
    have S := Lib.hid (S.out.pick HRlt.out hr ht)
    have MY := Lib.hid (MY.out.turned ht)
    clear hr ht
    refine hK.out _ _ ⟨S.out.1.cell 0, S.out.1.cell 1, S.out.2.1.cell 0, S.out.2.1.cell 1, S.out.2.1.cell 2, S.out.2.1.cell 3, S.out.2.1.cell 4, MY.out.2.2⟩ (fun hHeld => ?_)
    clear hK K
    have hz4 := hz41 (by omega)
    obtain ⟨i, rfl⟩ := Int.eq_ofNat_of_zero_le hz40
    have hil : i < ms.length := by omega
    have hilz : (i : Int) < (ms.length : Int) := by omega
    have hmi : ms[i]? = some ms[i] := List.getElem?_eq_getElem hil
    generalize ms[i] = u4 at hmi
    refine tk (i := 9) (v := .pointer (some ⟨bm, om + i, none⟩)) rfl (.inl ⟨by rfl, ?_⟩) ?_
    ·
     intro V hSw; (try dsimp only at hSw); go_simp; (try with_reducible rfl)
    simp only [sA, sB, sC, Act.put, sD, sE, sF]
    refine tk (i := 10) (v := ?_) rfl (.inl ⟨by rfl, ?_⟩) ?_
    rotate_left
    ·
     intro V hSw
     have h9 := hSw.2.2.2.2.2.2.2 i _ hmi
     clear hSw
     (try dsimp only at hSw)
     go_simp
     (try with_reducible rfl)
    simp only [sA, sB, sC, Act.put, sD, sE, sF]
    refine wpAnyH_ready (rs := [11, 15]) (by kernel_rfl) (by simp) ?_
    refine AllReadyH.cons rfl (fun K hK => ?_) (AllReadyH.cons rfl (fun K hK => ?_) AllReadyH.nil)
    ·
     go_simp
     go_wp2_with (go_at_call 73; refine (spec_CasStart x A c Ap cp ps y A1 c1 A2 c2 A3 c3 A4 c4 _ _ _ _ _ (rowsT HX.out S.out.2.2.2.2 (Nat.lt_succ_self _)) (rowsT HP.out S.out.2.2.2.2 (Nat.lt_succ_self _)).ints (HC.out.turned S.out.2.2.2.2) HF.out).mono ?_; rintro e v28 ⟨y2, D1, j1, D2, j2, D3, j3, D4, j4, b2, rfl, hca, hfw, hb, hcp, hdo⟩)
     have FW := Lib.hid hfw
     have CP := Lib.hid hcp
     have hlt3 := S.out.lt
     have CA0 := Lib.hid (hca.weak (Weaker.some hlt3))
     have DO0 := Lib.hid (hdo.low hlt3)
     have S := Lib.hid (S.out.more hb)
     have MY := Lib.hid (MY.out.more hb)
     clear hca hfw hcp hb hlt3 hdo
     refine hK.out _ _ ⟨S.out.1.cell 0, S.out.1.cell 1, S.out.2.1.cell 0, S.out.2.1.cell 1, S.out.2.1.cell 2, S.out.2.1.cell 3, S.out.2.1.cell 4, MY.out.2.2⟩ (fun hHeld => ?_)
     clear hK K
     refine tk (i := 12) (v := ?_) rfl (.inl ⟨by rfl, ?_⟩) ?_
     rotate_left
     ·
      intro V hSw; (try dsimp only at hSw); go_simp; (try with_reducible rfl)
     simp only [sA, sB, sC, Act.put, sD, sE, sF]
     refine tk (i := 13) (v := ?_) rfl (.inl ⟨by rfl, ?_⟩) ?_
     rotate_left
     ·
      intro V hSw; (try dsimp only at hSw); go_simp; (try with_reducible rfl)
     simp only [sA, sB, sC, Act.put, sD, sE, sF]
     refine tk (i := 14) (v := ?_) rfl (.inl ⟨by rfl, ?_⟩) ?_
     rotate_left
     ·
      intro V hSw; (try dsimp only at hSw); go_simp; (try with_reducible rfl)
     simp only [sA, sB, sC, Act.put, sD, sE, sF]
     refine wpAnyH_ready (rs := [15]) (by kernel_rfl) (by simp) ?_
     refine AllReadyH.cons rfl (fun K hK => ?_) AllReadyH.nil
     go_simp
     generalize hV : World.alloc v28 _ = v29
     have hb : Below v28.heap.size v28 v29 := by rw [← hV]; exact (Below.refl _ _).alloc (Nat.le_refl _) _
     have PX : Hid (Bk v29 v28.heap.size 43 #[.int .i64 0, .slice none 0 0, .slice none 0 0, .slice none 0 0, .slice none 0 0]) := by show Bk _ _ _ _; rw [← hV]; exact Bk.new rfl
     have GX : Hid (w.heap.size + 3 ≤ v28.heap.size) := S.out.lt
     have CA : Hid (∀ V : World, (∀ b, b ≠ v28.heap.size → V.heap[b]? = v29.heap[b]?) → v29.heap.size ≤ V.heap.size → CaseAt (some (w.heap.size + 3)) V y2 D1 D2 D3 D4) := fun V h1 h2 => caseAt_agree CA0.out (fun b hb' _ => (h1 b (by omega)).trans (hb.block b hb')) (Nat.le_trans hb.size h2)
     have DO : Hid (∀ V : World, (∀ b, b ≠ v28.heap.size → V.heap[b]? = v29.heap[b]?) → v29.heap.size ≤ V.heap.size → DidOwn V (w.heap.size + 3) D1 D4 j4 y2) := fun V h1 h2 => DO0.out.kept ⟨Nat.le_trans hb.size h2, fun b hb' _ => (h1 b (by omega)).trans (hb.block b hb')⟩
     clear CA0 DO0
     have S := Lib.hid (S.out.more hb)
     have NE : Hid (bm ≠ v28.heap.size) := by have := MY.out.2.1; show bm ≠ _; omega
     have MY := Lib.hid (MY.out.more hb)
     clear hV hb
     generalize v28.heap.size = gx at PX GX CA DO NE ⊢
     refine hK.out _ _ ⟨S.out.1.cell 0, S.out.1.cell 1, S.out.2.1.cell 0, S.out.2.1.cell 1, S.out.2.1.cell 2, S.out.2.1.cell 3, S.out.2.1.cell 4, MY.out.2.2⟩ (fun hHeld => ?_)
     clear hK K
     refine wpAnyH_ready (rs := [16]) (by kernel_rfl) (by simp) ?_
     refine AllReadyH.cons rfl (fun K hK => ?_) AllReadyH.nil
     have kX := fun i => PX.out.cell i
     have fX := fun i => PX.out.frozen i
     go_simp
     generalize hV : World.setCell (World.setCell (World.setCell (World.setCell (World.setCell v29 _ _) _ _) _ _) _ _) _ _ = v30
     have PY : Hid (Bk v30 gx 43 (caseCells y2 D1 j1 D2 j2 D3 j3 D4 j4)) := by show Bk _ _ _ _; rw [← hV]; exact (put5 PX.out).1
     have hoff : ∀ b, b ≠ gx → v30.heap[b]? = v29.heap[b]? := by rw [← hV]; exact (put5 PX.out).2.2.2
     have hsz : v29.heap.size ≤ v30.heap.size := by rw [← hV]; simp [World.setCell]
     have hbe : Below (w.heap.size + 3) v29 v30 := by rw [← hV]; exact (put5 PX.out).2.2.1 _ _ GX.out (Below.refl _ _)
     have S := Lib.hid (S.out.low hbe HRlt.out)
     have CA := Lib.hid (CA.out _ hoff hsz)
     have DO := Lib.hid (DO.out _ hoff hsz)
     have MY := Lib.hid (MY.out.off NE.out hoff hsz)
     clear hV kX fX hoff hsz hbe PX
     refine hK.out _ _ ⟨S.out.1.cell 0, S.out.1.cell 1, S.out.2.1.cell 0, S.out.2.1.cell 1, S.out.2.1.cell 2, S.out.2.1.cell 3, S.out.2.1.cell 4, MY.out.2.2⟩ (fun hHeld => ?_)
     clear hK K
     refine tk (i := 17) (v := ?_) rfl (.inl ⟨by rfl, ?_⟩) ?_
     rotate_left
     ·
      intro V hSw; (try dsimp only at hSw); go_simp; (try with_reducible rfl)
     simp only [sA, sB, sC, Act.put, sD, sE, sF]
     refine wpAnyH_done (by kernel_rfl) ?_ _
     clear hHeld
     have kX := fun i => PY.out.cell i
     have kZ := fun i => S.out.2.2.1.cell i
     have fZ := fun i => S.out.2.2.1.frozen i
     go_wp2
     generalize hV : World.setCell (World.setCell (World.setCell (World.setCell (World.setCell v30 _ _) _ _) _ _) _ _) _ _ = V
     have hbk : Bk V (w.heap.size + 2) 43 (caseCells y2 D1 j1 D2 j2 D3 j3 D4 j4) := by rw [← hV]; exact (put5 S.out.2.2.1).1
     have hke : Kept (w.heap.size + 3) v30 V := by rw [← hV]; exact (put5 S.out.2.2.1).2.1 _ (by omega)
     have hbe : Below w.heap.size v30 V := by rw [← hV]; exact (put5 S.out.2.2.1).2.2.1 _ _ (by omega) (Below.refl _ _)
     clear hV kZ fZ kX
     have k1 := fun i => hbk.cell i
     have hT := turned_low S.out.2.2.2.2 hbe
     have hR := (S.out.2.2.2.1.low hbe HRlt.out).mono (show _ ≤ P + 10 by omega)
     refine bodyPost_ret (v := .agg (caseCells y2 D1 j1 D2 j2 D3 j3 D4 j4)) (by simp [results, Try.results62, go_sem, k1]) rfl ?_
     exact ⟨y2, D1, j1, D2, j2, D3, j3, D4, j4, rfl, (CA.out.kept hke).weak (Weaker.some (by have := HRlt.out; omega)), FW.out, CP.out, (DO.out.kept hke).low (by have := HRlt.out; omega), fun gf hg _ => caseOff_of CA.out DO.out (by omega), hR, hT⟩
    ·
     go_simp
     generalize hV : World.alloc v27 _ = v31
     have hb : Below v27.heap.size v27 v31 := by rw [← hV]; exact (Below.refl _ _).alloc (Nat.le_refl _) _
     have PX : Hid (Bk v31 v27.heap.size 43 #[.int .i64 0, .slice none 0 0, .slice none 0 0, .slice none 0 0, .slice none 0 0]) := by show Bk _ _ _ _; rw [← hV]; exact Bk.new rfl
     have GX : Hid (w.heap.size + 3 ≤ v27.heap.size) := S.out.lt
     have S := Lib.hid (S.out.more hb)
     have NE : Hid (bm ≠ v27.heap.size) := by have := MY.out.2.1; show bm ≠ _; omega
     have MY := Lib.hid (MY.out.more hb)
     clear hV hb
     generalize v27.heap.size = gx at PX GX NE ⊢
     refine hK.out _ _ ⟨S.out.1.cell 0, S.out.1.cell 1, S.out.2.1.cell 0, S.out.2.1.cell 1, S.out.2.1.cell 2, S.out.2.1.cell 3, S.out.2.1.cell 4, MY.out.2.2⟩ (fun hHeld => ?_)
     clear hK K
     refine wpAnyH_ready (rs := [11]) (by kernel_rfl) (by simp) ?_
     refine AllReadyH.cons rfl (fun K hK => ?_) AllReadyH.nil
     go_simp
     go_wp2_with (go_at_call 73; refine (spec_CasStart x A c Ap cp ps y A1 c1 A2 c2 A3 c3 A4 c4 _ _ _ _ _ (rowsT HX.out S.out.2.2.2.2 (Nat.lt_succ_self _)) (rowsT HP.out S.out.2.2.2.2 (Nat.lt_succ_self _)).ints (HC.out.turned S.out.2.2.2.2) HF.out).mono ?_; rintro e v32 ⟨y2, D1, j1, D2, j2, D3, j3, D4, j4, b2, rfl, hca, hfw, hb, hcp, hdo⟩)
     have FW := Lib.hid hfw
     have CP := Lib.hid hcp
     have hlt3 := S.out.lt
     have hgx : gx < v31.heap.size := PX.out.lt
     have CA : Hid (∀ V : World, (∀ b, b ≠ gx → V.heap[b]? = v32.heap[b]?) → v32.heap.size ≤ V.heap.size → CaseAt (some (w.heap.size + 3)) V y2 D1 D2 D3 D4) := fun V h1 h2 => (hca.kept ⟨h2, fun b _ hl => h1 b (by omega)⟩).weak (Weaker.some hlt3)
     have DO : Hid (∀ V : World, (∀ b, b ≠ gx → V.heap[b]? = v32.heap[b]?) → v32.heap.size ≤ V.heap.size → DidOwn V (w.heap.size + 3) D1 D4 j4 y2) := fun V h1 h2 => (hdo.kept ⟨h2, fun b _ hl => h1 b (by omega)⟩).low hlt3
     have PX := Lib.hid (PX.out.later hb)
     clear hgx
     have S := Lib.hid (S.out.more hb)
     have MY := Lib.hid (MY.out.more hb)
     clear hca hfw hcp hb hlt3 hdo
     refine hK.out _ _ ⟨S.out.1.cell 0, S.out.1.cell 1, S.out.2.1.cell 0, S.out.2.1.cell 1, S.out.2.1.cell 2, S.out.2.1.cell 3, S.out.2.1.cell 4, MY.out.2.2⟩ (fun hHeld => ?_)
     clear hK K
     refine tk (i := 12) (v := ?_) rfl (.inl ⟨by rfl, ?_⟩) ?_
     rotate_left
     ·
      intro V hSw; (try dsimp only at hSw); go_simp; (try with_reducible rfl)
     simp only [sA, sB, sC, Act.put, sD, sE, sF]
     refine tk (i := 13) (v := ?_) rfl (.inl ⟨by rfl, ?_⟩) ?_
     rotate_left
     ·
      intro V hSw; (try dsimp only at hSw); go_simp; (try with_reducible rfl)
     simp only [sA, sB, sC, Act.put, sD, sE, sF]
     refine tk (i := 14) (v := ?_) rfl (.inl ⟨by rfl, ?_⟩) ?_
     rotate_left
     ·
      intro V hSw; (try dsimp only at hSw); go_simp; (try with_reducible rfl)
     simp only [sA, sB, sC, Act.put, sD, sE, sF]
     refine wpAnyH_ready (rs := [16]) (by kernel_rfl) (by simp) ?_
     refine AllReadyH.cons rfl (fun K hK => ?_) AllReadyH.nil
     have kX := fun i => PX.out.cell i
     have fX := fun i => PX.out.frozen i
     go_simp
     generalize hV : World.setCell (World.setCell (World.setCell (World.setCell (World.setCell v32 _ _) _ _) _ _) _ _) _ _ = v33
     have PY : Hid (Bk v33 gx 43 (caseCells y2 D1 j1 D2 j2 D3 j3 D4 j4)) := by show Bk _ _ _ _; rw [← hV]; exact (put5 PX.out).1
     have hoff : ∀ b, b ≠ gx → v33.heap[b]? = v32.heap[b]? := by rw [← hV]; exact (put5 PX.out).2.2.2
     have hsz : v32.heap.size ≤ v33.heap.size := by rw [← hV]; simp [World.setCell]
     have hbe : Below (w.heap.size + 3) v32 v33 := by rw [← hV]; exact (put5 PX.out).2.2.1 _ _ GX.out (Below.refl _ _)
     have S := Lib.hid (S.out.low hbe HRlt.out)
     have CA := Lib.hid (CA.out _ hoff hsz)
     have DO := Lib.hid (DO.out _ hoff hsz)
     have MY := Lib.hid (MY.out.off NE.out hoff hsz)
     clear hV kX fX hoff hsz hbe PX
     refine hK.out _ _ ⟨S.out.1.cell 0, S.out.1.cell 1, S.out.2.1.cell 0, S.out.2.1.cell 1, S.out.2.1.cell 2, S.out.2.1.cell 3, S.out.2.1.cell 4, MY.out.2.2⟩ (fun hHeld => ?_)
     clear hK K
     refine tk (i := 17) (v := ?_) rfl (.inl ⟨by rfl, ?_⟩) ?_
     rotate_left
     ·
      intro V hSw; (try dsimp only at hSw); go_simp; (try with_reducible rfl)
     simp only [sA, sB, sC, Act.put, sD, sE, sF]
     refine wpAnyH_done (by kernel_rfl) ?_ _
     clear hHeld
     have kX := fun i => PY.out.cell i
     have kZ := fun i => S.out.2.2.1.cell i
     have fZ := fun i => S.out.2.2.1.frozen i
     go_wp2
     generalize hV : World.setCell (World.setCell (World.setCell (World.setCell (World.setCell v33 _ _) _ _) _ _) _ _) _ _ = V
     have hbk : Bk V (w.heap.size + 2) 43 (caseCells y2 D1 j1 D2 j2 D3 j3 D4 j4) := by rw [← hV]; exact (put5 S.out.2.2.1).1
     have hke : Kept (w.heap.size + 3) v33 V := by rw [← hV]; exact (put5 S.out.2.2.1).2.1 _ (by omega)
     have hbe : Below w.heap.size v33 V := by rw [← hV]; exact (put5 S.out.2.2.1).2.2.1 _ _ (by omega) (Below.refl _ _)
     clear hV kZ fZ kX
     have k1 := fun i => hbk.cell i
     have hT := turned_low S.out.2.2.2.2 hbe
     have hR := (S.out.2.2.2.1.low hbe HRlt.out).mono (show _ ≤ P + 10 by omega)
     refine bodyPost_ret (v := .agg (caseCells y2 D1 j1 D2 j2 D3 j3 D4 j4)) (by simp [results, Try.results62, go_sem, k1]) rfl ?_
     exact ⟨y2, D1, j1, D2, j2, D3, j3, D4, j4, rfl, (CA.out.kept hke).weak (Weaker.some (by have := HRlt.out; omega)), FW.out, CP.out, (DO.out.kept hke).low (by have := HRlt.out; omega), fun gf hg _ => caseOff_of CA.out DO.out (by omega), hR, hT⟩
   ·
    go_simp
    generalize hV : World.alloc v2 _ = v34
    have hb : Below v2.heap.size v2 v34 := by rw [← hV]; exact (Below.refl _ _).alloc (Nat.le_refl _) _
    have PX : Hid (Bk v34 v2.heap.size 43 #[.int .i64 0, .slice none 0 0, .slice none 0 0, .slice none 0 0, .slice none 0 0]) := by show Bk _ _ _ _; rw [← hV]; exact Bk.new rfl
    have GX : Hid (w.heap.size + 3 ≤ v2.heap.size) := S.out.lt
    have S := Lib.hid (S.out.more hb)
    have NE : Hid (bm ≠ v2.heap.size) := by have := MY.out.2.1; show bm ≠ _; omega
    have MY := Lib.hid (MY.out.more hb)
    clear hV hb
    generalize v2.heap.size = gx at PX GX NE ⊢
    refine hK.out _ _ ⟨S.out.1.cell 0, S.out.1.cell 1, S.out.2.1.cell 0, S.out.2.1.cell 1, S.out.2.1.cell 2, S.out.2.1.cell 3, S.out.2.1.cell 4, MY.out.2.2⟩ (fun hHeld => ?_)
    clear hK K
    refine wpAnyH_ready (rs := [8]) (by kernel_rfl) (by simp) ?_
    refine AllReadyH.cons rfl (fun K hK => ?_) AllReadyH.nil
    go_simp
    go_wp2_with (go_at_call 47; refine (l20Rd_pick RB (P + 2) (ms.length : Int) _ S.out.2.2.2.1 (by omega) (by omega)).mono ?_; rintro e v35 ⟨z4, rfl, hz40, hz41, _, hr, ht⟩)
    have S := Lib.hid (S.out.pick HRlt.out hr ht)
    have PX := Lib.hid (PX.out.turned ht (by have := GX.out; have := HRlt.out; omega))
    have MY := Lib.hid (MY.out.turned ht)
    clear hr ht
    refine hK.out _ _ ⟨S.out.1.cell 0, S.out.1.cell 1, S.out.2.1.cell 0, S.out.2.1.cell 1, S.out.2.1.cell 2, S.out.2.1.cell 3, S.out.2.1.cell 4, MY.out.2.2⟩ (fun hHeld => ?_)
    clear hK K
    have hz4 := hz41 (by omega)
    obtain ⟨i, rfl⟩ := Int.eq_ofNat_of_zero_le hz40
    have hil : i < ms.length := by omega
    have hilz : (i : Int) < (ms.length : Int) := by omega
    have hmi : ms[i]? = some ms[i] := List.getElem?_eq_getElem hil
    generalize ms[i] = u4 at hmi
    refine tk (i := 9) (v := .pointer (some ⟨bm, om + i, none⟩)) rfl (.inl ⟨by rfl, ?_⟩) ?_
    ·
     intro V hSw; (try dsimp only at hSw); go_simp; (try with_reducible rfl)
    simp only [sA, sB, sC, Act.put, sD, sE, sF]
    refine tk (i := 10) (v := ?_) rfl (.inl ⟨by rfl, ?_⟩) ?_
    rotate_left
    ·
     intro V hSw
     have h9 := hSw.2.2.2.2.2.2.2 i _ hmi
     clear hSw
     (try dsimp only at hSw)
     go_simp
     (try with_reducible rfl)
    simp only [sA, sB, sC, Act.put, sD, sE, sF]
    refine wpAnyH_ready (rs := [11]) (by kernel_rfl) (by simp) ?_
    refine AllReadyH.cons rfl (fun K hK => ?_) AllReadyH.nil
    go_simp
    go_wp2_with (go_at_call 73; refine (spec_CasStart x A c Ap cp ps y A1 c1 A2 c2 A3 c3 A4 c4 _ _ _ _ _ (rowsT HX.out S.out.2.2.2.2 (Nat.lt_succ_self _)) (rowsT HP.out S.out.2.2.2.2 (Nat.lt_succ_self _)).ints (HC.out.turned S.out.2.2.2.2) HF.out).mono ?_; rintro e v36 ⟨y2, D1, j1, D2, j2, D3, j3, D4, j4, b2, rfl, hca, hfw, hb, hcp, hdo⟩)
    have FW := Lib.hid hfw
    have CP := Lib.hid hcp
    have hlt3 := S.out.lt
    have hgx : gx < v35.heap.size := PX.out.lt
    have CA : Hid (∀ V : World, (∀ b, b ≠ gx → V.heap[b]? = v36.heap[b]?) → v36.heap.size ≤ V.heap.size → CaseAt (some (w.heap.size + 3)) V y2 D1 D2 D3 D4) := fun V h1 h2 => (hca.kept ⟨h2, fun b _ hl => h1 b (by omega)⟩).weak (Weaker.some hlt3)
    have DO : Hid (∀ V : World, (∀ b, b ≠ gx → V.heap[b]? = v36.heap[b]?) → v36.heap.size ≤ V.heap.size → DidOwn V (w.heap.size + 3) D1 D4 j4 y2) := fun V h1 h2 => (hdo.kept ⟨h2, fun b _ hl => h1 b (by omega)⟩).low hlt3
    have PX := Lib.hid (PX.out.later hb)
    clear hgx
    have S := Lib.hid (S.out.more hb)
    have MY := Lib.hid (MY.out.more hb)
    clear hca hfw hcp hb hlt3 hdo
    refine hK.out _ _ ⟨S.out.1.cell 0, S.out.1.cell 1, S.out.2.1.cell 0, S.out.2.1.cell 1, S.out.2.1.cell 2, S.out.2.1.cell 3, S.out.2.1.cell 4, MY.out.2.2⟩ (fun hHeld => ?_)
    clear hK K
    refine tk (i := 12) (v := ?_) rfl (.inl ⟨by rfl, ?_⟩) ?_
    rotate_left
    ·
     intro V hSw; (try dsimp only at hSw); go_simp; (try with_reducible rfl)
    simp only [sA, sB, sC, Act.put, sD, sE, sF]
    refine tk (i := 13) (v := ?_) rfl (.inl ⟨by rfl, ?_⟩) ?_
    rotate_left
    ·
     intro V hSw; (try dsimp only at hSw); go_simp; (try with_reducible rfl)
    simp only [sA, sB, sC, Act.put, sD, sE, sF]
    refine tk (i := 14) (v := ?_) rfl (.inl ⟨by rfl, ?_⟩) ?_
    rotate_left
    ·
     intro V hSw; (try dsimp only at hSw); go_simp; (try with_reducible rfl)
    simp only [sA, sB, sC, Act.put, sD, sE, sF]
    refine wpAnyH_ready (rs := [16]) (by kernel_rfl) (by simp) ?_
    refine AllReadyH.cons rfl (fun K hK => ?_) AllReadyH.nil
    have kX := fun i => PX.out.cell i
    have fX := fun i => PX.out.frozen i
    go_simp
    generalize hV : World.setCell (World.setCell (World.setCell (World.setCell (World.setCell v36 _ _) _ _) _ _) _ _) _ _ = v37
    have PY : Hid (Bk v37 gx 43 (caseCells y2 D1 j1 D2 j2 D3 j3 D4 j4)) := by show Bk _ _ _ _; rw [← hV]; exact (put5 PX.out).1
    have hoff : ∀ b, b ≠ gx → v37.heap[b]? = v36.heap[b]? := by rw [← hV]; exact (put5 PX.out).2.2.2
    have hsz : v36.heap.size ≤ v37.heap.size := by rw [← hV]; simp [World.setCell]
    have hbe : Below (w.heap.size + 3) v36 v37 := by rw [← hV]; exact (put5 PX.out).2.2.1 _ _ GX.out (Below.refl _ _)
    have S := Lib.hid (S.out.low hbe HRlt.out)
    have CA := Lib.hid (CA.out _ hoff hsz)
    have DO := Lib.hid (DO.out _ hoff hsz)
    have MY := Lib.hid (MY.out.off NE.out hoff hsz)
    clear hV kX fX hoff hsz hbe PX
    refine hK.out _ _ ⟨S.out.1.cell 0, S.out.1.cell 1, S.out.2.1.cell 0, S.out.2.1.cell 1, S.out.2.1.cell 2, S.out.2.1.cell 3, S.out.2.1.cell 4, MY.out.2.2⟩ (fun hHeld => ?_)
    clear hK K
    refine tk (i := 17) (v := ?_) rfl (.inl ⟨by rfl, ?_⟩) ?_
    rotate_left
    ·
     intro V hSw; (try dsimp only at hSw); go_simp; (try with_reducible rfl)
    simp only [sA, sB, sC, Act.put, sD, sE, sF]
    refine wpAnyH_done (by kernel_rfl) ?_ _
    clear hHeld
    have kX := fun i => PY.out.cell i
    have kZ := fun i => S.out.2.2.1.cell i
    have fZ := fun i => S.out.2.2.1.frozen i
    go_wp2
    generalize hV : World.setCell (World.setCell (World.setCell (World.setCell (World.setCell v37 _ _) _ _) _ _) _ _) _ _ = V
    have hbk : Bk V (w.heap.size + 2) 43 (caseCells y2 D1 j1 D2 j2 D3 j3 D4 j4) := by rw [← hV]; exact (put5 S.out.2.2.1).1
    have hke : Kept (w.heap.size + 3) v37 V := by rw [← hV]; exact (put5 S.out.2.2.1).2.1 _ (by omega)
    have hbe : Below w.heap.size v37 V := by rw [← hV]; exact (put5 S.out.2.2.1).2.2.1 _ _ (by omega) (Below.refl _ _)
    clear hV kZ fZ kX
    have k1 := fun i => hbk.cell i
    have hT := turned_low S.out.2.2.2.2 hbe
    have hR := (S.out.2.2.2.1.low hbe HRlt.out).mono (show _ ≤ P + 10 by omega)
    refine bodyPost_ret (v := .agg (caseCells y2 D1 j1 D2 j2 D3 j3 D4 j4)) (by simp [results, Try.results62, go_sem, k1]) rfl ?_
    exact ⟨y2, D1, j1, D2, j2, D3, j3, D4, j4, rfl, (CA.out.kept hke).weak (Weaker.some (by have := HRlt.out; omega)), FW.out, CP.out, (DO.out.kept hke).low (by have := HRlt.out; omega), fun gf hg _ => caseOff_of CA.out DO.out (by omega), hR, hT⟩
end Go.Proofs.Ytjieilicjdoaaaa
