/- A net, people and a case drawn: l21Case. -/
import Derived.Test.YtjieilicjdoaaaaCaseE
import Derived.Test.YtjieilicjdoaaaaHeldD
import Derived.Deep.QuietTactic
import Derived.Deep.RegionHeld3
import Derived.Deep.CutBlock
namespace Go.Proofs.Ytjieilicjdoaaaa
open Go.RowKit
open List renaming getElem_toArray → sA, getElem_cons_succ → sB, getElem_cons_zero → sC, setIfInBounds_toArray → sD, set_cons_zero → sE, set_cons_succ → sF
set_option linter.unusedSimpArgs false
set_option linter.unusedVariables false

theorem newOff {w : World} {base hi gf : Nat} {A1 A3 : Option Addr} {y : GCase} (h : NewAt w base hi A1 y.marks A3 y.data) (hb : y.busy = []) (hd : y.did = []) (hg : gf < base ∨ hi ≤ gf) : CaseOff gf y A1 none A3 none 0 := by
 obtain ⟨g1, g3, hg', hm, ha⟩ := h
 refine ⟨fun h0 q o hA => ?_, fun h0 => by rw [hb] at h0; exact absurd h0 (Nat.lt_irrefl _), fun h0 q o hA => ?_, fun q hq => by cases hq⟩
 ·
  rw [(hm h0).1] at hA
  cases hA
  omega
 ·
  rw [(ha h0).1] at hA
  cases hA
  omega
theorem wpAnyD_more {md : Region.Mode} {ops : Array Oper} {Q : Exit → Act → World → Prop} {S S' : World → Prop} {d : Nat} (h : ∀ V, S' V → S V) : ∀ {fuel : Nat} {listed : Array Bool} {a : Act} {w : World}, wpAnyD Try.prog md ops Q S' d fuel listed a w → wpAnyD Try.prog md ops Q S d fuel listed a w
 | 0, _, _, _, hh => hh
 | fuel + 1, _, _, _, hh => ⟨hh.1, fun i hi => wpOp_mono (fun _ _ hk => ⟨fun hd => h _ (hk.1 hd), wpAnyD_more h hk.2⟩) (hh.2 i hi)⟩
theorem didC_up {w : World} {base lo : Nat} {v : Value} {ds : List GDid} (h : OwnC didC 53 w base v ds) (hu : ∀ q, v.ownBlock = some q → lo ≤ q) : OwnC didC 53 w lo v ds := by
 obtain ⟨css, h1, h2, h3, h4⟩ := h
 refine ⟨css, h1, fun j cs hj => ?_, h3, ?_⟩
 ·
  obtain ⟨x, l, B, a, b, c, d, e⟩ := h2 j cs hj
  exact ⟨x, lo, 0, a, Nat.le_refl _, Nat.zero_le _, fun _ _ => .inr (Nat.zero_le _), e⟩
 ·
  rcases h4 with h | ⟨g, cap, cur, hv, hb, r⟩
  ·
   exact .inl h
  ·
   exact .inr ⟨g, cap, cur, hv, hu g (by rw [hv]; rfl), r⟩
/-- What lies at u, where the drawing of the case begins. -/
structure AtU (RB : Nat) (w u : World) (x : GNet) (g c N1 : Nat) (Ap : Option Addr) (ps : List Int) : Prop where
 b0 : Bk u w.heap.size 75 #[.int .i64 0, .slice none 0 0]
 b1 : Bk u (w.heap.size + 1) 43 #[.int .i64 0, .slice none 0 0, .slice none 0 0, .slice none 0 0, .slice none 0 0]
 bn : Bk u N1 75 #[.int .i64 x.places, .slice (some ⟨g, 0, none⟩) x.tasks.length c]
 ng : NetG u (RB + 1) g x.tasks
 pr : Rows intC (some (RB + 1)) u u.heap.size Ap ps
 tu : Turned RB w u
 hw : RB < w.heap.size
 hn : w.heap.size + 2 ≤ N1
 n1 : 1 ≤ x.tasks.length
 n6 : x.tasks.length ≤ 6
 nd : ∀ t ∈ x.tasks, t.need ≤ 100
 np : 0 ≤ x.places ∧ x.places ≤ 10
section
variable {RB P : Nat} {w u W : World} {x : GNet} {g c N1 g9 : Nat} {Ap : Option Addr} {ps : List Int}
theorem AtU.un (h : AtU RB w u x g c N1 Ap ps) : N1 < u.heap.size := h.bn.lt
theorem AtU.ur (h : AtU RB w u x g c N1 Ap ps) : RB < u.heap.size := by have := h.un; have := h.hn; have := h.hw; omega
theorem AtU.net (h : AtU RB w u x g c N1 Ap ps) (ht : Turned RB u W) : Bk W N1 75 #[.int .i64 x.places, .slice (some ⟨g, 0, none⟩) x.tasks.length c] := h.bn.turned ht (by have := h.hn; have := h.hw; omega)
theorem AtU.tasks (h : AtU RB w u x g c N1 Ap ps) (ht : Turned RB u W) : NetG W (RB + 1) g x.tasks := h.ng.turned ht (Nat.lt_succ_self _)
theorem AtU.people (h : AtU RB w u x g c N1 Ap ps) (ht : Turned RB u W) : Rows intC (some (RB + 1)) W W.heap.size Ap ps := rowsT h.pr ht (Nat.lt_succ_self _)
/-- Where the drawn case is left to be bent: the boxes, and what was done. -/
theorem CsA.ends (h : CsA RB P u g9 W) (a : AtU RB w u x g c N1 Ap ps) : ∃ (y : GCase) (A1 : Option Addr) (c1 : Nat) (A2 : Option Addr) (c2 : Nat) (A3 : Option Addr) (c3 : Nat) (A4 : Option Addr) (c4 : Nat),
  EndSt RB P w u.heap.size N1 g9 #[.int .i64 x.places, .slice (some ⟨g, 0, none⟩) x.tasks.length c] y A1 c1 A2 c2 A3 c3 A4 c4 #[.int .i64 0, .slice none 0 0] #[.int .i64 0, .slice none 0 0, .slice none 0 0, .slice none 0 0, .slice none 0 0] W ∧ Turned RB u W ∧ OwnC didC 53 W u.heap.size (.slice A4 y.did.length c4) y.did ∧ y.did.length ≤ 100 ∧
  (∀ q, Value.ownBlock (.slice A4 y.did.length c4) = some q → u.heap.size ≤ q ∧ q ≠ g9 ∧ (0 < y.marks.length → ∀ q' o : Nat, A1 = some ⟨q', o, none⟩ → q' ≠ q)) := by
 obtain ⟨⟨hr, ht⟩, h9, y, A1, c1, A2, c2, A3, c3, A4, c4, hbk, hca, hf, hcp, hd, hoff⟩ := h
 have hR := a.hw
 have hN := a.hn
 have hU := a.un
 have hq : ∀ q, Value.ownBlock (.slice A4 y.did.length c4) = some q → u.heap.size ≤ q := fun q h4 => by
  by_cases hl : q < u.heap.size
  ·
   exact absurd rfl ((hoff q (.inl hl)).2.2.2 q h4)
  ·
   omega
 refine ⟨y, A1, c1, A2, c2, A3, c3, A4, c4, ?_, ht, didC_up hd.1 hq, hf.2.2.2, fun q h4 => ⟨hq q h4, (hoff g9 (.inr rfl)).2.2.2 q h4, fun h0 q' o h1 he => hd.2 h0 q' o h1 (by rw [he]; exact h4)⟩⟩
 refine ⟨hr, a.tu.trans ht, a.b0.turned ht (by omega), a.b1.turned ht (by omega), a.net ht, hbk, rows_up hca.1 fun h0 q o hA => ?_, rows_up hca.2.2.2 fun h0 q o hA => hq q (by rw [hA]; rfl), (hoff g9 (.inr rfl)).1, fun h0 q o hA => (hoff g9 (.inr rfl)).2.2.2 q (by rw [hA]; rfl), hf.1, by have := hf.2.2.2; omega, hR, hN, hU, h9⟩
 by_cases hl : q < u.heap.size
 ·
  exact absurd rfl ((hoff q (.inl hl)).1 h0 q o hA)
 ·
  omega
end
section
variable {R Q : Nat} {w W : World} {lo N1 g9 : Nat} {nc : Array Value} {y : GCase} {A1 : Option Addr} {c1 : Nat} {A2 : Option Addr} {c2 : Nat} {A3 : Option Addr} {c3 : Nat} {A4 : Option Addr} {c4 : Nat} {cs0 cs1 : Array Value}
theorem EndSt.put0 {a0 a1 b0 b1 : Value} (h : EndSt R Q w lo N1 g9 nc y A1 c1 A2 c2 A3 c3 A4 c4 #[a0, a1] cs1 W) :
  EndSt R Q w lo N1 g9 nc y A1 c1 A2 c2 A3 c3 A4 c4 #[b0, b1] cs1 (World.setCell (World.setCell W ⟨w.heap.size, 0, none⟩ b0) ⟨w.heap.size, 1, none⟩ b1) :=
 h.put (.inl rfl) ((put2 h.b0).2.1 _ _ (Nat.le_refl _) (Below.refl _ _)) (put2 h.b0).2.2 (put2 h.b0).1 (((put2 h.b0).2.2 _ (by omega)).trans h.b1)
theorem EndSt.put1 {a0 a1 a2 a3 a4 b0 b1 b2 b3 b4 : Value} (h : EndSt R Q w lo N1 g9 nc y A1 c1 A2 c2 A3 c3 A4 c4 cs0 #[a0, a1, a2, a3, a4] W) :
  EndSt R Q w lo N1 g9 nc y A1 c1 A2 c2 A3 c3 A4 c4 cs0 #[b0, b1, b2, b3, b4] (World.setCell (World.setCell (World.setCell (World.setCell (World.setCell W ⟨w.heap.size + 1, 0, none⟩ b0) ⟨w.heap.size + 1, 1, none⟩ b1) ⟨w.heap.size + 1, 2, none⟩ b2) ⟨w.heap.size + 1, 3, none⟩ b3) ⟨w.heap.size + 1, 4, none⟩ b4) :=
 h.put (.inr rfl) ((put5 h.b1).2.2.1 _ _ (by omega) (Below.refl _ _)) (put5 h.b1).2.2.2 (((put5 h.b1).2.2.2 _ (by omega)).trans h.b0) (put5 h.b1).1
theorem EndSt.mono {Q' : Nat} (h : EndSt R Q w lo N1 g9 nc y A1 c1 A2 c2 A3 c3 A4 c4 cs0 cs1 W) (hq : Q ≤ Q') : EndSt R Q' w lo N1 g9 nc y A1 c1 A2 c2 A3 c3 A4 c4 cs0 cs1 W := by
 obtain ⟨rd, r⟩ := h
 exact ⟨rd.mono hq, by assumption, by assumption, by assumption, by assumption, by assumption, by assumption, by assumption, by assumption, by assumption, by assumption, by assumption, by assumption, by assumption, by assumption, by assumption⟩
theorem EndSt.lo_le (h : EndSt R Q w lo N1 g9 nc y A1 c1 A2 c2 A3 c3 A4 c4 cs0 cs1 W) : lo ≤ W.heap.size := by have := h.h9; have := h.bc.lt; omega
theorem EndSt.did_off (h : EndSt R Q w lo N1 g9 nc y A1 c1 A2 c2 A3 c3 A4 c4 cs0 cs1 W) {v v' : Value} {B4 : Option Addr} {m d4 : Nat} (hv : v' = .slice B4 m d4) (hob : v'.ownBlock = v.ownBlock ∨ v'.ownBlock = some W.heap.size) (ho : ∀ q, v.ownBlock = some q → q ≠ g9) : ∀ q o : Nat, B4 = some ⟨q, o, none⟩ → q ≠ g9 := fun q o hA => by
 subst hv
 subst hA
 rcases hob with h1 | h1
 ·
  exact ho q h1.symm
 ·
  have := h.bc.lt
  have h2 : q = W.heap.size := by simpa [Value.ownBlock] using h1
  omega
theorem EndSt.give {Q' : Nat} (h : EndSt R Q w lo N1 g9 nc y A1 c1 A2 c2 A3 c3 A4 c4 cs0 cs1 W) (hq : Q ≤ Q') (na : Int) (nA : Option Addr) (nn ncc : Nat) (Pe : Value) : DrawnCase R Q' w (.returned (.tuple #[.agg #[.int .i64 na, .slice nA nn ncc], Pe, .agg (caseCells y A1 c1 A2 c2 A3 c3 A4 c4)])) W :=
 ⟨na, nA, nn, ncc, Pe, y, A1, c1, A2, c2, A3, c3, A4, c4, rfl, h.mks.weak (Weaker.some (by have := h.hw; have := h.hn; have := h.hn2; omega)), h.dd.weak (Weaker.some (by have := h.hw; have := h.hn; have := h.hn2; omega)), h.ml, h.dl, h.rd.mono hq, h.tw⟩
end

set_option maxRecDepth 100000 in
set_option maxHeartbeats 20000000 in
theorem l21Case (RB P : Nat) (n : Int) (w : World) (h : RdB w RB P) (hP : P ≤ 500000) (hn : n ≤ 1000) :
  Calls Try.prog 45 #[.pointer (some ⟨RB, 0, none⟩), .int .i64 n] w (DrawnCase RB (P + 2000) w) := by
 have HR := Lib.hid h
 have HRlt := Lib.hid h.lt
 have hRl := h.lt
 clear h
 go_enter Try.func45, Try.ntmps45
 go_wp2_with fail
 generalize hW : World.alloc (World.alloc w _) _ = W
 have hb : Below w.heap.size w W := by rw [← hW]; exact ((Below.refl _ _).alloc (Nat.le_refl _) _).alloc (by simp) _
 have B0 : Hid (Bk W w.heap.size 75 #[.int .i64 0, .slice none 0 0]) := by show Bk _ _ _ _; rw [← hW]; exact (Bk.new rfl).alloc _
 have B1 : Hid (Bk W (w.heap.size + 1) 43 #[.int .i64 0, .slice none 0 0, .slice none 0 0, .slice none 0 0, .slice none 0 0]) := by show Bk _ _ _ _; rw [← hW]; exact Bk.new (by simp)
 have R0 := Lib.hid (HR.out.low hb hRl)
 have T0 : Hid (Turned RB w W) := Turned.of_below hb
 have zW := B1.out.lt
 clear hW hb HR
 refine (l20Net RB P W R0.out (by omega)).mono ?_
 rintro e w1 ⟨x, g, c, rfl, hN, hok, hr, ht⟩
 have B0 := Lib.hid (B0.out.turned ht (by omega))
 have B1 := Lib.hid (B1.out.turned ht (by omega))
 have NG : Hid (NetG w1 (RB + 1) g x.tasks) := hN.low (by omega)
 have OK := Lib.hid hok
 have T1 := Lib.hid (T0.out.trans ht)
 have R1 := Lib.hid hr
 have z1 := ht.size
 clear hN hok hr ht R0 T0
 go_wp2_with fail
 generalize hW : World.alloc w1 _ = w2
 have hb : Below w1.heap.size w1 w2 := by rw [← hW]; exact (Below.refl _ _).alloc (Nat.le_refl _) _
 have BN : Hid (Bk w2 w1.heap.size 75 #[.int .i64 x.places, .slice (some ⟨g, 0, none⟩) x.tasks.length c]) := by show Bk _ _ _ _; rw [← hW]; exact Bk.new rfl
 have B0 := Lib.hid (B0.out.later hb)
 have B1 := Lib.hid (B1.out.later hb)
 have NG := Lib.hid (NG.out.later hb)
 have T2 := Lib.hid (T1.out.then hb)
 have R2 := Lib.hid (R1.out.grown hb)
 have z2 := BN.out.lt
 clear hW hb T1 R1
 generalize w1.heap.size = N1 at *
 refine (l20People RB (P + 300) 99999 w2 R2.out (by omega) (by omega)).mono ?_
 rintro e u ⟨Ap, cp, ps, rfl, hpl, _, hps, hr, ht⟩
 have A : Hid (AtU RB w u x g c N1 Ap ps) := by
  show AtU _ _ _ _ _ _ _ _ _
  have ol := netOk_len OK.out
  exact ⟨B0.out.turned ht (by omega), B1.out.turned ht (by omega), BN.out.turned ht (by omega), NG.out.turned ht (by omega), (ownI_rows hps (by omega)).weak (Weaker.some (by omega)), T2.out.trans ht, HRlt.out, by omega, ol.1, ol.2.1, fun t h => by have := ((netOk_any OK.out).2 t h).2.2.2.1; omega, by omega, by omega⟩
 have UR := Lib.hid A.out.ur
 have R3 := Lib.hid hr
 have OKN := OK
 clear hps hr ht B0 B1 BN NG T2 R2 hpl z1 z2 zW
 go_upto_region 3 with fail
 go_cut [9] from 15 to 19 (fun s9 wx => ∃ g9, s9 = .pointer (some ⟨g9, 0, none⟩) ∧ Aside (CsA RB (P + 340) u g9 wx))
 case first =>
  have S : Hid (StB RB (P + 320) u u) := ⟨R3.out, Turned.refl _ _⟩
  clear R3
  have hdr := (Below.refl u.heap.size u).drew
  refine wp_region_held_drew (S := (fun V : World => V.cell? ⟨N1, 0, none⟩ = some (.int .i64 x.places) ∧ V.cell? ⟨N1, 1, none⟩ = some (.slice (some ⟨g, 0, none⟩) x.tasks.length c))) (by kernel_rfl) ⟨(A.out.net S.out.2).cell 0, (A.out.net S.out.2).cell 1⟩ (fun hHeld => ?_)
  generalize u.drew = v1 at hdr hHeld ⊢
  have S := Lib.hid (S.out.more hdr)
  clear hdr
  refine tk (i := 0) (v := ?_) rfl (.inl ⟨by rfl, ?_⟩) ?_
  rotate_left
  ·
   intro V hSw; (try dsimp only at hSw); go_simp; (try with_reducible rfl)
  simp only [sA, sB, sC, Act.put, sD, sE, sF]
  refine tk (i := 1) (v := ?_) rfl (.inl ⟨by rfl, ?_⟩) ?_
  rotate_left
  ·
   intro V hSw; (try dsimp only at hSw); go_simp; (try with_reducible rfl)
  simp only [sA, sB, sC, Act.put, sD, sE, sF]
  refine wpAnyH_ready (rs := [2, 4]) (by kernel_rfl) (by simp) ?_
  refine AllReadyH.cons rfl (fun K hK => ?_) (AllReadyH.cons rfl (fun K hK => ?_) AllReadyH.nil)
  ·
   go_simp
   go_wp2_with (go_at_call 61; refine (l20Data RB _ 99999 _ S.out.1 (by omega) (by omega)).mono ?_; rintro e v2 ⟨E0, e0, xs, rfl, hx2, hx4, hrow, hr, ht⟩)
   have DX : Hid (Rows intC (some (RB + 1)) v2 v2.heap.size E0 xs) := hrow.weak (Weaker.some (by have := S.out.2.size; have := UR.out; omega))
   have DL := Lib.hid hx4
   have S := Lib.hid (S.out.pick hr ht)
   clear hr ht hrow hx2 hx4
   refine hK.out _ _ ⟨(A.out.net S.out.2).cell 0, (A.out.net S.out.2).cell 1⟩ (fun hHeld => ?_)
   clear hK K
   refine wpAnyH_ready (rs := [3, 4]) (by kernel_rfl) (by simp) ?_
   refine AllReadyH.cons rfl (fun K hK => ?_) (AllReadyH.cons rfl (fun K hK => ?_) AllReadyH.nil)
   ·
    go_simp
    go_wp2_with (go_at_call 60; refine (spec_CasNew x (some ⟨g, 0, none⟩) c E0 e0 xs (some (RB + 1)) _ ((A.out.tasks S.out.2).rows (by have := A.out.n6; omega)) DX.out.ints).mono ?_; rintro e v3 ⟨E1, e1, E3, e3, rfl, hna, hb⟩)
    have CL := Lib.hid (And.intro (casNew_len x xs (by have := DL.out; omega)).1 (casNew_data x xs))
    have CN := Lib.hid hna
    have CB := Lib.hid S.out.2.size
    have S := Lib.hid (S.out.more hb)
    clear hna hb DX
    refine hK.out _ _ ⟨(A.out.net S.out.2).cell 0, (A.out.net S.out.2).cell 1⟩ (fun hHeld => ?_)
    clear hK K
    refine wpAnyH_ready (rs := [4]) (by kernel_rfl) (by simp) ?_
    refine AllReadyH.cons rfl (fun K hK => ?_) AllReadyH.nil
    go_simp
    generalize hV : World.alloc v3 _ = v4
    have hb : Below v3.heap.size v3 v4 := by rw [← hV]; exact (Below.refl _ _).alloc (Nat.le_refl _) _
    have PX : Hid (Bk v4 v3.heap.size 43 #[.int .i64 0, .slice none 0 0, .slice none 0 0, .slice none 0 0, .slice none 0 0]) := by show Bk _ _ _ _; rw [← hV]; exact Bk.new rfl
    have GX : Hid (u.heap.size ≤ v3.heap.size) := S.out.2.size
    have CA := Lib.hid (new_case (CN.out.later hb) (casNew_nil x xs).1 (casNew_nil x xs).2 (by have := CL.out.1; omega) (by have := CL.out.2; have := DL.out; omega))
    have OF : Hid (∀ gf, (gf < u.heap.size ∨ gf = v3.heap.size) → CaseOff gf (casNew x xs) E1 none E3 none 0) := fun gf hgf => newOff CN.out (casNew_nil x xs).1 (casNew_nil x xs).2 (hgf.elim (fun h => .inl (by have := CB.out; omega)) (fun h => .inr (by omega)))
    clear CN
    have S := Lib.hid (S.out.more hb)
    clear hV hb
    generalize v3.heap.size = gx at PX GX OF ⊢
    refine hK.out _ _ ⟨(A.out.net S.out.2).cell 0, (A.out.net S.out.2).cell 1⟩ (fun hHeld => ?_)
    clear hK K
    have kX := fun i => PX.out.cell i
    have fX := fun i => PX.out.frozen i
    refine wpAnyH_ready (rs := [5]) (by kernel_rfl) (by simp) ?_
    refine AllReadyH.cons rfl (fun K hK => ?_) AllReadyH.nil
    go_simp
    generalize hV : World.setCell (World.setCell (World.setCell (World.setCell (World.setCell v4 _ _) _ _) _ _) _ _) _ _ = v5
    have hy : Bk v5 gx 43 (caseCells (casNew x xs) E1 e1 none 0 E3 e3 none 0) ∧ Below u.heap.size v4 v5 ∧ ∀ b, b ≠ gx → v5.heap[b]? = v4.heap[b]? := by
     rw [← hV]
     have hp := put5 (b0 := .int .i64 (casNew x xs).state) (b1 := .slice E1 (casNew x xs).marks.length e1) (b2 := .slice none 0 0) (b3 := .slice E3 (casNew x xs).data.length e3) (b4 := .slice none 0 0) PX.out
     refine ⟨?_, hp.2.2.1 _ _ GX.out (Below.refl _ _), hp.2.2.2⟩
     rw [show caseCells (casNew x xs) E1 e1 none 0 E3 e3 none 0 = #[.int .i64 (casNew x xs).state, .slice E1 (casNew x xs).marks.length e1, .slice none 0 0, .slice E3 (casNew x xs).data.length e3, .slice none 0 0] from by unfold caseCells; rw [(casNew_nil x xs).1, (casNew_nil x xs).2]; rfl]
     exact hp.1
    have NX := Lib.hid (CsA.put S.out UR.out GX.out hy.1 hy.2.1 hy.2.2 (CA.out.1.weak (Weaker.some (by have := CB.out; have := UR.out; omega))) ⟨by have := CL.out.1; omega, by rw [(casNew_nil x xs).1]; exact Nat.zero_le _, by have := CL.out.2; have := DL.out; omega, by rw [(casNew_nil x xs).2]; exact Nat.zero_le _⟩ (by rw [(casNew_nil x xs).1]; exact Nat.zero_le _) (CA.out.2.low (by have := CB.out; have := UR.out; omega)) OF.out)
    clear hV kX fX hy PX CA OF S
    refine hK.out _ _ ⟨(A.out.net NX.out.1.2).cell 0, (A.out.net NX.out.1.2).cell 1⟩ (fun hHeld => ?_)
    clear hK K
    refine wpAnyH_done (by kernel_rfl) ?_ _
    clear hHeld
    go_wp2
    go_meet
    case rel => exact ⟨gx, rfl, NX.out.mono (by omega)⟩
   ·
    go_simp
    generalize hV : World.alloc v2 _ = v6
    have hb : Below v2.heap.size v2 v6 := by rw [← hV]; exact (Below.refl _ _).alloc (Nat.le_refl _) _
    have PX : Hid (Bk v6 v2.heap.size 43 #[.int .i64 0, .slice none 0 0, .slice none 0 0, .slice none 0 0, .slice none 0 0]) := by show Bk _ _ _ _; rw [← hV]; exact Bk.new rfl
    have GX : Hid (u.heap.size ≤ v2.heap.size) := S.out.2.size
    have DX := Lib.hid (DX.out.later hb)
    have S := Lib.hid (S.out.more hb)
    clear hV hb
    generalize v2.heap.size = gx at PX GX ⊢
    refine hK.out _ _ ⟨(A.out.net S.out.2).cell 0, (A.out.net S.out.2).cell 1⟩ (fun hHeld => ?_)
    clear hK K
    refine wpAnyH_ready (rs := [3]) (by kernel_rfl) (by simp) ?_
    refine AllReadyH.cons rfl (fun K hK => ?_) AllReadyH.nil
    go_simp
    go_wp2_with (go_at_call 60; refine (spec_CasNew x (some ⟨g, 0, none⟩) c E0 e0 xs (some (RB + 1)) _ ((A.out.tasks S.out.2).rows (by have := A.out.n6; omega)) DX.out.ints).mono ?_; rintro e v7 ⟨E1, e1, E3, e3, rfl, hna, hb⟩)
    have CL := Lib.hid (And.intro (casNew_len x xs (by have := DL.out; omega)).1 (casNew_data x xs))
    have hgx := PX.out.lt
    have OF : Hid (∀ gf, (gf < u.heap.size ∨ gf = gx) → CaseOff gf (casNew x xs) E1 none E3 none 0) := fun gf hgf => newOff hna (casNew_nil x xs).1 (casNew_nil x xs).2 (.inl (by have := GX.out; rcases hgf with h | h <;> omega))
    have CA := Lib.hid (new_case hna (casNew_nil x xs).1 (casNew_nil x xs).2 (by have := CL.out.1; omega) (by have := CL.out.2; have := DL.out; omega))
    have PX := Lib.hid (PX.out.later hb)
    have CB := Lib.hid S.out.2.size
    clear hgx
    have S := Lib.hid (S.out.more hb)
    clear hna hb DX
    refine hK.out _ _ ⟨(A.out.net S.out.2).cell 0, (A.out.net S.out.2).cell 1⟩ (fun hHeld => ?_)
    clear hK K
    have kX := fun i => PX.out.cell i
    have fX := fun i => PX.out.frozen i
    refine wpAnyH_ready (rs := [5]) (by kernel_rfl) (by simp) ?_
    refine AllReadyH.cons rfl (fun K hK => ?_) AllReadyH.nil
    go_simp
    generalize hV : World.setCell (World.setCell (World.setCell (World.setCell (World.setCell v7 _ _) _ _) _ _) _ _) _ _ = v8
    have hy : Bk v8 gx 43 (caseCells (casNew x xs) E1 e1 none 0 E3 e3 none 0) ∧ Below u.heap.size v7 v8 ∧ ∀ b, b ≠ gx → v8.heap[b]? = v7.heap[b]? := by
     rw [← hV]
     have hp := put5 (b0 := .int .i64 (casNew x xs).state) (b1 := .slice E1 (casNew x xs).marks.length e1) (b2 := .slice none 0 0) (b3 := .slice E3 (casNew x xs).data.length e3) (b4 := .slice none 0 0) PX.out
     refine ⟨?_, hp.2.2.1 _ _ GX.out (Below.refl _ _), hp.2.2.2⟩
     rw [show caseCells (casNew x xs) E1 e1 none 0 E3 e3 none 0 = #[.int .i64 (casNew x xs).state, .slice E1 (casNew x xs).marks.length e1, .slice none 0 0, .slice E3 (casNew x xs).data.length e3, .slice none 0 0] from by unfold caseCells; rw [(casNew_nil x xs).1, (casNew_nil x xs).2]; rfl]
     exact hp.1
    have NX := Lib.hid (CsA.put S.out UR.out GX.out hy.1 hy.2.1 hy.2.2 (CA.out.1.weak (Weaker.some (by have := CB.out; have := UR.out; omega))) ⟨by have := CL.out.1; omega, by rw [(casNew_nil x xs).1]; exact Nat.zero_le _, by have := CL.out.2; have := DL.out; omega, by rw [(casNew_nil x xs).2]; exact Nat.zero_le _⟩ (by rw [(casNew_nil x xs).1]; exact Nat.zero_le _) (CA.out.2.low (by have := CB.out; have := UR.out; omega)) OF.out)
    clear hV kX fX hy PX CA OF S
    refine hK.out _ _ ⟨(A.out.net NX.out.1.2).cell 0, (A.out.net NX.out.1.2).cell 1⟩ (fun hHeld => ?_)
    clear hK K
    refine wpAnyH_done (by kernel_rfl) ?_ _
    clear hHeld
    go_wp2
    go_meet
    case rel => exact ⟨gx, rfl, NX.out.mono (by omega)⟩
  ·
   go_simp
   generalize hV : World.alloc v1 _ = v9
   have hb : Below v1.heap.size v1 v9 := by rw [← hV]; exact (Below.refl _ _).alloc (Nat.le_refl _) _
   have PX : Hid (Bk v9 v1.heap.size 43 #[.int .i64 0, .slice none 0 0, .slice none 0 0, .slice none 0 0, .slice none 0 0]) := by show Bk _ _ _ _; rw [← hV]; exact Bk.new rfl
   have GX : Hid (u.heap.size ≤ v1.heap.size) := S.out.2.size
   have S := Lib.hid (S.out.more hb)
   clear hV hb
   generalize v1.heap.size = gx at PX GX ⊢
   refine hK.out _ _ ⟨(A.out.net S.out.2).cell 0, (A.out.net S.out.2).cell 1⟩ (fun hHeld => ?_)
   clear hK K
   refine wpAnyH_ready (rs := [2]) (by kernel_rfl) (by simp) ?_
   refine AllReadyH.cons rfl (fun K hK => ?_) AllReadyH.nil
   go_simp
   go_wp2_with (go_at_call 61; refine (l20Data RB _ 99999 _ S.out.1 (by omega) (by omega)).mono ?_; rintro e v10 ⟨E0, e0, xs, rfl, hx2, hx4, hrow, hr, ht⟩)
   have DX : Hid (Rows intC (some (RB + 1)) v10 v10.heap.size E0 xs) := hrow.weak (Weaker.some (by have := S.out.2.size; have := UR.out; omega))
   have DL := Lib.hid hx4
   have S := Lib.hid (S.out.pick hr ht)
   have PX := Lib.hid (PX.out.turned ht (by have := GX.out; have := UR.out; omega))
   clear hr ht hrow hx2 hx4
   refine hK.out _ _ ⟨(A.out.net S.out.2).cell 0, (A.out.net S.out.2).cell 1⟩ (fun hHeld => ?_)
   clear hK K
   refine wpAnyH_ready (rs := [3]) (by kernel_rfl) (by simp) ?_
   refine AllReadyH.cons rfl (fun K hK => ?_) AllReadyH.nil
   go_simp
   go_wp2_with (go_at_call 60; refine (spec_CasNew x (some ⟨g, 0, none⟩) c E0 e0 xs (some (RB + 1)) _ ((A.out.tasks S.out.2).rows (by have := A.out.n6; omega)) DX.out.ints).mono ?_; rintro e v11 ⟨E1, e1, E3, e3, rfl, hna, hb⟩)
   have CL := Lib.hid (And.intro (casNew_len x xs (by have := DL.out; omega)).1 (casNew_data x xs))
   have hgx := PX.out.lt
   have OF : Hid (∀ gf, (gf < u.heap.size ∨ gf = gx) → CaseOff gf (casNew x xs) E1 none E3 none 0) := fun gf hgf => newOff hna (casNew_nil x xs).1 (casNew_nil x xs).2 (.inl (by have := GX.out; rcases hgf with h | h <;> omega))
   have CA := Lib.hid (new_case hna (casNew_nil x xs).1 (casNew_nil x xs).2 (by have := CL.out.1; omega) (by have := CL.out.2; have := DL.out; omega))
   have PX := Lib.hid (PX.out.later hb)
   have CB := Lib.hid S.out.2.size
   clear hgx
   have S := Lib.hid (S.out.more hb)
   clear hna hb DX
   refine hK.out _ _ ⟨(A.out.net S.out.2).cell 0, (A.out.net S.out.2).cell 1⟩ (fun hHeld => ?_)
   clear hK K
   have kX := fun i => PX.out.cell i
   have fX := fun i => PX.out.frozen i
   refine wpAnyH_ready (rs := [5]) (by kernel_rfl) (by simp) ?_
   refine AllReadyH.cons rfl (fun K hK => ?_) AllReadyH.nil
   go_simp
   generalize hV : World.setCell (World.setCell (World.setCell (World.setCell (World.setCell v11 _ _) _ _) _ _) _ _) _ _ = v12
   have hy : Bk v12 gx 43 (caseCells (casNew x xs) E1 e1 none 0 E3 e3 none 0) ∧ Below u.heap.size v11 v12 ∧ ∀ b, b ≠ gx → v12.heap[b]? = v11.heap[b]? := by
    rw [← hV]
    have hp := put5 (b0 := .int .i64 (casNew x xs).state) (b1 := .slice E1 (casNew x xs).marks.length e1) (b2 := .slice none 0 0) (b3 := .slice E3 (casNew x xs).data.length e3) (b4 := .slice none 0 0) PX.out
    refine ⟨?_, hp.2.2.1 _ _ GX.out (Below.refl _ _), hp.2.2.2⟩
    rw [show caseCells (casNew x xs) E1 e1 none 0 E3 e3 none 0 = #[.int .i64 (casNew x xs).state, .slice E1 (casNew x xs).marks.length e1, .slice none 0 0, .slice E3 (casNew x xs).data.length e3, .slice none 0 0] from by unfold caseCells; rw [(casNew_nil x xs).1, (casNew_nil x xs).2]; rfl]
    exact hp.1
   have NX := Lib.hid (CsA.put S.out UR.out GX.out hy.1 hy.2.1 hy.2.2 (CA.out.1.weak (Weaker.some (by have := CB.out; have := UR.out; omega))) ⟨by have := CL.out.1; omega, by rw [(casNew_nil x xs).1]; exact Nat.zero_le _, by have := CL.out.2; have := DL.out; omega, by rw [(casNew_nil x xs).2]; exact Nat.zero_le _⟩ (by rw [(casNew_nil x xs).1]; exact Nat.zero_le _) (CA.out.2.low (by have := CB.out; have := UR.out; omega)) OF.out)
   clear hV kX fX hy PX CA OF S
   refine hK.out _ _ ⟨(A.out.net NX.out.1.2).cell 0, (A.out.net NX.out.1.2).cell 1⟩ (fun hHeld => ?_)
   clear hK K
   refine wpAnyH_done (by kernel_rfl) ?_ _
   clear hHeld
   go_wp2
   go_meet
   case rel => exact ⟨gx, rfl, NX.out.mono (by omega)⟩
 case rest =>
  obtain ⟨g9, rfl, S⟩ := hcut
  have S : Hid (CsA RB (P + 340) u g9 wc) := S
  clear R3
  go_wp2_with fail
  refine (l20Rd_pick RB (P + 340) 16 _ S.out.1.1 (by omega) (by omega)).mono ?_
  rintro e w3 ⟨k0, rfl, hk0, hk1, _, hr, ht⟩
  have hk2 := hk1 (by omega)
  have S := Lib.hid (S.out.pick UR.out hr ht)
  clear hr ht hk1
  go_wp2_with fail
  generalize hV : World.alloc w3 _ = w4
  have hb : Below w3.heap.size w3 w4 := by rw [← hV]; exact (Below.refl _ _).alloc (Nat.le_refl _) _
  have L5 : Hid (Bk w4 w3.heap.size 3 (iv [0, 3, 6, 12, k0]).toArray) := by show Bk _ _ _ _; rw [← hV]; exact Bk.new rfl
  have z3 : RB < w3.heap.size := by have := S.out.1.2.size; have := UR.out; omega
  have S := Lib.hid (S.out.more hb)
  clear hV hb
  generalize w3.heap.size = gl at *
  refine (l20Rd_pick RB (P + 340 + 1) 5 _ S.out.1.1 (by omega) (by omega)).mono ?_
  rintro e w5 ⟨v5, rfl, hv50, hv51, _, hr, ht⟩
  have hv52 := hv51 (by omega)
  have S := Lib.hid (S.out.pick UR.out hr ht)
  have L5 := Lib.hid (L5.out.turned ht (by omega))
  clear hr ht hv51
  obtain ⟨j, rfl⟩ := Int.eq_ofNat_of_zero_le hv50
  obtain ⟨z, hz, hz0, hz1⟩ := lit5 0 3 6 12 k0 j (by omega) (by simp; omega)
  have hcz : w5.cell? ⟨gl, j, none⟩ = some (.int .i64 z) := (L5.out.cell j).trans hz
  have hjz : (j : Int) < ((5 : Nat) : Int) := hv52
  go_upto_region 5 with fail
  obtain ⟨k, rfl⟩ := Int.eq_ofNat_of_zero_le hz0
  clear hcz hz L5 hjz hv50 hv52
  go_loopg [10] 16 (fun gg s10 wr => ∃ k : Nat, k ≤ 16 ∧ k ≤ gg ∧ s10 = .int .i64 k ∧ Aside (CsA RB (P + 350 + 10 * (16 - k)) u g9 wr))
  case atStart => exact ⟨k, by omega, by omega, rfl, S.out.mono (by omega)⟩
  case round =>
   obtain ⟨k, hk, hg, rfl, S⟩ := hrel
   have S : Hid (CsA RB (P + 350 + 10 * (16 - k)) u g9 wr) := S
   by_cases hlt : 0 < k
   ·
    have hltz : (0 : Int) < (k : Int) := by omega
    obtain ⟨h0, h9, y, A1, c1, A2, c2, A3, c3, A4, c4, hbk, hca, hf, hcp, hd, hoff⟩ := S.out
    have H0 := Lib.hid h0
    have HB := Lib.hid hbk
    have HC := Lib.hid hca
    have HF := Lib.hid hf
    have HCP := Lib.hid hcp
    have HD := Lib.hid hd
    have HO := Lib.hid hoff
    clear h0 hbk hca hf hcp hd hoff S
    have kN := fun i => (A.out.net H0.out.2).cell i
    have k9 := fun i => HB.out.cell i
    go_wp2_with fail
    clear kN k9
    refine (l21Step RB _ x (some ⟨g, 0, none⟩) c Ap cp ps y A1 c1 A2 c2 A3 c3 A4 c4 _ H0.out.1 (by omega) ((A.out.tasks H0.out.2).rows (by have := A.out.n6; omega)) (by have := A.out.n6; omega) (A.out.people H0.out.2) HC.out HF.out HCP.out HD.out).mono ?_
    rintro e w6 ⟨y2, D1, j1, D2, j2, D3, j3, D4, j4, rfl, hca2, hf2, hcp2, hd2, hoff2, hr2, ht2⟩
    have H2 := Lib.hid (H0.out.pick hr2 ht2)
    have CA2 := Lib.hid hca2
    have F2 := Lib.hid hf2
    have CP2 := Lib.hid hcp2
    have D2' := Lib.hid hd2
    have O2 : Hid (∀ gf, (gf < u.heap.size ∨ gf = g9) → CaseOff gf y2 D1 D2 D3 D4 j4) := fun gf hgf => hoff2 gf (by have := H0.out.2.size; have := HB.out.lt; rcases hgf with h | h <;> omega) (HO.out gf hgf)
    have B2 := Lib.hid (HB.out.turned ht2 (by have := UR.out; omega))
    clear hca2 hf2 hcp2 hd2 hoff2 hr2 ht2 H0 HB HC HF HCP HD HO
    have f9 := fun i => B2.out.frozen i
    have k9 := fun i => B2.out.cell i
    go_upto_region 6 with fail
    generalize hV : World.setCell (World.setCell (World.setCell (World.setCell (World.setCell w6 _ _) _ _) _ _) _ _) _ _ = w8
    have hy : Bk w8 g9 43 (caseCells y2 D1 j1 D2 j2 D3 j3 D4 j4) ∧ Below u.heap.size w6 w8 ∧ ∀ b, b ≠ g9 → w8.heap[b]? = w6.heap[b]? := by
     rw [← hV]
     exact ⟨(put5 B2.out).1, (put5 B2.out).2.2.1 _ _ h9 (Below.refl _ _), (put5 B2.out).2.2.2⟩
    have NX := Lib.hid (CsA.put H2.out UR.out h9 hy.1 hy.2.1 hy.2.2 CA2.out F2.out CP2.out D2'.out O2.out)
    clear hV hy f9 k9 B2 H2 CA2 F2 CP2 D2' O2
    go_wp2
    go_roundg (k - 1)
    case measure => omega
    case rel => exact ⟨k - 1, by omega, by omega, by go_num, NX.out.mono (by omega)⟩
   ·
    have hltz : ¬ (0 : Int) < (k : Int) := by omega
    go_wp2_with fail
    refine (l20Rd_pick RB _ n _ S.out.1.1 (by omega) (by omega)).mono ?_
    rintro e w6 ⟨z, rfl, hz0, _, _, hr, ht⟩
    have S := Lib.hid (S.out.pick UR.out hr ht)
    clear hr ht
    by_cases hz : 0 < z
    ·
     obtain ⟨y, A1, c1, A2, c2, A3, c3, A4, c4, he, _, _⟩ := S.out.ends A.out
     have E := Lib.hid he
     clear he S
     go_upto_region 9 with fail
     have hdr := (Below.refl w6.heap.size w6).drew
     refine wp_region_held_drew (S := (fun V : World => V.cell? ⟨N1, 0, none⟩ = some (.int .i64 x.places) ∧ V.cell? ⟨N1, 1, none⟩ = some (.slice (some ⟨g, 0, none⟩) x.tasks.length c) ∧ V.cell? ⟨g9, 0, none⟩ = some (.int .i64 y.state) ∧ V.cell? ⟨g9, 1, none⟩ = some (.slice A1 y.marks.length c1) ∧ V.cell? ⟨g9, 2, none⟩ = some (.slice A2 y.busy.length c2) ∧ V.cell? ⟨g9, 3, none⟩ = some (.slice A3 y.data.length c3) ∧ V.cell? ⟨g9, 4, none⟩ = some (.slice A4 y.did.length c4))) (by kernel_rfl) ⟨E.out.bn.cell 0, E.out.bn.cell 1, E.out.bc.cell 0, E.out.bc.cell 1, E.out.bc.cell 2, E.out.bc.cell 3, E.out.bc.cell 4⟩ (fun hHeld => ?_)
     generalize w6.drew = v13 at hdr hHeld ⊢
     have E := Lib.hid (E.out.more hdr)
     clear hdr
     refine tk (i := 0) (v := ?_) rfl (.inl ⟨by rfl, ?_⟩) ?_
     rotate_left
     ·
      intro V hSw; (try dsimp only at hSw); go_simp; (try with_reducible rfl)
     simp only [sA, sB, sC, Act.put, sD, sE, sF]
     refine tk (i := 1) (v := ?_) rfl (.inl ⟨by rfl, ?_⟩) ?_
     rotate_left
     ·
      intro V hSw; (try dsimp only at hSw); go_simp; (try with_reducible rfl)
     simp only [sA, sB, sC, Act.put, sD, sE, sF]
     refine tk (i := 2) (v := ?_) rfl (.inl ⟨by rfl, ?_⟩) ?_
     rotate_left
     ·
      intro V hSw; (try dsimp only at hSw); go_simp; (try with_reducible rfl)
     simp only [sA, sB, sC, Act.put, sD, sE, sF]
     refine wpAnyH_ready (rs := [3]) (by kernel_rfl) (by simp) ?_
     refine AllReadyH.cons rfl (fun K hK => ?_) AllReadyH.nil
     have k0 := fun i => E.out.b0.cell i
     have f0 := fun i => E.out.b0.frozen i
     go_simp
     generalize hV : World.setCell (World.setCell v13 _ _) _ _ = v14
     have E := Lib.hid (by rw [← hV]; exact E.out.put0 : EndSt RB _ w u.heap.size N1 g9 _ y A1 c1 A2 c2 A3 c3 A4 c4 #[.int .i64 x.places, .slice (some ⟨g, 0, none⟩) x.tasks.length c] #[.int .i64 0, .slice none 0 0, .slice none 0 0, .slice none 0 0, .slice none 0 0] v14)
     clear hV k0 f0
     refine hK.out _ _ ⟨E.out.bn.cell 0, E.out.bn.cell 1, E.out.bc.cell 0, E.out.bc.cell 1, E.out.bc.cell 2, E.out.bc.cell 3, E.out.bc.cell 4⟩ (fun hHeld => ?_)
     clear hK K
     refine tk (i := 4) (v := ?_) rfl (.inl ⟨by rfl, ?_⟩) ?_
     rotate_left
     ·
      intro V hSw; (try dsimp only at hSw); go_simp; (try with_reducible rfl)
     simp only [sA, sB, sC, Act.put, sD, sE, sF]
     refine wpAnyH_ready (rs := [5]) (by kernel_rfl) (by simp) ?_
     refine AllReadyH.cons rfl (fun K hK => ?_) AllReadyH.nil
     have k0 := fun i => E.out.b1.cell i
     have f0 := fun i => E.out.b1.frozen i
     go_simp
     generalize hV : World.setCell (World.setCell (World.setCell (World.setCell (World.setCell v14 _ _) _ _) _ _) _ _) _ _ = v15
     have E := Lib.hid (by rw [← hV]; exact E.out.put1 : EndSt RB _ w u.heap.size N1 g9 _ y A1 c1 A2 c2 A3 c3 A4 c4 #[.int .i64 x.places, .slice (some ⟨g, 0, none⟩) x.tasks.length c] (caseCells y A1 c1 A2 c2 A3 c3 A4 c4) v15)
     clear hV k0 f0
     refine hK.out _ _ ⟨E.out.bn.cell 0, E.out.bn.cell 1, E.out.bc.cell 0, E.out.bc.cell 1, E.out.bc.cell 2, E.out.bc.cell 3, E.out.bc.cell 4⟩ (fun hHeld => ?_)
     clear hK K
     refine wpAnyH_done (by kernel_rfl) ?_ _
     clear hHeld
     have k4 := fun i => E.out.b0.cell i
     have k6 := fun i => E.out.b1.cell i
     go_wp2
     refine bodyPost_ret (v := .tuple #[.agg #[.int .i64 x.places, .slice (some ⟨g, 0, none⟩) x.tasks.length c], .slice Ap ps.length cp, .agg (caseCells y A1 c1 A2 c2 A3 c3 A4 c4)]) (by simp [results, Try.results45, go_sem, k4, k6]) rfl ?_
     exact E.out.give (by omega) _ _ _ _ _
    ·
     have hze : z = 0 := by omega
     subst hze
     clear hz hz0
     go_wp2_with fail
     refine (l20Rd_pick RB _ 7 _ S.out.1.1 (by omega) (by omega)).mono ?_
     rintro e w7 ⟨z, rfl, hz0, hz1, _, hr, ht⟩
     have hz2 := hz1 (by omega)
     have S := Lib.hid (S.out.pick UR.out hr ht)
     clear hr ht hz1
     obtain ⟨y, A1, c1, A2, c2, A3, c3, A4, c4, he, htu, hdo, hdl, hob⟩ := S.out.ends A.out
     have E := Lib.hid he
     have TU := Lib.hid htu
     have DO := Lib.hid hdo
     have DL := Lib.hid hdl
     have OB := Lib.hid hob
     clear he htu hdo hdl hob S
     go_upto_block 2 with fail
     go_cut [] from 44 to 95 (fun wx => ∃ (y : GCase) (A1 : Option Addr) (c1 : Nat) (A2 : Option Addr) (c2 : Nat) (A3 : Option Addr) (c3 : Nat) (A4 : Option Addr) (c4 : Nat), Aside (EndSt RB (P + 620) w u.heap.size N1 g9 #[.int .i64 x.places, .slice (some ⟨g, 0, none⟩) x.tasks.length c] y A1 c1 A2 c2 A3 c3 A4 c4 #[.int .i64 0, .slice none 0 0] #[.int .i64 0, .slice none 0 0, .slice none 0 0, .slice none 0 0, .slice none 0 0] wx))
     case first =>
      rcases (by omega : z = 0 ∨ z = 1 ∨ z = 2 ∨ z = 3 ∨ z = 4 ∨ z = 5 ∨ z = 6) with rfl | rfl | rfl | rfl | rfl | rfl | rfl
      ·
       go_upto_region 13 with fail
       clear TU DO DL OB
       have hdr := (Below.refl w7.heap.size w7).drew
       refine wp_region_held_drew (S := (fun V : World => V.cell? ⟨g9, 0, none⟩ = some (.int .i64 y.state) ∧ V.cell? ⟨g9, 1, none⟩ = some (.slice A1 y.marks.length c1) ∧ V.cell? ⟨g9, 2, none⟩ = some (.slice A2 y.busy.length c2) ∧ V.cell? ⟨g9, 3, none⟩ = some (.slice A3 y.data.length c3) ∧ V.cell? ⟨g9, 4, none⟩ = some (.slice A4 y.did.length c4))) (by kernel_rfl) ⟨E.out.bc.cell 0, E.out.bc.cell 1, E.out.bc.cell 2, E.out.bc.cell 3, E.out.bc.cell 4⟩ (fun hHeld => ?_)
       generalize w7.drew = v16 at hdr hHeld ⊢
       have E := Lib.hid (E.out.more hdr)
       clear hdr
       refine tk (i := 0) (v := ?_) rfl (.inl ⟨by rfl, ?_⟩) ?_
       rotate_left
       ·
        intro V hSw; (try dsimp only at hSw); go_simp; (try with_reducible rfl)
       simp only [sA, sB, sC, Act.put, sD, sE, sF]
       refine tk (i := 2) (v := ?_) rfl (.inl ⟨by rfl, ?_⟩) ?_
       rotate_left
       ·
        intro V hSw; (try dsimp only at hSw); go_simp; (try with_reducible rfl)
       simp only [sA, sB, sC, Act.put, sD, sE, sF]
       refine tk (i := 3) (v := ?_) rfl (.inl ⟨by rfl, ?_⟩) ?_
       rotate_left
       ·
        intro V hSw; (try dsimp only at hSw); go_simp; (try with_reducible rfl)
       simp only [sA, sB, sC, Act.put, sD, sE, sF]
       refine wpAnyH_ready (rs := [1]) (by kernel_rfl) (by simp) ?_
       refine AllReadyH.cons rfl (fun K hK => ?_) AllReadyH.nil
       go_simp
       go_wp2_with (go_at_call 63; refine (l20AnyNet RB _ 1 _ E.out.rd (by omega) (by omega)).mono ?_; rintro e v17 ⟨x2, g2, c2', rfl, _, _, hr, ht⟩)
       have E := Lib.hid (E.out.pick hr ht)
       clear hr ht
       refine hK.out _ _ ⟨E.out.bc.cell 0, E.out.bc.cell 1, E.out.bc.cell 2, E.out.bc.cell 3, E.out.bc.cell 4⟩ (fun hHeld => ?_)
       clear hK K
       refine wpAnyH_ready (rs := [4]) (by kernel_rfl) (by simp) ?_
       refine AllReadyH.cons rfl (fun K hK => ?_) AllReadyH.nil
       have k0 := fun i => E.out.b0.cell i
       have f0 := fun i => E.out.b0.frozen i
       go_simp
       generalize hV : World.setCell (World.setCell v17 _ _) _ _ = v18
       have E := Lib.hid (by rw [← hV]; exact E.out.put0 : EndSt RB _ w u.heap.size N1 g9 _ y A1 c1 A2 c2 A3 c3 A4 c4 #[.int .i64 x2.places, .slice (some ⟨g2, 0, none⟩) x2.tasks.length c2'] #[.int .i64 0, .slice none 0 0, .slice none 0 0, .slice none 0 0, .slice none 0 0] v18)
       clear hV k0 f0
       refine hK.out _ _ ⟨E.out.bc.cell 0, E.out.bc.cell 1, E.out.bc.cell 2, E.out.bc.cell 3, E.out.bc.cell 4⟩ (fun hHeld => ?_)
       clear hK K
       refine tk (i := 5) (v := ?_) rfl (.inl ⟨by rfl, ?_⟩) ?_
       rotate_left
       ·
        intro V hSw; (try dsimp only at hSw); go_simp; (try with_reducible rfl)
       simp only [sA, sB, sC, Act.put, sD, sE, sF]
       refine wpAnyH_ready (rs := [6]) (by kernel_rfl) (by simp) ?_
       refine AllReadyH.cons rfl (fun K hK => ?_) AllReadyH.nil
       have k0 := fun i => E.out.b1.cell i
       have f0 := fun i => E.out.b1.frozen i
       go_simp
       generalize hV : World.setCell (World.setCell (World.setCell (World.setCell (World.setCell v18 _ _) _ _) _ _) _ _) _ _ = v19
       have E := Lib.hid (by rw [← hV]; exact E.out.put1 : EndSt RB _ w u.heap.size N1 g9 _ y A1 c1 A2 c2 A3 c3 A4 c4 #[.int .i64 x2.places, .slice (some ⟨g2, 0, none⟩) x2.tasks.length c2'] (caseCells y A1 c1 A2 c2 A3 c3 A4 c4) v19)
       clear hV k0 f0
       refine hK.out _ _ ⟨E.out.bc.cell 0, E.out.bc.cell 1, E.out.bc.cell 2, E.out.bc.cell 3, E.out.bc.cell 4⟩ (fun hHeld => ?_)
       clear hK K
       refine wpAnyH_done (by kernel_rfl) ?_ _
       clear hHeld
       have k4 := fun i => E.out.b0.cell i
       have k6 := fun i => E.out.b1.cell i
       go_wp2
       refine bodyPost_ret (v := .tuple #[.agg #[.int .i64 x2.places, .slice (some ⟨g2, 0, none⟩) x2.tasks.length c2'], .slice Ap ps.length cp, .agg (caseCells y A1 c1 A2 c2 A3 c3 A4 c4)]) (by simp [results, Try.results45, go_sem, k4, k6]) rfl ?_
       exact E.out.give (by omega) _ _ _ _ _
      ·
       go_wp2_with fail
       refine (l20Rd_pick RB _ 5 _ E.out.rd (by omega) (by omega)).mono ?_
       rintro e w8 ⟨z, rfl, _, _, _, hr, ht⟩
       have E := Lib.hid (E.out.pick hr ht)
       clear hr ht TU DO DL OB
       have k9 := fun i => E.out.bc.cell i
       have f9 := fun i => E.out.bc.frozen i
       go_wp2
       generalize hV : World.setCell w8 _ _ = w9
       have E := Lib.hid (by rw [← hV]; exact E.out.field 0 _ (y' := (⟨z, y.marks, y.busy, y.data, y.did⟩ : GCase)) rfl E.out.mks E.out.mo E.out.dd E.out.do_ E.out.ml E.out.dl : EndSt RB _ w u.heap.size N1 g9 _ (⟨z, y.marks, y.busy, y.data, y.did⟩ : GCase) A1 c1 A2 c2 A3 c3 A4 c4 #[.int .i64 0, .slice none 0 0] #[.int .i64 0, .slice none 0 0, .slice none 0 0, .slice none 0 0, .slice none 0 0] w9)
       clear hV k9 f9
       go_meet
       case rel => exact ⟨(⟨z, y.marks, y.busy, y.data, y.did⟩ : GCase), A1, c1, A2, c2, A3, c3, A4, c4, E.out.mono (by omega)⟩
      ·
       have kN := fun i => E.out.bn.cell i
       go_wp2_with fail
       clear kN
       refine (marksJ RB _ x.places 2 _ E.out.rd (by omega) A.out.np.1 A.out.np.2 (by omega)).mono ?_
       rintro e w8 ⟨B1, b1, ms, rfl, hml, hrow, hr, ht⟩
       have z7 := E.out.bc.lt
       have l7 := E.out.h9
       have E := Lib.hid (E.out.pick hr ht)
       clear hr ht TU DO DL OB
       have k9 := fun i => E.out.bc.cell i
       have f9 := fun i => E.out.bc.frozen i
       go_wp2
       generalize hV : World.setCell w8 _ _ = w9
       have E := Lib.hid (by rw [← hV]; exact E.out.field 1 _ (y' := (⟨y.state, ms, y.busy, y.data, y.did⟩ : GCase)) rfl (hrow.weak (Weaker.some (by omega))) (fun h0 q o hA => by have := (rows_lo hrow h0 q o hA).1; omega) E.out.dd E.out.do_ (by show ms.length ≤ 20; omega) E.out.dl : EndSt RB _ w u.heap.size N1 g9 _ (⟨y.state, ms, y.busy, y.data, y.did⟩ : GCase) B1 b1 A2 c2 A3 c3 A4 c4 #[.int .i64 0, .slice none 0 0] #[.int .i64 0, .slice none 0 0, .slice none 0 0, .slice none 0 0, .slice none 0 0] w9)
       clear hV k9 f9
       go_meet
       case rel => exact ⟨(⟨y.state, ms, y.busy, y.data, y.did⟩ : GCase), B1, b1, A2, c2, A3, c3, A4, c4, E.out.mono (by omega)⟩
      ·
       have kN := fun i => E.out.bn.cell i
       go_wp2_with fail
       clear kN
       refine (l20Busy RB _ x g c 2 _ E.out.rd (by omega) (A.out.tasks TU.out) A.out.n1 A.out.n6 A.out.nd (by omega)).mono ?_
       rintro e w8 ⟨B2, b2, bs, rfl, _, _, hr, ht⟩
       have E := Lib.hid (E.out.pick hr ht)
       clear hr ht TU DO DL OB
       have k9 := fun i => E.out.bc.cell i
       have f9 := fun i => E.out.bc.frozen i
       go_wp2
       generalize hV : World.setCell w8 _ _ = w9
       have E := Lib.hid (by rw [← hV]; exact E.out.field 2 _ (y' := (⟨y.state, y.marks, bs, y.data, y.did⟩ : GCase)) rfl E.out.mks E.out.mo E.out.dd E.out.do_ E.out.ml E.out.dl : EndSt RB _ w u.heap.size N1 g9 _ (⟨y.state, y.marks, bs, y.data, y.did⟩ : GCase) A1 c1 B2 b2 A3 c3 A4 c4 #[.int .i64 0, .slice none 0 0] #[.int .i64 0, .slice none 0 0, .slice none 0 0, .slice none 0 0, .slice none 0 0] w9)
       clear hV k9 f9
       go_meet
       case rel => exact ⟨(⟨y.state, y.marks, bs, y.data, y.did⟩ : GCase), A1, c1, B2, b2, A3, c3, A4, c4, E.out.mono (by omega)⟩
      ·
       go_wp2_with fail
       refine (l20Data RB _ 1 _ E.out.rd (by omega) (by omega)).mono ?_
       rintro e w8 ⟨B3, b3, ds, rfl, _, _, _, hr, ht⟩
       have E := Lib.hid (E.out.pick hr ht)
       clear hr ht TU DO DL OB
       have k9 := fun i => E.out.bc.cell i
       have f9 := fun i => E.out.bc.frozen i
       go_wp2
       generalize hV : World.setCell w8 _ _ = w9
       have E := Lib.hid (by rw [← hV]; exact E.out.field 3 _ (y' := (⟨y.state, y.marks, y.busy, ds, y.did⟩ : GCase)) rfl E.out.mks E.out.mo E.out.dd E.out.do_ E.out.ml E.out.dl : EndSt RB _ w u.heap.size N1 g9 _ (⟨y.state, y.marks, y.busy, ds, y.did⟩ : GCase) A1 c1 A2 c2 B3 b3 A4 c4 #[.int .i64 0, .slice none 0 0] #[.int .i64 0, .slice none 0 0, .slice none 0 0, .slice none 0 0, .slice none 0 0] w9)
       clear hV k9 f9
       go_meet
       case rel => exact ⟨(⟨y.state, y.marks, y.busy, ds, y.did⟩ : GCase), A1, c1, A2, c2, B3, b3, A4, c4, E.out.mono (by omega)⟩
      ·
       go_upto_region 23 with fail
       refine wp_region_heldD (d := 16) (S := (fun V : World => V.cell? ⟨g9, 4, none⟩ = some (.slice A4 y.did.length c4))) (by kernel_rfl) ?_
       have hdr := (Below.refl w7.heap.size w7).drew
       generalize w7.drew = x0 at hdr ⊢
       have E := Lib.hid (E.out.more hdr)
       have DO := Lib.hid (DO.out.later hdr)
       clear hdr
       have hHeld : (fun V : World => V.cell? ⟨g9, 4, none⟩ = some (.slice A4 y.did.length c4)) x0 := E.out.bc.cell 4
       refine tkD (i := 0) (v := ?_) rfl (.inl ⟨by rfl, ?_⟩) ?_
       rotate_left
       ·
        intro V hSw; (try dsimp only at hSw); go_simp; (try with_reducible rfl)
       simp only [sA, sB, sC, Act.put, sD, sE, sF]
       refine tkD (i := 1) (v := ?_) rfl (.inl ⟨by rfl, ?_⟩) ?_
       rotate_left
       ·
        intro V hSw; (try dsimp only at hSw); go_simp; (try with_reducible rfl)
       simp only [sA, sB, sC, Act.put, sD, sE, sF]
       refine tkD (i := 3) (v := ?_) rfl (.inl ⟨by rfl, ?_⟩) ?_
       rotate_left
       ·
        intro V hSw; (try dsimp only at hSw); go_simp; (try with_reducible rfl)
       simp only [sA, sB, sC, Act.put, sD, sE, sF]
       refine tkD (i := 8) (v := ?_) rfl (.inl ⟨by rfl, ?_⟩) ?_
       rotate_left
       ·
        intro V hSw; (try dsimp only at hSw); go_simp; (try with_reducible rfl)
       simp only [sA, sB, sC, Act.put, sD, sE, sF]
       refine wpAnyD_ready (rs := [2, 4, 7]) (by kernel_rfl) (by simp) ?_
       refine (AllReadyD.cons rfl (fun K hK => ?_) (AllReadyD.cons rfl (fun K hK => ?_) (AllReadyD.cons rfl (fun K hK => ?_) AllReadyD.nil)))
       ·
        go_simp
        generalize hV : World.alloc x0 _ = v20
        have hb : Below x0.heap.size x0 v20 := by rw [← hV]; exact (Below.refl _ _).alloc (Nat.le_refl _) _
        have L2 : Hid (Bk v20 x0.heap.size 3 (iv [-1, 6, 0]).toArray) := by show Bk _ _ _ _; rw [← hV]; exact Bk.new rfl
        have G2 : Hid (RB < x0.heap.size ∧ ∀ q, Value.ownBlock (.slice A4 y.did.length c4) = some q → q < x0.heap.size) := ⟨E.out.rd.lt, fun q hq => (DO.out.lt q hq).2⟩
        have E := Lib.hid (E.out.more hb)
        have DO := Lib.hid (DO.out.later hb)
        clear hV hb hHeld
        generalize x0.heap.size = gl2 at L2 G2 ⊢
        have hHeld : (fun V : World => V.cell? ⟨g9, 4, none⟩ = some (.slice A4 y.did.length c4)) _ := E.out.bc.cell 4
        refine hK.out _ _ (fun _ => hHeld) ?_
        clear hK K
        refine wpAnyD_ready (rs := [4, 7]) (by kernel_rfl) (by simp) ?_
        refine (AllReadyD.cons rfl (fun K hK => ?_) (AllReadyD.cons rfl (fun K hK => ?_) AllReadyD.nil))
        ·
         go_simp
         go_wp2_with (go_at_call 47; refine (l20Rd_pick RB _ 3 _ E.out.rd (by omega) (by omega)).mono ?_; rintro e v21 ⟨z2, rfl, h0, h1, _, hr, ht⟩; obtain ⟨p2, rfl⟩ := Int.eq_ofNat_of_zero_le h0)
         have QP2 : Hid (p2 < 3) := by show _ < _; have := h1 (by omega); omega
         have E := Lib.hid (E.out.pick hr ht)
         have DO := Lib.hid (DO.out.kept (Kept.of_turned ht UR.out))
         have L2 := Lib.hid (L2.out.turned ht (by have := G2.out.1; omega))
         clear h0 h1 hr ht hHeld
         have hHeld : (fun V : World => V.cell? ⟨g9, 4, none⟩ = some (.slice A4 y.did.length c4)) _ := E.out.bc.cell 4
         refine hK.out _ _ (fun _ => hHeld) ?_
         clear hK K
         obtain ⟨u2, hu2⟩ := lit3 (-1) 6 0 p2 QP2.out
         have Z2 := Lib.hid hu2
         clear hu2
         have hq1 : (p2 : Int) < ((3 : Nat) : Int) := by have := QP2.out; omega
         have hq2 : (p2 : Int) < 3 := by have := QP2.out; omega
         refine tkD (i := 5) (v := .pointer (some ⟨gl2, p2, none⟩)) rfl (.inl ⟨by rfl, ?_⟩) ?_
         ·
          intro V hSw; (try dsimp only at hSw); go_simp; (try with_reducible rfl)
         simp only [sA, sB, sC, Act.put, sD, sE, sF]
         refine wpAnyD_more (S' := (fun V : World => V.cell? ⟨g9, 4, none⟩ = some (.slice A4 y.did.length c4) ∧ V.cell? ⟨gl2, p2, none⟩ = some (.int .i64 u2))) (fun V hV => hV.1) ?_
         clear hHeld
         have hHeld : (fun V : World => V.cell? ⟨g9, 4, none⟩ = some (.slice A4 y.did.length c4) ∧ V.cell? ⟨gl2, p2, none⟩ = some (.int .i64 u2)) _ := ⟨E.out.bc.cell 4, (L2.out.cell p2).trans Z2.out⟩
         refine tkD (i := 6) (v := ?_) rfl (.inl ⟨by rfl, ?_⟩) ?_
         rotate_left
         ·
          intro V hSw; (try dsimp only at hSw); go_simp; (try with_reducible rfl)
         simp only [sA, sB, sC, Act.put, sD, sE, sF]
         clear hq1 hq2
         refine wpAnyD_ready (rs := [7, 9]) (by kernel_rfl) (by simp) ?_
         refine (AllReadyD.cons rfl (fun K hK => ?_) (AllReadyD.cons rfl (fun K hK => ?_) AllReadyD.nil))
         ·
          go_simp
          generalize hV : World.alloc v21 _ = v22
          have hb : Below v21.heap.size v21 v22 := by rw [← hV]; exact (Below.refl _ _).alloc (Nat.le_refl _) _
          have L7 : Hid (Bk v22 v21.heap.size 3 (iv [0, 5, 1]).toArray) := by show Bk _ _ _ _; rw [← hV]; exact Bk.new rfl
          have G7 : Hid (RB < v21.heap.size ∧ ∀ q, Value.ownBlock (.slice A4 y.did.length c4) = some q → q < v21.heap.size) := ⟨E.out.rd.lt, fun q hq => (DO.out.lt q hq).2⟩
          have E := Lib.hid (E.out.more hb)
          have DO := Lib.hid (DO.out.later hb)
          have L2 := Lib.hid (L2.out.later hb)
          clear hV hb hHeld
          generalize v21.heap.size = gl7 at L7 G7 ⊢
          have hHeld : (fun V : World => V.cell? ⟨g9, 4, none⟩ = some (.slice A4 y.did.length c4) ∧ V.cell? ⟨gl2, p2, none⟩ = some (.int .i64 u2)) _ := ⟨E.out.bc.cell 4, (L2.out.cell p2).trans Z2.out⟩
          refine hK.out _ _ (fun _ => hHeld) ?_
          clear hK K
          refine wpAnyD_ready (rs := [9]) (by kernel_rfl) (by simp) ?_
          refine (AllReadyD.cons rfl (fun K hK => ?_) AllReadyD.nil)
          go_simp
          go_wp2_with (go_at_call 47; refine (l20Rd_pick RB _ 3 _ E.out.rd (by omega) (by omega)).mono ?_; rintro e v23 ⟨z7, rfl, h0, h1, _, hr, ht⟩; obtain ⟨p7, rfl⟩ := Int.eq_ofNat_of_zero_le h0)
          have QP7 : Hid (p7 < 3) := by show _ < _; have := h1 (by omega); omega
          have E := Lib.hid (E.out.pick hr ht)
          have DO := Lib.hid (DO.out.kept (Kept.of_turned ht UR.out))
          have L2 := Lib.hid (L2.out.turned ht (by have := G2.out.1; omega))
          have L7 := Lib.hid (L7.out.turned ht (by have := G7.out.1; omega))
          clear h0 h1 hr ht hHeld
          have hHeld : (fun V : World => V.cell? ⟨g9, 4, none⟩ = some (.slice A4 y.did.length c4) ∧ V.cell? ⟨gl2, p2, none⟩ = some (.int .i64 u2)) _ := ⟨E.out.bc.cell 4, (L2.out.cell p2).trans Z2.out⟩
          refine hK.out _ _ (fun _ => hHeld) ?_
          clear hK K
          obtain ⟨u7, hu7⟩ := lit3 (0) 5 1 p7 QP7.out
          have Z7 := Lib.hid hu7
          clear hu7
          have hq1 : (p7 : Int) < ((3 : Nat) : Int) := by have := QP7.out; omega
          have hq2 : (p7 : Int) < 3 := by have := QP7.out; omega
          refine tkD (i := 10) (v := .pointer (some ⟨gl7, p7, none⟩)) rfl (.inl ⟨by rfl, ?_⟩) ?_
          ·
           intro V hSw; (try dsimp only at hSw); go_simp; (try with_reducible rfl)
          simp only [sA, sB, sC, Act.put, sD, sE, sF]
          refine wpAnyD_more (S' := (fun V : World => V.cell? ⟨g9, 4, none⟩ = some (.slice A4 y.did.length c4) ∧ V.cell? ⟨gl2, p2, none⟩ = some (.int .i64 u2) ∧ V.cell? ⟨gl7, p7, none⟩ = some (.int .i64 u7))) (fun V hV => ⟨hV.1, hV.2.1⟩) ?_
          clear hHeld
          have hHeld : (fun V : World => V.cell? ⟨g9, 4, none⟩ = some (.slice A4 y.did.length c4) ∧ V.cell? ⟨gl2, p2, none⟩ = some (.int .i64 u2) ∧ V.cell? ⟨gl7, p7, none⟩ = some (.int .i64 u7)) _ := ⟨E.out.bc.cell 4, (L2.out.cell p2).trans Z2.out, (L7.out.cell p7).trans Z7.out⟩
          refine tkD (i := 11) (v := ?_) rfl (.inl ⟨by rfl, ?_⟩) ?_
          rotate_left
          ·
           intro V hSw; (try dsimp only at hSw); go_simp; (try with_reducible rfl)
          simp only [sA, sB, sC, Act.put, sD, sE, sF]
          clear hq1 hq2
          refine tkD (i := 12) (v := ?_) rfl (.inl ⟨by rfl, ?_⟩) ?_
          rotate_left
          ·
           intro V hSw; (try dsimp only at hSw); go_simp; (try with_reducible rfl)
          simp only [sA, sB, sC, Act.put, sD, sE, sF]
          refine wpAnyD_ready (rs := [13]) (by kernel_rfl) (by simp) ?_
          refine (AllReadyD.cons rfl (fun K hK => ?_) AllReadyD.nil)
          go_simp
          generalize hV : World.alloc v23 _ = v24
          have hb : Below v23.heap.size v23 v24 := by rw [← hV]; exact (Below.refl _ _).alloc (Nat.le_refl _) _
          have LD : Hid (Bk v24 v23.heap.size 53 #[.int .i64 u2, .int .i64 u7]) := by show Bk _ _ _ _; rw [← hV]; exact Bk.new rfl
          have E := Lib.hid (E.out.more hb)
          have DO := Lib.hid (DO.out.later hb)
          have L2 := Lib.hid (L2.out.later hb)
          have L7 := Lib.hid (L7.out.later hb)
          clear hV hb hHeld
          generalize v23.heap.size = gd at LD ⊢
          have hHeld : (fun V : World => V.cell? ⟨g9, 4, none⟩ = some (.slice A4 y.did.length c4) ∧ V.cell? ⟨gl2, p2, none⟩ = some (.int .i64 u2) ∧ V.cell? ⟨gl7, p7, none⟩ = some (.int .i64 u7)) _ := ⟨E.out.bc.cell 4, (L2.out.cell p2).trans Z2.out, (L7.out.cell p7).trans Z7.out⟩
          refine hK.out _ _ (fun _ => hHeld) ?_
          clear hK K
          refine wpAnyD_ready (rs := [14]) (by kernel_rfl) (by simp) ?_
          refine (AllReadyD.cons rfl (fun K hK => ?_) AllReadyD.nil)
          refine step_C6 rfl (.tmp 80) (.tmp 92) 41 rfl didC 53 _ 16 Try.underlying41 info_did rfl (by decide) (by decide) u.heap.size (.slice A4 y.did.length c4) y.did rfl DO.out ⟨u2, u7⟩ _ u.heap.size 0 rfl (Nat.le_refl _) (Nat.zero_le _) (fun _ _ => .inr (Nat.zero_le _)) gd rfl (fun j u hu => (LD.out.cell j).trans (by simpa [GDid.cells] using hu)) (by simp [GDid.cells, Value.oneCell']) (by have := DL.out; omega) E.out.lo_le ?_
          intro v' v25 hown hgr hbe hob
          obtain ⟨B4, d4, hv4, hdd⟩ := hown.rows (by have := DL.out; simp; omega)
          have hoff := E.out.did_off hv4 hob fun q hq => (OB.out q hq).2.1
          subst hv4
          have EA := Lib.hid (E.out.app (d4 := d4) hgr OB.out hbe hdd (fun _ => hoff) (by have := DL.out; simp; omega))
          have BC : Hid (Bk v25 g9 43 (caseCells y A1 c1 A2 c2 A3 c3 A4 c4)) := (hgr.block g9 E.out.bc.lt (fun he => (OB.out g9 he.symm).2.1 rfl)).trans E.out.bc
          have L2 : Hid (Bk v25 gl2 3 _) := (hgr.block gl2 L2.out.lt (fun he => by have := G2.out.2 _ he.symm; omega)).trans L2.out
          have L7 : Hid (Bk v25 gl7 3 _) := (hgr.block gl7 L7.out.lt (fun he => by have := G7.out.2 _ he.symm; omega)).trans L7.out
          have hHeld : (fun V : World => V.cell? ⟨g9, 4, none⟩ = some (.slice A4 y.did.length c4) ∧ V.cell? ⟨gl2, p2, none⟩ = some (.int .i64 u2) ∧ V.cell? ⟨gl7, p7, none⟩ = some (.int .i64 u7)) _ := ⟨BC.out.cell 4, (L2.out.cell p2).trans Z2.out, (L7.out.cell p7).trans Z7.out⟩
          clear hown hgr hbe hob hdd E DO hoff
          refine hK.out _ _ (fun _ => hHeld) ?_
          clear hK K
          try simp only [sA, sB, sC, Act.put, sD, sE, sF]
          refine tkD (i := 15) (v := ?_) rfl (.inl ⟨by rfl, ?_⟩) ?_
          rotate_left
          ·
           intro V hSw; (try dsimp only at hSw); go_simp; (try with_reducible rfl)
          simp only [sA, sB, sC, Act.put, sD, sE, sF]
          refine wpAnyD_ready (rs := [16]) (by kernel_rfl) (by simp) ?_
          refine (AllReadyD.cons rfl (fun K hK => ?_) AllReadyD.nil)
          have k9 := fun i => BC.out.cell i
          have f9 := fun i => BC.out.frozen i
          go_simp
          generalize hV : World.setCell v25 _ _ = v26
          have EA := Lib.hid (by rw [← hV]; have h := EA.out; rw [show (y.did ++ [(⟨u2, u7⟩ : GDid)]).length = y.did.length + 1 from by simp] at h; exact h : EndSt RB _ w u.heap.size N1 g9 _ _ A1 c1 A2 c2 A3 c3 B4 d4 #[.int .i64 0, .slice none 0 0] #[.int .i64 0, .slice none 0 0, .slice none 0 0, .slice none 0 0, .slice none 0 0] v26)
          clear hV k9 f9 BC L2 L7
          refine hK.out _ _ (fun h => by simp at h) ?_
          clear hK K hHeld
          refine wpAnyD_done (by kernel_rfl) ?_ _
          go_wp2
          go_meet
          case rel => exact ⟨⟨y.state, y.marks, y.busy, y.data, y.did ++ [(⟨u2, u7⟩ : GDid)]⟩, A1, c1, A2, c2, A3, c3, B4, d4, EA.out.mono (by omega)⟩
         ·
          go_simp
          go_wp2_with (go_at_call 47; refine (l20Rd_pick RB _ 3 _ E.out.rd (by omega) (by omega)).mono ?_; rintro e v27 ⟨z7, rfl, h0, h1, _, hr, ht⟩; obtain ⟨p7, rfl⟩ := Int.eq_ofNat_of_zero_le h0)
          have QP7 : Hid (p7 < 3) := by show _ < _; have := h1 (by omega); omega
          have E := Lib.hid (E.out.pick hr ht)
          have DO := Lib.hid (DO.out.kept (Kept.of_turned ht UR.out))
          have L2 := Lib.hid (L2.out.turned ht (by have := G2.out.1; omega))
          clear h0 h1 hr ht hHeld
          have hHeld : (fun V : World => V.cell? ⟨g9, 4, none⟩ = some (.slice A4 y.did.length c4) ∧ V.cell? ⟨gl2, p2, none⟩ = some (.int .i64 u2)) _ := ⟨E.out.bc.cell 4, (L2.out.cell p2).trans Z2.out⟩
          refine hK.out _ _ (fun _ => hHeld) ?_
          clear hK K
          refine wpAnyD_ready (rs := [7]) (by kernel_rfl) (by simp) ?_
          refine (AllReadyD.cons rfl (fun K hK => ?_) AllReadyD.nil)
          go_simp
          generalize hV : World.alloc v27 _ = v28
          have hb : Below v27.heap.size v27 v28 := by rw [← hV]; exact (Below.refl _ _).alloc (Nat.le_refl _) _
          have L7 : Hid (Bk v28 v27.heap.size 3 (iv [0, 5, 1]).toArray) := by show Bk _ _ _ _; rw [← hV]; exact Bk.new rfl
          have G7 : Hid (RB < v27.heap.size ∧ ∀ q, Value.ownBlock (.slice A4 y.did.length c4) = some q → q < v27.heap.size) := ⟨E.out.rd.lt, fun q hq => (DO.out.lt q hq).2⟩
          have E := Lib.hid (E.out.more hb)
          have DO := Lib.hid (DO.out.later hb)
          have L2 := Lib.hid (L2.out.later hb)
          clear hV hb hHeld
          generalize v27.heap.size = gl7 at L7 G7 ⊢
          have hHeld : (fun V : World => V.cell? ⟨g9, 4, none⟩ = some (.slice A4 y.did.length c4) ∧ V.cell? ⟨gl2, p2, none⟩ = some (.int .i64 u2)) _ := ⟨E.out.bc.cell 4, (L2.out.cell p2).trans Z2.out⟩
          refine hK.out _ _ (fun _ => hHeld) ?_
          clear hK K
          obtain ⟨u7, hu7⟩ := lit3 (0) 5 1 p7 QP7.out
          have Z7 := Lib.hid hu7
          clear hu7
          have hq1 : (p7 : Int) < ((3 : Nat) : Int) := by have := QP7.out; omega
          have hq2 : (p7 : Int) < 3 := by have := QP7.out; omega
          refine tkD (i := 10) (v := .pointer (some ⟨gl7, p7, none⟩)) rfl (.inl ⟨by rfl, ?_⟩) ?_
          ·
           intro V hSw; (try dsimp only at hSw); go_simp; (try with_reducible rfl)
          simp only [sA, sB, sC, Act.put, sD, sE, sF]
          refine wpAnyD_more (S' := (fun V : World => V.cell? ⟨g9, 4, none⟩ = some (.slice A4 y.did.length c4) ∧ V.cell? ⟨gl2, p2, none⟩ = some (.int .i64 u2) ∧ V.cell? ⟨gl7, p7, none⟩ = some (.int .i64 u7))) (fun V hV => ⟨hV.1, hV.2.1⟩) ?_
          clear hHeld
          have hHeld : (fun V : World => V.cell? ⟨g9, 4, none⟩ = some (.slice A4 y.did.length c4) ∧ V.cell? ⟨gl2, p2, none⟩ = some (.int .i64 u2) ∧ V.cell? ⟨gl7, p7, none⟩ = some (.int .i64 u7)) _ := ⟨E.out.bc.cell 4, (L2.out.cell p2).trans Z2.out, (L7.out.cell p7).trans Z7.out⟩
          refine tkD (i := 11) (v := ?_) rfl (.inl ⟨by rfl, ?_⟩) ?_
          rotate_left
          ·
           intro V hSw; (try dsimp only at hSw); go_simp; (try with_reducible rfl)
          simp only [sA, sB, sC, Act.put, sD, sE, sF]
          clear hq1 hq2
          refine tkD (i := 12) (v := ?_) rfl (.inl ⟨by rfl, ?_⟩) ?_
          rotate_left
          ·
           intro V hSw; (try dsimp only at hSw); go_simp; (try with_reducible rfl)
          simp only [sA, sB, sC, Act.put, sD, sE, sF]
          refine wpAnyD_ready (rs := [13]) (by kernel_rfl) (by simp) ?_
          refine (AllReadyD.cons rfl (fun K hK => ?_) AllReadyD.nil)
          go_simp
          generalize hV : World.alloc v28 _ = v29
          have hb : Below v28.heap.size v28 v29 := by rw [← hV]; exact (Below.refl _ _).alloc (Nat.le_refl _) _
          have LD : Hid (Bk v29 v28.heap.size 53 #[.int .i64 u2, .int .i64 u7]) := by show Bk _ _ _ _; rw [← hV]; exact Bk.new rfl
          have E := Lib.hid (E.out.more hb)
          have DO := Lib.hid (DO.out.later hb)
          have L2 := Lib.hid (L2.out.later hb)
          have L7 := Lib.hid (L7.out.later hb)
          clear hV hb hHeld
          generalize v28.heap.size = gd at LD ⊢
          have hHeld : (fun V : World => V.cell? ⟨g9, 4, none⟩ = some (.slice A4 y.did.length c4) ∧ V.cell? ⟨gl2, p2, none⟩ = some (.int .i64 u2) ∧ V.cell? ⟨gl7, p7, none⟩ = some (.int .i64 u7)) _ := ⟨E.out.bc.cell 4, (L2.out.cell p2).trans Z2.out, (L7.out.cell p7).trans Z7.out⟩
          refine hK.out _ _ (fun _ => hHeld) ?_
          clear hK K
          refine wpAnyD_ready (rs := [14]) (by kernel_rfl) (by simp) ?_
          refine (AllReadyD.cons rfl (fun K hK => ?_) AllReadyD.nil)
          refine step_C6 rfl (.tmp 80) (.tmp 92) 41 rfl didC 53 _ 16 Try.underlying41 info_did rfl (by decide) (by decide) u.heap.size (.slice A4 y.did.length c4) y.did rfl DO.out ⟨u2, u7⟩ _ u.heap.size 0 rfl (Nat.le_refl _) (Nat.zero_le _) (fun _ _ => .inr (Nat.zero_le _)) gd rfl (fun j u hu => (LD.out.cell j).trans (by simpa [GDid.cells] using hu)) (by simp [GDid.cells, Value.oneCell']) (by have := DL.out; omega) E.out.lo_le ?_
          intro v' v30 hown hgr hbe hob
          obtain ⟨B4, d4, hv4, hdd⟩ := hown.rows (by have := DL.out; simp; omega)
          have hoff := E.out.did_off hv4 hob fun q hq => (OB.out q hq).2.1
          subst hv4
          have EA := Lib.hid (E.out.app (d4 := d4) hgr OB.out hbe hdd (fun _ => hoff) (by have := DL.out; simp; omega))
          have BC : Hid (Bk v30 g9 43 (caseCells y A1 c1 A2 c2 A3 c3 A4 c4)) := (hgr.block g9 E.out.bc.lt (fun he => (OB.out g9 he.symm).2.1 rfl)).trans E.out.bc
          have L2 : Hid (Bk v30 gl2 3 _) := (hgr.block gl2 L2.out.lt (fun he => by have := G2.out.2 _ he.symm; omega)).trans L2.out
          have L7 : Hid (Bk v30 gl7 3 _) := (hgr.block gl7 L7.out.lt (fun he => by have := G7.out.2 _ he.symm; omega)).trans L7.out
          have hHeld : (fun V : World => V.cell? ⟨g9, 4, none⟩ = some (.slice A4 y.did.length c4) ∧ V.cell? ⟨gl2, p2, none⟩ = some (.int .i64 u2) ∧ V.cell? ⟨gl7, p7, none⟩ = some (.int .i64 u7)) _ := ⟨BC.out.cell 4, (L2.out.cell p2).trans Z2.out, (L7.out.cell p7).trans Z7.out⟩
          clear hown hgr hbe hob hdd E DO hoff
          refine hK.out _ _ (fun _ => hHeld) ?_
          clear hK K
          try simp only [sA, sB, sC, Act.put, sD, sE, sF]
          refine tkD (i := 15) (v := ?_) rfl (.inl ⟨by rfl, ?_⟩) ?_
          rotate_left
          ·
           intro V hSw; (try dsimp only at hSw); go_simp; (try with_reducible rfl)
          simp only [sA, sB, sC, Act.put, sD, sE, sF]
          refine wpAnyD_ready (rs := [16]) (by kernel_rfl) (by simp) ?_
          refine (AllReadyD.cons rfl (fun K hK => ?_) AllReadyD.nil)
          have k9 := fun i => BC.out.cell i
          have f9 := fun i => BC.out.frozen i
          go_simp
          generalize hV : World.setCell v30 _ _ = v31
          have EA := Lib.hid (by rw [← hV]; have h := EA.out; rw [show (y.did ++ [(⟨u2, u7⟩ : GDid)]).length = y.did.length + 1 from by simp] at h; exact h : EndSt RB _ w u.heap.size N1 g9 _ _ A1 c1 A2 c2 A3 c3 B4 d4 #[.int .i64 0, .slice none 0 0] #[.int .i64 0, .slice none 0 0, .slice none 0 0, .slice none 0 0, .slice none 0 0] v31)
          clear hV k9 f9 BC L2 L7
          refine hK.out _ _ (fun h => by simp at h) ?_
          clear hK K hHeld
          refine wpAnyD_done (by kernel_rfl) ?_ _
          go_wp2
          go_meet
          case rel => exact ⟨⟨y.state, y.marks, y.busy, y.data, y.did ++ [(⟨u2, u7⟩ : GDid)]⟩, A1, c1, A2, c2, A3, c3, B4, d4, EA.out.mono (by omega)⟩
        ·
         go_simp
         generalize hV : World.alloc v20 _ = v32
         have hb : Below v20.heap.size v20 v32 := by rw [← hV]; exact (Below.refl _ _).alloc (Nat.le_refl _) _
         have L7 : Hid (Bk v32 v20.heap.size 3 (iv [0, 5, 1]).toArray) := by show Bk _ _ _ _; rw [← hV]; exact Bk.new rfl
         have G7 : Hid (RB < v20.heap.size ∧ ∀ q, Value.ownBlock (.slice A4 y.did.length c4) = some q → q < v20.heap.size) := ⟨E.out.rd.lt, fun q hq => (DO.out.lt q hq).2⟩
         have E := Lib.hid (E.out.more hb)
         have DO := Lib.hid (DO.out.later hb)
         have L2 := Lib.hid (L2.out.later hb)
         clear hV hb hHeld
         generalize v20.heap.size = gl7 at L7 G7 ⊢
         have hHeld : (fun V : World => V.cell? ⟨g9, 4, none⟩ = some (.slice A4 y.did.length c4)) _ := E.out.bc.cell 4
         refine hK.out _ _ (fun _ => hHeld) ?_
         clear hK K
         refine wpAnyD_ready (rs := [4]) (by kernel_rfl) (by simp) ?_
         refine (AllReadyD.cons rfl (fun K hK => ?_) AllReadyD.nil)
         go_simp
         go_wp2_with (go_at_call 47; refine (l20Rd_pick RB _ 3 _ E.out.rd (by omega) (by omega)).mono ?_; rintro e v33 ⟨z2, rfl, h0, h1, _, hr, ht⟩; obtain ⟨p2, rfl⟩ := Int.eq_ofNat_of_zero_le h0)
         have QP2 : Hid (p2 < 3) := by show _ < _; have := h1 (by omega); omega
         have E := Lib.hid (E.out.pick hr ht)
         have DO := Lib.hid (DO.out.kept (Kept.of_turned ht UR.out))
         have L2 := Lib.hid (L2.out.turned ht (by have := G2.out.1; omega))
         have L7 := Lib.hid (L7.out.turned ht (by have := G7.out.1; omega))
         clear h0 h1 hr ht hHeld
         have hHeld : (fun V : World => V.cell? ⟨g9, 4, none⟩ = some (.slice A4 y.did.length c4)) _ := E.out.bc.cell 4
         refine hK.out _ _ (fun _ => hHeld) ?_
         clear hK K
         obtain ⟨u2, hu2⟩ := lit3 (-1) 6 0 p2 QP2.out
         have Z2 := Lib.hid hu2
         clear hu2
         have hq1 : (p2 : Int) < ((3 : Nat) : Int) := by have := QP2.out; omega
         have hq2 : (p2 : Int) < 3 := by have := QP2.out; omega
         refine tkD (i := 5) (v := .pointer (some ⟨gl2, p2, none⟩)) rfl (.inl ⟨by rfl, ?_⟩) ?_
         ·
          intro V hSw; (try dsimp only at hSw); go_simp; (try with_reducible rfl)
         simp only [sA, sB, sC, Act.put, sD, sE, sF]
         refine wpAnyD_more (S' := (fun V : World => V.cell? ⟨g9, 4, none⟩ = some (.slice A4 y.did.length c4) ∧ V.cell? ⟨gl2, p2, none⟩ = some (.int .i64 u2))) (fun V hV => hV.1) ?_
         clear hHeld
         have hHeld : (fun V : World => V.cell? ⟨g9, 4, none⟩ = some (.slice A4 y.did.length c4) ∧ V.cell? ⟨gl2, p2, none⟩ = some (.int .i64 u2)) _ := ⟨E.out.bc.cell 4, (L2.out.cell p2).trans Z2.out⟩
         refine tkD (i := 6) (v := ?_) rfl (.inl ⟨by rfl, ?_⟩) ?_
         rotate_left
         ·
          intro V hSw; (try dsimp only at hSw); go_simp; (try with_reducible rfl)
         simp only [sA, sB, sC, Act.put, sD, sE, sF]
         clear hq1 hq2
         refine wpAnyD_ready (rs := [9]) (by kernel_rfl) (by simp) ?_
         refine (AllReadyD.cons rfl (fun K hK => ?_) AllReadyD.nil)
         go_simp
         go_wp2_with (go_at_call 47; refine (l20Rd_pick RB _ 3 _ E.out.rd (by omega) (by omega)).mono ?_; rintro e v34 ⟨z7, rfl, h0, h1, _, hr, ht⟩; obtain ⟨p7, rfl⟩ := Int.eq_ofNat_of_zero_le h0)
         have QP7 : Hid (p7 < 3) := by show _ < _; have := h1 (by omega); omega
         have E := Lib.hid (E.out.pick hr ht)
         have DO := Lib.hid (DO.out.kept (Kept.of_turned ht UR.out))
         have L2 := Lib.hid (L2.out.turned ht (by have := G2.out.1; omega))
         have L7 := Lib.hid (L7.out.turned ht (by have := G7.out.1; omega))
         clear h0 h1 hr ht hHeld
         have hHeld : (fun V : World => V.cell? ⟨g9, 4, none⟩ = some (.slice A4 y.did.length c4) ∧ V.cell? ⟨gl2, p2, none⟩ = some (.int .i64 u2)) _ := ⟨E.out.bc.cell 4, (L2.out.cell p2).trans Z2.out⟩
         refine hK.out _ _ (fun _ => hHeld) ?_
         clear hK K
         obtain ⟨u7, hu7⟩ := lit3 (0) 5 1 p7 QP7.out
         have Z7 := Lib.hid hu7
         clear hu7
         have hq1 : (p7 : Int) < ((3 : Nat) : Int) := by have := QP7.out; omega
         have hq2 : (p7 : Int) < 3 := by have := QP7.out; omega
         refine tkD (i := 10) (v := .pointer (some ⟨gl7, p7, none⟩)) rfl (.inl ⟨by rfl, ?_⟩) ?_
         ·
          intro V hSw; (try dsimp only at hSw); go_simp; (try with_reducible rfl)
         simp only [sA, sB, sC, Act.put, sD, sE, sF]
         refine wpAnyD_more (S' := (fun V : World => V.cell? ⟨g9, 4, none⟩ = some (.slice A4 y.did.length c4) ∧ V.cell? ⟨gl2, p2, none⟩ = some (.int .i64 u2) ∧ V.cell? ⟨gl7, p7, none⟩ = some (.int .i64 u7))) (fun V hV => ⟨hV.1, hV.2.1⟩) ?_
         clear hHeld
         have hHeld : (fun V : World => V.cell? ⟨g9, 4, none⟩ = some (.slice A4 y.did.length c4) ∧ V.cell? ⟨gl2, p2, none⟩ = some (.int .i64 u2) ∧ V.cell? ⟨gl7, p7, none⟩ = some (.int .i64 u7)) _ := ⟨E.out.bc.cell 4, (L2.out.cell p2).trans Z2.out, (L7.out.cell p7).trans Z7.out⟩
         refine tkD (i := 11) (v := ?_) rfl (.inl ⟨by rfl, ?_⟩) ?_
         rotate_left
         ·
          intro V hSw; (try dsimp only at hSw); go_simp; (try with_reducible rfl)
         simp only [sA, sB, sC, Act.put, sD, sE, sF]
         clear hq1 hq2
         refine tkD (i := 12) (v := ?_) rfl (.inl ⟨by rfl, ?_⟩) ?_
         rotate_left
         ·
          intro V hSw; (try dsimp only at hSw); go_simp; (try with_reducible rfl)
         simp only [sA, sB, sC, Act.put, sD, sE, sF]
         refine wpAnyD_ready (rs := [13]) (by kernel_rfl) (by simp) ?_
         refine (AllReadyD.cons rfl (fun K hK => ?_) AllReadyD.nil)
         go_simp
         generalize hV : World.alloc v34 _ = v35
         have hb : Below v34.heap.size v34 v35 := by rw [← hV]; exact (Below.refl _ _).alloc (Nat.le_refl _) _
         have LD : Hid (Bk v35 v34.heap.size 53 #[.int .i64 u2, .int .i64 u7]) := by show Bk _ _ _ _; rw [← hV]; exact Bk.new rfl
         have E := Lib.hid (E.out.more hb)
         have DO := Lib.hid (DO.out.later hb)
         have L2 := Lib.hid (L2.out.later hb)
         have L7 := Lib.hid (L7.out.later hb)
         clear hV hb hHeld
         generalize v34.heap.size = gd at LD ⊢
         have hHeld : (fun V : World => V.cell? ⟨g9, 4, none⟩ = some (.slice A4 y.did.length c4) ∧ V.cell? ⟨gl2, p2, none⟩ = some (.int .i64 u2) ∧ V.cell? ⟨gl7, p7, none⟩ = some (.int .i64 u7)) _ := ⟨E.out.bc.cell 4, (L2.out.cell p2).trans Z2.out, (L7.out.cell p7).trans Z7.out⟩
         refine hK.out _ _ (fun _ => hHeld) ?_
         clear hK K
         refine wpAnyD_ready (rs := [14]) (by kernel_rfl) (by simp) ?_
         refine (AllReadyD.cons rfl (fun K hK => ?_) AllReadyD.nil)
         refine step_C6 rfl (.tmp 80) (.tmp 92) 41 rfl didC 53 _ 16 Try.underlying41 info_did rfl (by decide) (by decide) u.heap.size (.slice A4 y.did.length c4) y.did rfl DO.out ⟨u2, u7⟩ _ u.heap.size 0 rfl (Nat.le_refl _) (Nat.zero_le _) (fun _ _ => .inr (Nat.zero_le _)) gd rfl (fun j u hu => (LD.out.cell j).trans (by simpa [GDid.cells] using hu)) (by simp [GDid.cells, Value.oneCell']) (by have := DL.out; omega) E.out.lo_le ?_
         intro v' v36 hown hgr hbe hob
         obtain ⟨B4, d4, hv4, hdd⟩ := hown.rows (by have := DL.out; simp; omega)
         have hoff := E.out.did_off hv4 hob fun q hq => (OB.out q hq).2.1
         subst hv4
         have EA := Lib.hid (E.out.app (d4 := d4) hgr OB.out hbe hdd (fun _ => hoff) (by have := DL.out; simp; omega))
         have BC : Hid (Bk v36 g9 43 (caseCells y A1 c1 A2 c2 A3 c3 A4 c4)) := (hgr.block g9 E.out.bc.lt (fun he => (OB.out g9 he.symm).2.1 rfl)).trans E.out.bc
         have L2 : Hid (Bk v36 gl2 3 _) := (hgr.block gl2 L2.out.lt (fun he => by have := G2.out.2 _ he.symm; omega)).trans L2.out
         have L7 : Hid (Bk v36 gl7 3 _) := (hgr.block gl7 L7.out.lt (fun he => by have := G7.out.2 _ he.symm; omega)).trans L7.out
         have hHeld : (fun V : World => V.cell? ⟨g9, 4, none⟩ = some (.slice A4 y.did.length c4) ∧ V.cell? ⟨gl2, p2, none⟩ = some (.int .i64 u2) ∧ V.cell? ⟨gl7, p7, none⟩ = some (.int .i64 u7)) _ := ⟨BC.out.cell 4, (L2.out.cell p2).trans Z2.out, (L7.out.cell p7).trans Z7.out⟩
         clear hown hgr hbe hob hdd E DO hoff
         refine hK.out _ _ (fun _ => hHeld) ?_
         clear hK K
         try simp only [sA, sB, sC, Act.put, sD, sE, sF]
         refine tkD (i := 15) (v := ?_) rfl (.inl ⟨by rfl, ?_⟩) ?_
         rotate_left
         ·
          intro V hSw; (try dsimp only at hSw); go_simp; (try with_reducible rfl)
         simp only [sA, sB, sC, Act.put, sD, sE, sF]
         refine wpAnyD_ready (rs := [16]) (by kernel_rfl) (by simp) ?_
         refine (AllReadyD.cons rfl (fun K hK => ?_) AllReadyD.nil)
         have k9 := fun i => BC.out.cell i
         have f9 := fun i => BC.out.frozen i
         go_simp
         generalize hV : World.setCell v36 _ _ = v37
         have EA := Lib.hid (by rw [← hV]; have h := EA.out; rw [show (y.did ++ [(⟨u2, u7⟩ : GDid)]).length = y.did.length + 1 from by simp] at h; exact h : EndSt RB _ w u.heap.size N1 g9 _ _ A1 c1 A2 c2 A3 c3 B4 d4 #[.int .i64 0, .slice none 0 0] #[.int .i64 0, .slice none 0 0, .slice none 0 0, .slice none 0 0, .slice none 0 0] v37)
         clear hV k9 f9 BC L2 L7
         refine hK.out _ _ (fun h => by simp at h) ?_
         clear hK K hHeld
         refine wpAnyD_done (by kernel_rfl) ?_ _
         go_wp2
         go_meet
         case rel => exact ⟨⟨y.state, y.marks, y.busy, y.data, y.did ++ [(⟨u2, u7⟩ : GDid)]⟩, A1, c1, A2, c2, A3, c3, B4, d4, EA.out.mono (by omega)⟩
       ·
        go_simp
        go_wp2_with (go_at_call 47; refine (l20Rd_pick RB _ 3 _ E.out.rd (by omega) (by omega)).mono ?_; rintro e v38 ⟨z2, rfl, h0, h1, _, hr, ht⟩; obtain ⟨p2, rfl⟩ := Int.eq_ofNat_of_zero_le h0)
        have QP2 : Hid (p2 < 3) := by show _ < _; have := h1 (by omega); omega
        have E := Lib.hid (E.out.pick hr ht)
        have DO := Lib.hid (DO.out.kept (Kept.of_turned ht UR.out))
        clear h0 h1 hr ht hHeld
        have hHeld : (fun V : World => V.cell? ⟨g9, 4, none⟩ = some (.slice A4 y.did.length c4)) _ := E.out.bc.cell 4
        refine hK.out _ _ (fun _ => hHeld) ?_
        clear hK K
        refine wpAnyD_ready (rs := [2, 7, 9]) (by kernel_rfl) (by simp) ?_
        refine (AllReadyD.cons rfl (fun K hK => ?_) (AllReadyD.cons rfl (fun K hK => ?_) (AllReadyD.cons rfl (fun K hK => ?_) AllReadyD.nil)))
        ·
         go_simp
         generalize hV : World.alloc v38 _ = v39
         have hb : Below v38.heap.size v38 v39 := by rw [← hV]; exact (Below.refl _ _).alloc (Nat.le_refl _) _
         have L2 : Hid (Bk v39 v38.heap.size 3 (iv [-1, 6, 0]).toArray) := by show Bk _ _ _ _; rw [← hV]; exact Bk.new rfl
         have G2 : Hid (RB < v38.heap.size ∧ ∀ q, Value.ownBlock (.slice A4 y.did.length c4) = some q → q < v38.heap.size) := ⟨E.out.rd.lt, fun q hq => (DO.out.lt q hq).2⟩
         have E := Lib.hid (E.out.more hb)
         have DO := Lib.hid (DO.out.later hb)
         clear hV hb hHeld
         generalize v38.heap.size = gl2 at L2 G2 ⊢
         have hHeld : (fun V : World => V.cell? ⟨g9, 4, none⟩ = some (.slice A4 y.did.length c4)) _ := E.out.bc.cell 4
         refine hK.out _ _ (fun _ => hHeld) ?_
         clear hK K
         obtain ⟨u2, hu2⟩ := lit3 (-1) 6 0 p2 QP2.out
         have Z2 := Lib.hid hu2
         clear hu2
         have hq1 : (p2 : Int) < ((3 : Nat) : Int) := by have := QP2.out; omega
         have hq2 : (p2 : Int) < 3 := by have := QP2.out; omega
         refine tkD (i := 5) (v := .pointer (some ⟨gl2, p2, none⟩)) rfl (.inl ⟨by rfl, ?_⟩) ?_
         ·
          intro V hSw; (try dsimp only at hSw); go_simp; (try with_reducible rfl)
         simp only [sA, sB, sC, Act.put, sD, sE, sF]
         refine wpAnyD_more (S' := (fun V : World => V.cell? ⟨g9, 4, none⟩ = some (.slice A4 y.did.length c4) ∧ V.cell? ⟨gl2, p2, none⟩ = some (.int .i64 u2))) (fun V hV => hV.1) ?_
         clear hHeld
         have hHeld : (fun V : World => V.cell? ⟨g9, 4, none⟩ = some (.slice A4 y.did.length c4) ∧ V.cell? ⟨gl2, p2, none⟩ = some (.int .i64 u2)) _ := ⟨E.out.bc.cell 4, (L2.out.cell p2).trans Z2.out⟩
         refine tkD (i := 6) (v := ?_) rfl (.inl ⟨by rfl, ?_⟩) ?_
         rotate_left
         ·
          intro V hSw; (try dsimp only at hSw); go_simp; (try with_reducible rfl)
         simp only [sA, sB, sC, Act.put, sD, sE, sF]
         clear hq1 hq2
         refine wpAnyD_ready (rs := [7, 9]) (by kernel_rfl) (by simp) ?_
         refine (AllReadyD.cons rfl (fun K hK => ?_) (AllReadyD.cons rfl (fun K hK => ?_) AllReadyD.nil))
         ·
          go_simp
          generalize hV : World.alloc v39 _ = v40
          have hb : Below v39.heap.size v39 v40 := by rw [← hV]; exact (Below.refl _ _).alloc (Nat.le_refl _) _
          have L7 : Hid (Bk v40 v39.heap.size 3 (iv [0, 5, 1]).toArray) := by show Bk _ _ _ _; rw [← hV]; exact Bk.new rfl
          have G7 : Hid (RB < v39.heap.size ∧ ∀ q, Value.ownBlock (.slice A4 y.did.length c4) = some q → q < v39.heap.size) := ⟨E.out.rd.lt, fun q hq => (DO.out.lt q hq).2⟩
          have E := Lib.hid (E.out.more hb)
          have DO := Lib.hid (DO.out.later hb)
          have L2 := Lib.hid (L2.out.later hb)
          clear hV hb hHeld
          generalize v39.heap.size = gl7 at L7 G7 ⊢
          have hHeld : (fun V : World => V.cell? ⟨g9, 4, none⟩ = some (.slice A4 y.did.length c4) ∧ V.cell? ⟨gl2, p2, none⟩ = some (.int .i64 u2)) _ := ⟨E.out.bc.cell 4, (L2.out.cell p2).trans Z2.out⟩
          refine hK.out _ _ (fun _ => hHeld) ?_
          clear hK K
          refine wpAnyD_ready (rs := [9]) (by kernel_rfl) (by simp) ?_
          refine (AllReadyD.cons rfl (fun K hK => ?_) AllReadyD.nil)
          go_simp
          go_wp2_with (go_at_call 47; refine (l20Rd_pick RB _ 3 _ E.out.rd (by omega) (by omega)).mono ?_; rintro e v41 ⟨z7, rfl, h0, h1, _, hr, ht⟩; obtain ⟨p7, rfl⟩ := Int.eq_ofNat_of_zero_le h0)
          have QP7 : Hid (p7 < 3) := by show _ < _; have := h1 (by omega); omega
          have E := Lib.hid (E.out.pick hr ht)
          have DO := Lib.hid (DO.out.kept (Kept.of_turned ht UR.out))
          have L2 := Lib.hid (L2.out.turned ht (by have := G2.out.1; omega))
          have L7 := Lib.hid (L7.out.turned ht (by have := G7.out.1; omega))
          clear h0 h1 hr ht hHeld
          have hHeld : (fun V : World => V.cell? ⟨g9, 4, none⟩ = some (.slice A4 y.did.length c4) ∧ V.cell? ⟨gl2, p2, none⟩ = some (.int .i64 u2)) _ := ⟨E.out.bc.cell 4, (L2.out.cell p2).trans Z2.out⟩
          refine hK.out _ _ (fun _ => hHeld) ?_
          clear hK K
          obtain ⟨u7, hu7⟩ := lit3 (0) 5 1 p7 QP7.out
          have Z7 := Lib.hid hu7
          clear hu7
          have hq1 : (p7 : Int) < ((3 : Nat) : Int) := by have := QP7.out; omega
          have hq2 : (p7 : Int) < 3 := by have := QP7.out; omega
          refine tkD (i := 10) (v := .pointer (some ⟨gl7, p7, none⟩)) rfl (.inl ⟨by rfl, ?_⟩) ?_
          ·
           intro V hSw; (try dsimp only at hSw); go_simp; (try with_reducible rfl)
          simp only [sA, sB, sC, Act.put, sD, sE, sF]
          refine wpAnyD_more (S' := (fun V : World => V.cell? ⟨g9, 4, none⟩ = some (.slice A4 y.did.length c4) ∧ V.cell? ⟨gl2, p2, none⟩ = some (.int .i64 u2) ∧ V.cell? ⟨gl7, p7, none⟩ = some (.int .i64 u7))) (fun V hV => ⟨hV.1, hV.2.1⟩) ?_
          clear hHeld
          have hHeld : (fun V : World => V.cell? ⟨g9, 4, none⟩ = some (.slice A4 y.did.length c4) ∧ V.cell? ⟨gl2, p2, none⟩ = some (.int .i64 u2) ∧ V.cell? ⟨gl7, p7, none⟩ = some (.int .i64 u7)) _ := ⟨E.out.bc.cell 4, (L2.out.cell p2).trans Z2.out, (L7.out.cell p7).trans Z7.out⟩
          refine tkD (i := 11) (v := ?_) rfl (.inl ⟨by rfl, ?_⟩) ?_
          rotate_left
          ·
           intro V hSw; (try dsimp only at hSw); go_simp; (try with_reducible rfl)
          simp only [sA, sB, sC, Act.put, sD, sE, sF]
          clear hq1 hq2
          refine tkD (i := 12) (v := ?_) rfl (.inl ⟨by rfl, ?_⟩) ?_
          rotate_left
          ·
           intro V hSw; (try dsimp only at hSw); go_simp; (try with_reducible rfl)
          simp only [sA, sB, sC, Act.put, sD, sE, sF]
          refine wpAnyD_ready (rs := [13]) (by kernel_rfl) (by simp) ?_
          refine (AllReadyD.cons rfl (fun K hK => ?_) AllReadyD.nil)
          go_simp
          generalize hV : World.alloc v41 _ = v42
          have hb : Below v41.heap.size v41 v42 := by rw [← hV]; exact (Below.refl _ _).alloc (Nat.le_refl _) _
          have LD : Hid (Bk v42 v41.heap.size 53 #[.int .i64 u2, .int .i64 u7]) := by show Bk _ _ _ _; rw [← hV]; exact Bk.new rfl
          have E := Lib.hid (E.out.more hb)
          have DO := Lib.hid (DO.out.later hb)
          have L2 := Lib.hid (L2.out.later hb)
          have L7 := Lib.hid (L7.out.later hb)
          clear hV hb hHeld
          generalize v41.heap.size = gd at LD ⊢
          have hHeld : (fun V : World => V.cell? ⟨g9, 4, none⟩ = some (.slice A4 y.did.length c4) ∧ V.cell? ⟨gl2, p2, none⟩ = some (.int .i64 u2) ∧ V.cell? ⟨gl7, p7, none⟩ = some (.int .i64 u7)) _ := ⟨E.out.bc.cell 4, (L2.out.cell p2).trans Z2.out, (L7.out.cell p7).trans Z7.out⟩
          refine hK.out _ _ (fun _ => hHeld) ?_
          clear hK K
          refine wpAnyD_ready (rs := [14]) (by kernel_rfl) (by simp) ?_
          refine (AllReadyD.cons rfl (fun K hK => ?_) AllReadyD.nil)
          refine step_C6 rfl (.tmp 80) (.tmp 92) 41 rfl didC 53 _ 16 Try.underlying41 info_did rfl (by decide) (by decide) u.heap.size (.slice A4 y.did.length c4) y.did rfl DO.out ⟨u2, u7⟩ _ u.heap.size 0 rfl (Nat.le_refl _) (Nat.zero_le _) (fun _ _ => .inr (Nat.zero_le _)) gd rfl (fun j u hu => (LD.out.cell j).trans (by simpa [GDid.cells] using hu)) (by simp [GDid.cells, Value.oneCell']) (by have := DL.out; omega) E.out.lo_le ?_
          intro v' v43 hown hgr hbe hob
          obtain ⟨B4, d4, hv4, hdd⟩ := hown.rows (by have := DL.out; simp; omega)
          have hoff := E.out.did_off hv4 hob fun q hq => (OB.out q hq).2.1
          subst hv4
          have EA := Lib.hid (E.out.app (d4 := d4) hgr OB.out hbe hdd (fun _ => hoff) (by have := DL.out; simp; omega))
          have BC : Hid (Bk v43 g9 43 (caseCells y A1 c1 A2 c2 A3 c3 A4 c4)) := (hgr.block g9 E.out.bc.lt (fun he => (OB.out g9 he.symm).2.1 rfl)).trans E.out.bc
          have L2 : Hid (Bk v43 gl2 3 _) := (hgr.block gl2 L2.out.lt (fun he => by have := G2.out.2 _ he.symm; omega)).trans L2.out
          have L7 : Hid (Bk v43 gl7 3 _) := (hgr.block gl7 L7.out.lt (fun he => by have := G7.out.2 _ he.symm; omega)).trans L7.out
          have hHeld : (fun V : World => V.cell? ⟨g9, 4, none⟩ = some (.slice A4 y.did.length c4) ∧ V.cell? ⟨gl2, p2, none⟩ = some (.int .i64 u2) ∧ V.cell? ⟨gl7, p7, none⟩ = some (.int .i64 u7)) _ := ⟨BC.out.cell 4, (L2.out.cell p2).trans Z2.out, (L7.out.cell p7).trans Z7.out⟩
          clear hown hgr hbe hob hdd E DO hoff
          refine hK.out _ _ (fun _ => hHeld) ?_
          clear hK K
          try simp only [sA, sB, sC, Act.put, sD, sE, sF]
          refine tkD (i := 15) (v := ?_) rfl (.inl ⟨by rfl, ?_⟩) ?_
          rotate_left
          ·
           intro V hSw; (try dsimp only at hSw); go_simp; (try with_reducible rfl)
          simp only [sA, sB, sC, Act.put, sD, sE, sF]
          refine wpAnyD_ready (rs := [16]) (by kernel_rfl) (by simp) ?_
          refine (AllReadyD.cons rfl (fun K hK => ?_) AllReadyD.nil)
          have k9 := fun i => BC.out.cell i
          have f9 := fun i => BC.out.frozen i
          go_simp
          generalize hV : World.setCell v43 _ _ = v44
          have EA := Lib.hid (by rw [← hV]; have h := EA.out; rw [show (y.did ++ [(⟨u2, u7⟩ : GDid)]).length = y.did.length + 1 from by simp] at h; exact h : EndSt RB _ w u.heap.size N1 g9 _ _ A1 c1 A2 c2 A3 c3 B4 d4 #[.int .i64 0, .slice none 0 0] #[.int .i64 0, .slice none 0 0, .slice none 0 0, .slice none 0 0, .slice none 0 0] v44)
          clear hV k9 f9 BC L2 L7
          refine hK.out _ _ (fun h => by simp at h) ?_
          clear hK K hHeld
          refine wpAnyD_done (by kernel_rfl) ?_ _
          go_wp2
          go_meet
          case rel => exact ⟨⟨y.state, y.marks, y.busy, y.data, y.did ++ [(⟨u2, u7⟩ : GDid)]⟩, A1, c1, A2, c2, A3, c3, B4, d4, EA.out.mono (by omega)⟩
         ·
          go_simp
          go_wp2_with (go_at_call 47; refine (l20Rd_pick RB _ 3 _ E.out.rd (by omega) (by omega)).mono ?_; rintro e v45 ⟨z7, rfl, h0, h1, _, hr, ht⟩; obtain ⟨p7, rfl⟩ := Int.eq_ofNat_of_zero_le h0)
          have QP7 : Hid (p7 < 3) := by show _ < _; have := h1 (by omega); omega
          have E := Lib.hid (E.out.pick hr ht)
          have DO := Lib.hid (DO.out.kept (Kept.of_turned ht UR.out))
          have L2 := Lib.hid (L2.out.turned ht (by have := G2.out.1; omega))
          clear h0 h1 hr ht hHeld
          have hHeld : (fun V : World => V.cell? ⟨g9, 4, none⟩ = some (.slice A4 y.did.length c4) ∧ V.cell? ⟨gl2, p2, none⟩ = some (.int .i64 u2)) _ := ⟨E.out.bc.cell 4, (L2.out.cell p2).trans Z2.out⟩
          refine hK.out _ _ (fun _ => hHeld) ?_
          clear hK K
          refine wpAnyD_ready (rs := [7]) (by kernel_rfl) (by simp) ?_
          refine (AllReadyD.cons rfl (fun K hK => ?_) AllReadyD.nil)
          go_simp
          generalize hV : World.alloc v45 _ = v46
          have hb : Below v45.heap.size v45 v46 := by rw [← hV]; exact (Below.refl _ _).alloc (Nat.le_refl _) _
          have L7 : Hid (Bk v46 v45.heap.size 3 (iv [0, 5, 1]).toArray) := by show Bk _ _ _ _; rw [← hV]; exact Bk.new rfl
          have G7 : Hid (RB < v45.heap.size ∧ ∀ q, Value.ownBlock (.slice A4 y.did.length c4) = some q → q < v45.heap.size) := ⟨E.out.rd.lt, fun q hq => (DO.out.lt q hq).2⟩
          have E := Lib.hid (E.out.more hb)
          have DO := Lib.hid (DO.out.later hb)
          have L2 := Lib.hid (L2.out.later hb)
          clear hV hb hHeld
          generalize v45.heap.size = gl7 at L7 G7 ⊢
          have hHeld : (fun V : World => V.cell? ⟨g9, 4, none⟩ = some (.slice A4 y.did.length c4) ∧ V.cell? ⟨gl2, p2, none⟩ = some (.int .i64 u2)) _ := ⟨E.out.bc.cell 4, (L2.out.cell p2).trans Z2.out⟩
          refine hK.out _ _ (fun _ => hHeld) ?_
          clear hK K
          obtain ⟨u7, hu7⟩ := lit3 (0) 5 1 p7 QP7.out
          have Z7 := Lib.hid hu7
          clear hu7
          have hq1 : (p7 : Int) < ((3 : Nat) : Int) := by have := QP7.out; omega
          have hq2 : (p7 : Int) < 3 := by have := QP7.out; omega
          refine tkD (i := 10) (v := .pointer (some ⟨gl7, p7, none⟩)) rfl (.inl ⟨by rfl, ?_⟩) ?_
          ·
           intro V hSw; (try dsimp only at hSw); go_simp; (try with_reducible rfl)
          simp only [sA, sB, sC, Act.put, sD, sE, sF]
          refine wpAnyD_more (S' := (fun V : World => V.cell? ⟨g9, 4, none⟩ = some (.slice A4 y.did.length c4) ∧ V.cell? ⟨gl2, p2, none⟩ = some (.int .i64 u2) ∧ V.cell? ⟨gl7, p7, none⟩ = some (.int .i64 u7))) (fun V hV => ⟨hV.1, hV.2.1⟩) ?_
          clear hHeld
          have hHeld : (fun V : World => V.cell? ⟨g9, 4, none⟩ = some (.slice A4 y.did.length c4) ∧ V.cell? ⟨gl2, p2, none⟩ = some (.int .i64 u2) ∧ V.cell? ⟨gl7, p7, none⟩ = some (.int .i64 u7)) _ := ⟨E.out.bc.cell 4, (L2.out.cell p2).trans Z2.out, (L7.out.cell p7).trans Z7.out⟩
          refine tkD (i := 11) (v := ?_) rfl (.inl ⟨by rfl, ?_⟩) ?_
          rotate_left
          ·
           intro V hSw; (try dsimp only at hSw); go_simp; (try with_reducible rfl)
          simp only [sA, sB, sC, Act.put, sD, sE, sF]
          clear hq1 hq2
          refine tkD (i := 12) (v := ?_) rfl (.inl ⟨by rfl, ?_⟩) ?_
          rotate_left
          ·
           intro V hSw; (try dsimp only at hSw); go_simp; (try with_reducible rfl)
          simp only [sA, sB, sC, Act.put, sD, sE, sF]
          refine wpAnyD_ready (rs := [13]) (by kernel_rfl) (by simp) ?_
          refine (AllReadyD.cons rfl (fun K hK => ?_) AllReadyD.nil)
          go_simp
          generalize hV : World.alloc v46 _ = v47
          have hb : Below v46.heap.size v46 v47 := by rw [← hV]; exact (Below.refl _ _).alloc (Nat.le_refl _) _
          have LD : Hid (Bk v47 v46.heap.size 53 #[.int .i64 u2, .int .i64 u7]) := by show Bk _ _ _ _; rw [← hV]; exact Bk.new rfl
          have E := Lib.hid (E.out.more hb)
          have DO := Lib.hid (DO.out.later hb)
          have L2 := Lib.hid (L2.out.later hb)
          have L7 := Lib.hid (L7.out.later hb)
          clear hV hb hHeld
          generalize v46.heap.size = gd at LD ⊢
          have hHeld : (fun V : World => V.cell? ⟨g9, 4, none⟩ = some (.slice A4 y.did.length c4) ∧ V.cell? ⟨gl2, p2, none⟩ = some (.int .i64 u2) ∧ V.cell? ⟨gl7, p7, none⟩ = some (.int .i64 u7)) _ := ⟨E.out.bc.cell 4, (L2.out.cell p2).trans Z2.out, (L7.out.cell p7).trans Z7.out⟩
          refine hK.out _ _ (fun _ => hHeld) ?_
          clear hK K
          refine wpAnyD_ready (rs := [14]) (by kernel_rfl) (by simp) ?_
          refine (AllReadyD.cons rfl (fun K hK => ?_) AllReadyD.nil)
          refine step_C6 rfl (.tmp 80) (.tmp 92) 41 rfl didC 53 _ 16 Try.underlying41 info_did rfl (by decide) (by decide) u.heap.size (.slice A4 y.did.length c4) y.did rfl DO.out ⟨u2, u7⟩ _ u.heap.size 0 rfl (Nat.le_refl _) (Nat.zero_le _) (fun _ _ => .inr (Nat.zero_le _)) gd rfl (fun j u hu => (LD.out.cell j).trans (by simpa [GDid.cells] using hu)) (by simp [GDid.cells, Value.oneCell']) (by have := DL.out; omega) E.out.lo_le ?_
          intro v' v48 hown hgr hbe hob
          obtain ⟨B4, d4, hv4, hdd⟩ := hown.rows (by have := DL.out; simp; omega)
          have hoff := E.out.did_off hv4 hob fun q hq => (OB.out q hq).2.1
          subst hv4
          have EA := Lib.hid (E.out.app (d4 := d4) hgr OB.out hbe hdd (fun _ => hoff) (by have := DL.out; simp; omega))
          have BC : Hid (Bk v48 g9 43 (caseCells y A1 c1 A2 c2 A3 c3 A4 c4)) := (hgr.block g9 E.out.bc.lt (fun he => (OB.out g9 he.symm).2.1 rfl)).trans E.out.bc
          have L2 : Hid (Bk v48 gl2 3 _) := (hgr.block gl2 L2.out.lt (fun he => by have := G2.out.2 _ he.symm; omega)).trans L2.out
          have L7 : Hid (Bk v48 gl7 3 _) := (hgr.block gl7 L7.out.lt (fun he => by have := G7.out.2 _ he.symm; omega)).trans L7.out
          have hHeld : (fun V : World => V.cell? ⟨g9, 4, none⟩ = some (.slice A4 y.did.length c4) ∧ V.cell? ⟨gl2, p2, none⟩ = some (.int .i64 u2) ∧ V.cell? ⟨gl7, p7, none⟩ = some (.int .i64 u7)) _ := ⟨BC.out.cell 4, (L2.out.cell p2).trans Z2.out, (L7.out.cell p7).trans Z7.out⟩
          clear hown hgr hbe hob hdd E DO hoff
          refine hK.out _ _ (fun _ => hHeld) ?_
          clear hK K
          try simp only [sA, sB, sC, Act.put, sD, sE, sF]
          refine tkD (i := 15) (v := ?_) rfl (.inl ⟨by rfl, ?_⟩) ?_
          rotate_left
          ·
           intro V hSw; (try dsimp only at hSw); go_simp; (try with_reducible rfl)
          simp only [sA, sB, sC, Act.put, sD, sE, sF]
          refine wpAnyD_ready (rs := [16]) (by kernel_rfl) (by simp) ?_
          refine (AllReadyD.cons rfl (fun K hK => ?_) AllReadyD.nil)
          have k9 := fun i => BC.out.cell i
          have f9 := fun i => BC.out.frozen i
          go_simp
          generalize hV : World.setCell v48 _ _ = v49
          have EA := Lib.hid (by rw [← hV]; have h := EA.out; rw [show (y.did ++ [(⟨u2, u7⟩ : GDid)]).length = y.did.length + 1 from by simp] at h; exact h : EndSt RB _ w u.heap.size N1 g9 _ _ A1 c1 A2 c2 A3 c3 B4 d4 #[.int .i64 0, .slice none 0 0] #[.int .i64 0, .slice none 0 0, .slice none 0 0, .slice none 0 0, .slice none 0 0] v49)
          clear hV k9 f9 BC L2 L7
          refine hK.out _ _ (fun h => by simp at h) ?_
          clear hK K hHeld
          refine wpAnyD_done (by kernel_rfl) ?_ _
          go_wp2
          go_meet
          case rel => exact ⟨⟨y.state, y.marks, y.busy, y.data, y.did ++ [(⟨u2, u7⟩ : GDid)]⟩, A1, c1, A2, c2, A3, c3, B4, d4, EA.out.mono (by omega)⟩
        ·
         go_simp
         generalize hV : World.alloc v38 _ = v50
         have hb : Below v38.heap.size v38 v50 := by rw [← hV]; exact (Below.refl _ _).alloc (Nat.le_refl _) _
         have L7 : Hid (Bk v50 v38.heap.size 3 (iv [0, 5, 1]).toArray) := by show Bk _ _ _ _; rw [← hV]; exact Bk.new rfl
         have G7 : Hid (RB < v38.heap.size ∧ ∀ q, Value.ownBlock (.slice A4 y.did.length c4) = some q → q < v38.heap.size) := ⟨E.out.rd.lt, fun q hq => (DO.out.lt q hq).2⟩
         have E := Lib.hid (E.out.more hb)
         have DO := Lib.hid (DO.out.later hb)
         clear hV hb hHeld
         generalize v38.heap.size = gl7 at L7 G7 ⊢
         have hHeld : (fun V : World => V.cell? ⟨g9, 4, none⟩ = some (.slice A4 y.did.length c4)) _ := E.out.bc.cell 4
         refine hK.out _ _ (fun _ => hHeld) ?_
         clear hK K
         refine wpAnyD_ready (rs := [2, 9]) (by kernel_rfl) (by simp) ?_
         refine (AllReadyD.cons rfl (fun K hK => ?_) (AllReadyD.cons rfl (fun K hK => ?_) AllReadyD.nil))
         ·
          go_simp
          generalize hV : World.alloc v50 _ = v51
          have hb : Below v50.heap.size v50 v51 := by rw [← hV]; exact (Below.refl _ _).alloc (Nat.le_refl _) _
          have L2 : Hid (Bk v51 v50.heap.size 3 (iv [-1, 6, 0]).toArray) := by show Bk _ _ _ _; rw [← hV]; exact Bk.new rfl
          have G2 : Hid (RB < v50.heap.size ∧ ∀ q, Value.ownBlock (.slice A4 y.did.length c4) = some q → q < v50.heap.size) := ⟨E.out.rd.lt, fun q hq => (DO.out.lt q hq).2⟩
          have E := Lib.hid (E.out.more hb)
          have DO := Lib.hid (DO.out.later hb)
          have L7 := Lib.hid (L7.out.later hb)
          clear hV hb hHeld
          generalize v50.heap.size = gl2 at L2 G2 ⊢
          have hHeld : (fun V : World => V.cell? ⟨g9, 4, none⟩ = some (.slice A4 y.did.length c4)) _ := E.out.bc.cell 4
          refine hK.out _ _ (fun _ => hHeld) ?_
          clear hK K
          obtain ⟨u2, hu2⟩ := lit3 (-1) 6 0 p2 QP2.out
          have Z2 := Lib.hid hu2
          clear hu2
          have hq1 : (p2 : Int) < ((3 : Nat) : Int) := by have := QP2.out; omega
          have hq2 : (p2 : Int) < 3 := by have := QP2.out; omega
          refine tkD (i := 5) (v := .pointer (some ⟨gl2, p2, none⟩)) rfl (.inl ⟨by rfl, ?_⟩) ?_
          ·
           intro V hSw; (try dsimp only at hSw); go_simp; (try with_reducible rfl)
          simp only [sA, sB, sC, Act.put, sD, sE, sF]
          refine wpAnyD_more (S' := (fun V : World => V.cell? ⟨g9, 4, none⟩ = some (.slice A4 y.did.length c4) ∧ V.cell? ⟨gl2, p2, none⟩ = some (.int .i64 u2))) (fun V hV => hV.1) ?_
          clear hHeld
          have hHeld : (fun V : World => V.cell? ⟨g9, 4, none⟩ = some (.slice A4 y.did.length c4) ∧ V.cell? ⟨gl2, p2, none⟩ = some (.int .i64 u2)) _ := ⟨E.out.bc.cell 4, (L2.out.cell p2).trans Z2.out⟩
          refine tkD (i := 6) (v := ?_) rfl (.inl ⟨by rfl, ?_⟩) ?_
          rotate_left
          ·
           intro V hSw; (try dsimp only at hSw); go_simp; (try with_reducible rfl)
          simp only [sA, sB, sC, Act.put, sD, sE, sF]
          clear hq1 hq2
          refine wpAnyD_ready (rs := [9]) (by kernel_rfl) (by simp) ?_
          refine (AllReadyD.cons rfl (fun K hK => ?_) AllReadyD.nil)
          go_simp
          go_wp2_with (go_at_call 47; refine (l20Rd_pick RB _ 3 _ E.out.rd (by omega) (by omega)).mono ?_; rintro e v52 ⟨z7, rfl, h0, h1, _, hr, ht⟩; obtain ⟨p7, rfl⟩ := Int.eq_ofNat_of_zero_le h0)
          have QP7 : Hid (p7 < 3) := by show _ < _; have := h1 (by omega); omega
          have E := Lib.hid (E.out.pick hr ht)
          have DO := Lib.hid (DO.out.kept (Kept.of_turned ht UR.out))
          have L2 := Lib.hid (L2.out.turned ht (by have := G2.out.1; omega))
          have L7 := Lib.hid (L7.out.turned ht (by have := G7.out.1; omega))
          clear h0 h1 hr ht hHeld
          have hHeld : (fun V : World => V.cell? ⟨g9, 4, none⟩ = some (.slice A4 y.did.length c4) ∧ V.cell? ⟨gl2, p2, none⟩ = some (.int .i64 u2)) _ := ⟨E.out.bc.cell 4, (L2.out.cell p2).trans Z2.out⟩
          refine hK.out _ _ (fun _ => hHeld) ?_
          clear hK K
          obtain ⟨u7, hu7⟩ := lit3 (0) 5 1 p7 QP7.out
          have Z7 := Lib.hid hu7
          clear hu7
          have hq1 : (p7 : Int) < ((3 : Nat) : Int) := by have := QP7.out; omega
          have hq2 : (p7 : Int) < 3 := by have := QP7.out; omega
          refine tkD (i := 10) (v := .pointer (some ⟨gl7, p7, none⟩)) rfl (.inl ⟨by rfl, ?_⟩) ?_
          ·
           intro V hSw; (try dsimp only at hSw); go_simp; (try with_reducible rfl)
          simp only [sA, sB, sC, Act.put, sD, sE, sF]
          refine wpAnyD_more (S' := (fun V : World => V.cell? ⟨g9, 4, none⟩ = some (.slice A4 y.did.length c4) ∧ V.cell? ⟨gl2, p2, none⟩ = some (.int .i64 u2) ∧ V.cell? ⟨gl7, p7, none⟩ = some (.int .i64 u7))) (fun V hV => ⟨hV.1, hV.2.1⟩) ?_
          clear hHeld
          have hHeld : (fun V : World => V.cell? ⟨g9, 4, none⟩ = some (.slice A4 y.did.length c4) ∧ V.cell? ⟨gl2, p2, none⟩ = some (.int .i64 u2) ∧ V.cell? ⟨gl7, p7, none⟩ = some (.int .i64 u7)) _ := ⟨E.out.bc.cell 4, (L2.out.cell p2).trans Z2.out, (L7.out.cell p7).trans Z7.out⟩
          refine tkD (i := 11) (v := ?_) rfl (.inl ⟨by rfl, ?_⟩) ?_
          rotate_left
          ·
           intro V hSw; (try dsimp only at hSw); go_simp; (try with_reducible rfl)
          simp only [sA, sB, sC, Act.put, sD, sE, sF]
          clear hq1 hq2
          refine tkD (i := 12) (v := ?_) rfl (.inl ⟨by rfl, ?_⟩) ?_
          rotate_left
          ·
           intro V hSw; (try dsimp only at hSw); go_simp; (try with_reducible rfl)
          simp only [sA, sB, sC, Act.put, sD, sE, sF]
          refine wpAnyD_ready (rs := [13]) (by kernel_rfl) (by simp) ?_
          refine (AllReadyD.cons rfl (fun K hK => ?_) AllReadyD.nil)
          go_simp
          generalize hV : World.alloc v52 _ = v53
          have hb : Below v52.heap.size v52 v53 := by rw [← hV]; exact (Below.refl _ _).alloc (Nat.le_refl _) _
          have LD : Hid (Bk v53 v52.heap.size 53 #[.int .i64 u2, .int .i64 u7]) := by show Bk _ _ _ _; rw [← hV]; exact Bk.new rfl
          have E := Lib.hid (E.out.more hb)
          have DO := Lib.hid (DO.out.later hb)
          have L2 := Lib.hid (L2.out.later hb)
          have L7 := Lib.hid (L7.out.later hb)
          clear hV hb hHeld
          generalize v52.heap.size = gd at LD ⊢
          have hHeld : (fun V : World => V.cell? ⟨g9, 4, none⟩ = some (.slice A4 y.did.length c4) ∧ V.cell? ⟨gl2, p2, none⟩ = some (.int .i64 u2) ∧ V.cell? ⟨gl7, p7, none⟩ = some (.int .i64 u7)) _ := ⟨E.out.bc.cell 4, (L2.out.cell p2).trans Z2.out, (L7.out.cell p7).trans Z7.out⟩
          refine hK.out _ _ (fun _ => hHeld) ?_
          clear hK K
          refine wpAnyD_ready (rs := [14]) (by kernel_rfl) (by simp) ?_
          refine (AllReadyD.cons rfl (fun K hK => ?_) AllReadyD.nil)
          refine step_C6 rfl (.tmp 80) (.tmp 92) 41 rfl didC 53 _ 16 Try.underlying41 info_did rfl (by decide) (by decide) u.heap.size (.slice A4 y.did.length c4) y.did rfl DO.out ⟨u2, u7⟩ _ u.heap.size 0 rfl (Nat.le_refl _) (Nat.zero_le _) (fun _ _ => .inr (Nat.zero_le _)) gd rfl (fun j u hu => (LD.out.cell j).trans (by simpa [GDid.cells] using hu)) (by simp [GDid.cells, Value.oneCell']) (by have := DL.out; omega) E.out.lo_le ?_
          intro v' v54 hown hgr hbe hob
          obtain ⟨B4, d4, hv4, hdd⟩ := hown.rows (by have := DL.out; simp; omega)
          have hoff := E.out.did_off hv4 hob fun q hq => (OB.out q hq).2.1
          subst hv4
          have EA := Lib.hid (E.out.app (d4 := d4) hgr OB.out hbe hdd (fun _ => hoff) (by have := DL.out; simp; omega))
          have BC : Hid (Bk v54 g9 43 (caseCells y A1 c1 A2 c2 A3 c3 A4 c4)) := (hgr.block g9 E.out.bc.lt (fun he => (OB.out g9 he.symm).2.1 rfl)).trans E.out.bc
          have L2 : Hid (Bk v54 gl2 3 _) := (hgr.block gl2 L2.out.lt (fun he => by have := G2.out.2 _ he.symm; omega)).trans L2.out
          have L7 : Hid (Bk v54 gl7 3 _) := (hgr.block gl7 L7.out.lt (fun he => by have := G7.out.2 _ he.symm; omega)).trans L7.out
          have hHeld : (fun V : World => V.cell? ⟨g9, 4, none⟩ = some (.slice A4 y.did.length c4) ∧ V.cell? ⟨gl2, p2, none⟩ = some (.int .i64 u2) ∧ V.cell? ⟨gl7, p7, none⟩ = some (.int .i64 u7)) _ := ⟨BC.out.cell 4, (L2.out.cell p2).trans Z2.out, (L7.out.cell p7).trans Z7.out⟩
          clear hown hgr hbe hob hdd E DO hoff
          refine hK.out _ _ (fun _ => hHeld) ?_
          clear hK K
          try simp only [sA, sB, sC, Act.put, sD, sE, sF]
          refine tkD (i := 15) (v := ?_) rfl (.inl ⟨by rfl, ?_⟩) ?_
          rotate_left
          ·
           intro V hSw; (try dsimp only at hSw); go_simp; (try with_reducible rfl)
          simp only [sA, sB, sC, Act.put, sD, sE, sF]
          refine wpAnyD_ready (rs := [16]) (by kernel_rfl) (by simp) ?_
          refine (AllReadyD.cons rfl (fun K hK => ?_) AllReadyD.nil)
          have k9 := fun i => BC.out.cell i
          have f9 := fun i => BC.out.frozen i
          go_simp
          generalize hV : World.setCell v54 _ _ = v55
          have EA := Lib.hid (by rw [← hV]; have h := EA.out; rw [show (y.did ++ [(⟨u2, u7⟩ : GDid)]).length = y.did.length + 1 from by simp] at h; exact h : EndSt RB _ w u.heap.size N1 g9 _ _ A1 c1 A2 c2 A3 c3 B4 d4 #[.int .i64 0, .slice none 0 0] #[.int .i64 0, .slice none 0 0, .slice none 0 0, .slice none 0 0, .slice none 0 0] v55)
          clear hV k9 f9 BC L2 L7
          refine hK.out _ _ (fun h => by simp at h) ?_
          clear hK K hHeld
          refine wpAnyD_done (by kernel_rfl) ?_ _
          go_wp2
          go_meet
          case rel => exact ⟨⟨y.state, y.marks, y.busy, y.data, y.did ++ [(⟨u2, u7⟩ : GDid)]⟩, A1, c1, A2, c2, A3, c3, B4, d4, EA.out.mono (by omega)⟩
         ·
          go_simp
          go_wp2_with (go_at_call 47; refine (l20Rd_pick RB _ 3 _ E.out.rd (by omega) (by omega)).mono ?_; rintro e v56 ⟨z7, rfl, h0, h1, _, hr, ht⟩; obtain ⟨p7, rfl⟩ := Int.eq_ofNat_of_zero_le h0)
          have QP7 : Hid (p7 < 3) := by show _ < _; have := h1 (by omega); omega
          have E := Lib.hid (E.out.pick hr ht)
          have DO := Lib.hid (DO.out.kept (Kept.of_turned ht UR.out))
          have L7 := Lib.hid (L7.out.turned ht (by have := G7.out.1; omega))
          clear h0 h1 hr ht hHeld
          have hHeld : (fun V : World => V.cell? ⟨g9, 4, none⟩ = some (.slice A4 y.did.length c4)) _ := E.out.bc.cell 4
          refine hK.out _ _ (fun _ => hHeld) ?_
          clear hK K
          obtain ⟨u7, hu7⟩ := lit3 (0) 5 1 p7 QP7.out
          have Z7 := Lib.hid hu7
          clear hu7
          have hq1 : (p7 : Int) < ((3 : Nat) : Int) := by have := QP7.out; omega
          have hq2 : (p7 : Int) < 3 := by have := QP7.out; omega
          refine tkD (i := 10) (v := .pointer (some ⟨gl7, p7, none⟩)) rfl (.inl ⟨by rfl, ?_⟩) ?_
          ·
           intro V hSw; (try dsimp only at hSw); go_simp; (try with_reducible rfl)
          simp only [sA, sB, sC, Act.put, sD, sE, sF]
          refine wpAnyD_more (S' := (fun V : World => V.cell? ⟨g9, 4, none⟩ = some (.slice A4 y.did.length c4) ∧ V.cell? ⟨gl7, p7, none⟩ = some (.int .i64 u7))) (fun V hV => hV.1) ?_
          clear hHeld
          have hHeld : (fun V : World => V.cell? ⟨g9, 4, none⟩ = some (.slice A4 y.did.length c4) ∧ V.cell? ⟨gl7, p7, none⟩ = some (.int .i64 u7)) _ := ⟨E.out.bc.cell 4, (L7.out.cell p7).trans Z7.out⟩
          refine tkD (i := 11) (v := ?_) rfl (.inl ⟨by rfl, ?_⟩) ?_
          rotate_left
          ·
           intro V hSw; (try dsimp only at hSw); go_simp; (try with_reducible rfl)
          simp only [sA, sB, sC, Act.put, sD, sE, sF]
          clear hq1 hq2
          refine wpAnyD_ready (rs := [2]) (by kernel_rfl) (by simp) ?_
          refine (AllReadyD.cons rfl (fun K hK => ?_) AllReadyD.nil)
          go_simp
          generalize hV : World.alloc v56 _ = v57
          have hb : Below v56.heap.size v56 v57 := by rw [← hV]; exact (Below.refl _ _).alloc (Nat.le_refl _) _
          have L2 : Hid (Bk v57 v56.heap.size 3 (iv [-1, 6, 0]).toArray) := by show Bk _ _ _ _; rw [← hV]; exact Bk.new rfl
          have G2 : Hid (RB < v56.heap.size ∧ ∀ q, Value.ownBlock (.slice A4 y.did.length c4) = some q → q < v56.heap.size) := ⟨E.out.rd.lt, fun q hq => (DO.out.lt q hq).2⟩
          have E := Lib.hid (E.out.more hb)
          have DO := Lib.hid (DO.out.later hb)
          have L7 := Lib.hid (L7.out.later hb)
          clear hV hb hHeld
          generalize v56.heap.size = gl2 at L2 G2 ⊢
          have hHeld : (fun V : World => V.cell? ⟨g9, 4, none⟩ = some (.slice A4 y.did.length c4) ∧ V.cell? ⟨gl7, p7, none⟩ = some (.int .i64 u7)) _ := ⟨E.out.bc.cell 4, (L7.out.cell p7).trans Z7.out⟩
          refine hK.out _ _ (fun _ => hHeld) ?_
          clear hK K
          obtain ⟨u2, hu2⟩ := lit3 (-1) 6 0 p2 QP2.out
          have Z2 := Lib.hid hu2
          clear hu2
          have hq1 : (p2 : Int) < ((3 : Nat) : Int) := by have := QP2.out; omega
          have hq2 : (p2 : Int) < 3 := by have := QP2.out; omega
          refine tkD (i := 5) (v := .pointer (some ⟨gl2, p2, none⟩)) rfl (.inl ⟨by rfl, ?_⟩) ?_
          ·
           intro V hSw; (try dsimp only at hSw); go_simp; (try with_reducible rfl)
          simp only [sA, sB, sC, Act.put, sD, sE, sF]
          refine wpAnyD_more (S' := (fun V : World => V.cell? ⟨g9, 4, none⟩ = some (.slice A4 y.did.length c4) ∧ V.cell? ⟨gl7, p7, none⟩ = some (.int .i64 u7) ∧ V.cell? ⟨gl2, p2, none⟩ = some (.int .i64 u2))) (fun V hV => ⟨hV.1, hV.2.1⟩) ?_
          clear hHeld
          have hHeld : (fun V : World => V.cell? ⟨g9, 4, none⟩ = some (.slice A4 y.did.length c4) ∧ V.cell? ⟨gl7, p7, none⟩ = some (.int .i64 u7) ∧ V.cell? ⟨gl2, p2, none⟩ = some (.int .i64 u2)) _ := ⟨E.out.bc.cell 4, (L7.out.cell p7).trans Z7.out, (L2.out.cell p2).trans Z2.out⟩
          refine tkD (i := 6) (v := ?_) rfl (.inl ⟨by rfl, ?_⟩) ?_
          rotate_left
          ·
           intro V hSw; (try dsimp only at hSw); go_simp; (try with_reducible rfl)
          simp only [sA, sB, sC, Act.put, sD, sE, sF]
          clear hq1 hq2
          refine tkD (i := 12) (v := ?_) rfl (.inl ⟨by rfl, ?_⟩) ?_
          rotate_left
          ·
           intro V hSw; (try dsimp only at hSw); go_simp; (try with_reducible rfl)
          simp only [sA, sB, sC, Act.put, sD, sE, sF]
          refine wpAnyD_ready (rs := [13]) (by kernel_rfl) (by simp) ?_
          refine (AllReadyD.cons rfl (fun K hK => ?_) AllReadyD.nil)
          go_simp
          generalize hV : World.alloc v57 _ = v58
          have hb : Below v57.heap.size v57 v58 := by rw [← hV]; exact (Below.refl _ _).alloc (Nat.le_refl _) _
          have LD : Hid (Bk v58 v57.heap.size 53 #[.int .i64 u2, .int .i64 u7]) := by show Bk _ _ _ _; rw [← hV]; exact Bk.new rfl
          have E := Lib.hid (E.out.more hb)
          have DO := Lib.hid (DO.out.later hb)
          have L2 := Lib.hid (L2.out.later hb)
          have L7 := Lib.hid (L7.out.later hb)
          clear hV hb hHeld
          generalize v57.heap.size = gd at LD ⊢
          have hHeld : (fun V : World => V.cell? ⟨g9, 4, none⟩ = some (.slice A4 y.did.length c4) ∧ V.cell? ⟨gl7, p7, none⟩ = some (.int .i64 u7) ∧ V.cell? ⟨gl2, p2, none⟩ = some (.int .i64 u2)) _ := ⟨E.out.bc.cell 4, (L7.out.cell p7).trans Z7.out, (L2.out.cell p2).trans Z2.out⟩
          refine hK.out _ _ (fun _ => hHeld) ?_
          clear hK K
          refine wpAnyD_ready (rs := [14]) (by kernel_rfl) (by simp) ?_
          refine (AllReadyD.cons rfl (fun K hK => ?_) AllReadyD.nil)
          refine step_C6 rfl (.tmp 80) (.tmp 92) 41 rfl didC 53 _ 16 Try.underlying41 info_did rfl (by decide) (by decide) u.heap.size (.slice A4 y.did.length c4) y.did rfl DO.out ⟨u2, u7⟩ _ u.heap.size 0 rfl (Nat.le_refl _) (Nat.zero_le _) (fun _ _ => .inr (Nat.zero_le _)) gd rfl (fun j u hu => (LD.out.cell j).trans (by simpa [GDid.cells] using hu)) (by simp [GDid.cells, Value.oneCell']) (by have := DL.out; omega) E.out.lo_le ?_
          intro v' v59 hown hgr hbe hob
          obtain ⟨B4, d4, hv4, hdd⟩ := hown.rows (by have := DL.out; simp; omega)
          have hoff := E.out.did_off hv4 hob fun q hq => (OB.out q hq).2.1
          subst hv4
          have EA := Lib.hid (E.out.app (d4 := d4) hgr OB.out hbe hdd (fun _ => hoff) (by have := DL.out; simp; omega))
          have BC : Hid (Bk v59 g9 43 (caseCells y A1 c1 A2 c2 A3 c3 A4 c4)) := (hgr.block g9 E.out.bc.lt (fun he => (OB.out g9 he.symm).2.1 rfl)).trans E.out.bc
          have L2 : Hid (Bk v59 gl2 3 _) := (hgr.block gl2 L2.out.lt (fun he => by have := G2.out.2 _ he.symm; omega)).trans L2.out
          have L7 : Hid (Bk v59 gl7 3 _) := (hgr.block gl7 L7.out.lt (fun he => by have := G7.out.2 _ he.symm; omega)).trans L7.out
          have hHeld : (fun V : World => V.cell? ⟨g9, 4, none⟩ = some (.slice A4 y.did.length c4) ∧ V.cell? ⟨gl7, p7, none⟩ = some (.int .i64 u7) ∧ V.cell? ⟨gl2, p2, none⟩ = some (.int .i64 u2)) _ := ⟨BC.out.cell 4, (L7.out.cell p7).trans Z7.out, (L2.out.cell p2).trans Z2.out⟩
          clear hown hgr hbe hob hdd E DO hoff
          refine hK.out _ _ (fun _ => hHeld) ?_
          clear hK K
          try simp only [sA, sB, sC, Act.put, sD, sE, sF]
          refine tkD (i := 15) (v := ?_) rfl (.inl ⟨by rfl, ?_⟩) ?_
          rotate_left
          ·
           intro V hSw; (try dsimp only at hSw); go_simp; (try with_reducible rfl)
          simp only [sA, sB, sC, Act.put, sD, sE, sF]
          refine wpAnyD_ready (rs := [16]) (by kernel_rfl) (by simp) ?_
          refine (AllReadyD.cons rfl (fun K hK => ?_) AllReadyD.nil)
          have k9 := fun i => BC.out.cell i
          have f9 := fun i => BC.out.frozen i
          go_simp
          generalize hV : World.setCell v59 _ _ = v60
          have EA := Lib.hid (by rw [← hV]; have h := EA.out; rw [show (y.did ++ [(⟨u2, u7⟩ : GDid)]).length = y.did.length + 1 from by simp] at h; exact h : EndSt RB _ w u.heap.size N1 g9 _ _ A1 c1 A2 c2 A3 c3 B4 d4 #[.int .i64 0, .slice none 0 0] #[.int .i64 0, .slice none 0 0, .slice none 0 0, .slice none 0 0, .slice none 0 0] v60)
          clear hV k9 f9 BC L2 L7
          refine hK.out _ _ (fun h => by simp at h) ?_
          clear hK K hHeld
          refine wpAnyD_done (by kernel_rfl) ?_ _
          go_wp2
          go_meet
          case rel => exact ⟨⟨y.state, y.marks, y.busy, y.data, y.did ++ [(⟨u2, u7⟩ : GDid)]⟩, A1, c1, A2, c2, A3, c3, B4, d4, EA.out.mono (by omega)⟩
        ·
         go_simp
         go_wp2_with (go_at_call 47; refine (l20Rd_pick RB _ 3 _ E.out.rd (by omega) (by omega)).mono ?_; rintro e v61 ⟨z7, rfl, h0, h1, _, hr, ht⟩; obtain ⟨p7, rfl⟩ := Int.eq_ofNat_of_zero_le h0)
         have QP7 : Hid (p7 < 3) := by show _ < _; have := h1 (by omega); omega
         have E := Lib.hid (E.out.pick hr ht)
         have DO := Lib.hid (DO.out.kept (Kept.of_turned ht UR.out))
         clear h0 h1 hr ht hHeld
         have hHeld : (fun V : World => V.cell? ⟨g9, 4, none⟩ = some (.slice A4 y.did.length c4)) _ := E.out.bc.cell 4
         refine hK.out _ _ (fun _ => hHeld) ?_
         clear hK K
         refine wpAnyD_ready (rs := [2, 7]) (by kernel_rfl) (by simp) ?_
         refine (AllReadyD.cons rfl (fun K hK => ?_) (AllReadyD.cons rfl (fun K hK => ?_) AllReadyD.nil))
         ·
          go_simp
          generalize hV : World.alloc v61 _ = v62
          have hb : Below v61.heap.size v61 v62 := by rw [← hV]; exact (Below.refl _ _).alloc (Nat.le_refl _) _
          have L2 : Hid (Bk v62 v61.heap.size 3 (iv [-1, 6, 0]).toArray) := by show Bk _ _ _ _; rw [← hV]; exact Bk.new rfl
          have G2 : Hid (RB < v61.heap.size ∧ ∀ q, Value.ownBlock (.slice A4 y.did.length c4) = some q → q < v61.heap.size) := ⟨E.out.rd.lt, fun q hq => (DO.out.lt q hq).2⟩
          have E := Lib.hid (E.out.more hb)
          have DO := Lib.hid (DO.out.later hb)
          clear hV hb hHeld
          generalize v61.heap.size = gl2 at L2 G2 ⊢
          have hHeld : (fun V : World => V.cell? ⟨g9, 4, none⟩ = some (.slice A4 y.did.length c4)) _ := E.out.bc.cell 4
          refine hK.out _ _ (fun _ => hHeld) ?_
          clear hK K
          obtain ⟨u2, hu2⟩ := lit3 (-1) 6 0 p2 QP2.out
          have Z2 := Lib.hid hu2
          clear hu2
          have hq1 : (p2 : Int) < ((3 : Nat) : Int) := by have := QP2.out; omega
          have hq2 : (p2 : Int) < 3 := by have := QP2.out; omega
          refine tkD (i := 5) (v := .pointer (some ⟨gl2, p2, none⟩)) rfl (.inl ⟨by rfl, ?_⟩) ?_
          ·
           intro V hSw; (try dsimp only at hSw); go_simp; (try with_reducible rfl)
          simp only [sA, sB, sC, Act.put, sD, sE, sF]
          refine wpAnyD_more (S' := (fun V : World => V.cell? ⟨g9, 4, none⟩ = some (.slice A4 y.did.length c4) ∧ V.cell? ⟨gl2, p2, none⟩ = some (.int .i64 u2))) (fun V hV => hV.1) ?_
          clear hHeld
          have hHeld : (fun V : World => V.cell? ⟨g9, 4, none⟩ = some (.slice A4 y.did.length c4) ∧ V.cell? ⟨gl2, p2, none⟩ = some (.int .i64 u2)) _ := ⟨E.out.bc.cell 4, (L2.out.cell p2).trans Z2.out⟩
          refine tkD (i := 6) (v := ?_) rfl (.inl ⟨by rfl, ?_⟩) ?_
          rotate_left
          ·
           intro V hSw; (try dsimp only at hSw); go_simp; (try with_reducible rfl)
          simp only [sA, sB, sC, Act.put, sD, sE, sF]
          clear hq1 hq2
          refine wpAnyD_ready (rs := [7]) (by kernel_rfl) (by simp) ?_
          refine (AllReadyD.cons rfl (fun K hK => ?_) AllReadyD.nil)
          go_simp
          generalize hV : World.alloc v62 _ = v63
          have hb : Below v62.heap.size v62 v63 := by rw [← hV]; exact (Below.refl _ _).alloc (Nat.le_refl _) _
          have L7 : Hid (Bk v63 v62.heap.size 3 (iv [0, 5, 1]).toArray) := by show Bk _ _ _ _; rw [← hV]; exact Bk.new rfl
          have G7 : Hid (RB < v62.heap.size ∧ ∀ q, Value.ownBlock (.slice A4 y.did.length c4) = some q → q < v62.heap.size) := ⟨E.out.rd.lt, fun q hq => (DO.out.lt q hq).2⟩
          have E := Lib.hid (E.out.more hb)
          have DO := Lib.hid (DO.out.later hb)
          have L2 := Lib.hid (L2.out.later hb)
          clear hV hb hHeld
          generalize v62.heap.size = gl7 at L7 G7 ⊢
          have hHeld : (fun V : World => V.cell? ⟨g9, 4, none⟩ = some (.slice A4 y.did.length c4) ∧ V.cell? ⟨gl2, p2, none⟩ = some (.int .i64 u2)) _ := ⟨E.out.bc.cell 4, (L2.out.cell p2).trans Z2.out⟩
          refine hK.out _ _ (fun _ => hHeld) ?_
          clear hK K
          obtain ⟨u7, hu7⟩ := lit3 (0) 5 1 p7 QP7.out
          have Z7 := Lib.hid hu7
          clear hu7
          have hq1 : (p7 : Int) < ((3 : Nat) : Int) := by have := QP7.out; omega
          have hq2 : (p7 : Int) < 3 := by have := QP7.out; omega
          refine tkD (i := 10) (v := .pointer (some ⟨gl7, p7, none⟩)) rfl (.inl ⟨by rfl, ?_⟩) ?_
          ·
           intro V hSw; (try dsimp only at hSw); go_simp; (try with_reducible rfl)
          simp only [sA, sB, sC, Act.put, sD, sE, sF]
          refine wpAnyD_more (S' := (fun V : World => V.cell? ⟨g9, 4, none⟩ = some (.slice A4 y.did.length c4) ∧ V.cell? ⟨gl2, p2, none⟩ = some (.int .i64 u2) ∧ V.cell? ⟨gl7, p7, none⟩ = some (.int .i64 u7))) (fun V hV => ⟨hV.1, hV.2.1⟩) ?_
          clear hHeld
          have hHeld : (fun V : World => V.cell? ⟨g9, 4, none⟩ = some (.slice A4 y.did.length c4) ∧ V.cell? ⟨gl2, p2, none⟩ = some (.int .i64 u2) ∧ V.cell? ⟨gl7, p7, none⟩ = some (.int .i64 u7)) _ := ⟨E.out.bc.cell 4, (L2.out.cell p2).trans Z2.out, (L7.out.cell p7).trans Z7.out⟩
          refine tkD (i := 11) (v := ?_) rfl (.inl ⟨by rfl, ?_⟩) ?_
          rotate_left
          ·
           intro V hSw; (try dsimp only at hSw); go_simp; (try with_reducible rfl)
          simp only [sA, sB, sC, Act.put, sD, sE, sF]
          clear hq1 hq2
          refine tkD (i := 12) (v := ?_) rfl (.inl ⟨by rfl, ?_⟩) ?_
          rotate_left
          ·
           intro V hSw; (try dsimp only at hSw); go_simp; (try with_reducible rfl)
          simp only [sA, sB, sC, Act.put, sD, sE, sF]
          refine wpAnyD_ready (rs := [13]) (by kernel_rfl) (by simp) ?_
          refine (AllReadyD.cons rfl (fun K hK => ?_) AllReadyD.nil)
          go_simp
          generalize hV : World.alloc v63 _ = v64
          have hb : Below v63.heap.size v63 v64 := by rw [← hV]; exact (Below.refl _ _).alloc (Nat.le_refl _) _
          have LD : Hid (Bk v64 v63.heap.size 53 #[.int .i64 u2, .int .i64 u7]) := by show Bk _ _ _ _; rw [← hV]; exact Bk.new rfl
          have E := Lib.hid (E.out.more hb)
          have DO := Lib.hid (DO.out.later hb)
          have L2 := Lib.hid (L2.out.later hb)
          have L7 := Lib.hid (L7.out.later hb)
          clear hV hb hHeld
          generalize v63.heap.size = gd at LD ⊢
          have hHeld : (fun V : World => V.cell? ⟨g9, 4, none⟩ = some (.slice A4 y.did.length c4) ∧ V.cell? ⟨gl2, p2, none⟩ = some (.int .i64 u2) ∧ V.cell? ⟨gl7, p7, none⟩ = some (.int .i64 u7)) _ := ⟨E.out.bc.cell 4, (L2.out.cell p2).trans Z2.out, (L7.out.cell p7).trans Z7.out⟩
          refine hK.out _ _ (fun _ => hHeld) ?_
          clear hK K
          refine wpAnyD_ready (rs := [14]) (by kernel_rfl) (by simp) ?_
          refine (AllReadyD.cons rfl (fun K hK => ?_) AllReadyD.nil)
          refine step_C6 rfl (.tmp 80) (.tmp 92) 41 rfl didC 53 _ 16 Try.underlying41 info_did rfl (by decide) (by decide) u.heap.size (.slice A4 y.did.length c4) y.did rfl DO.out ⟨u2, u7⟩ _ u.heap.size 0 rfl (Nat.le_refl _) (Nat.zero_le _) (fun _ _ => .inr (Nat.zero_le _)) gd rfl (fun j u hu => (LD.out.cell j).trans (by simpa [GDid.cells] using hu)) (by simp [GDid.cells, Value.oneCell']) (by have := DL.out; omega) E.out.lo_le ?_
          intro v' v65 hown hgr hbe hob
          obtain ⟨B4, d4, hv4, hdd⟩ := hown.rows (by have := DL.out; simp; omega)
          have hoff := E.out.did_off hv4 hob fun q hq => (OB.out q hq).2.1
          subst hv4
          have EA := Lib.hid (E.out.app (d4 := d4) hgr OB.out hbe hdd (fun _ => hoff) (by have := DL.out; simp; omega))
          have BC : Hid (Bk v65 g9 43 (caseCells y A1 c1 A2 c2 A3 c3 A4 c4)) := (hgr.block g9 E.out.bc.lt (fun he => (OB.out g9 he.symm).2.1 rfl)).trans E.out.bc
          have L2 : Hid (Bk v65 gl2 3 _) := (hgr.block gl2 L2.out.lt (fun he => by have := G2.out.2 _ he.symm; omega)).trans L2.out
          have L7 : Hid (Bk v65 gl7 3 _) := (hgr.block gl7 L7.out.lt (fun he => by have := G7.out.2 _ he.symm; omega)).trans L7.out
          have hHeld : (fun V : World => V.cell? ⟨g9, 4, none⟩ = some (.slice A4 y.did.length c4) ∧ V.cell? ⟨gl2, p2, none⟩ = some (.int .i64 u2) ∧ V.cell? ⟨gl7, p7, none⟩ = some (.int .i64 u7)) _ := ⟨BC.out.cell 4, (L2.out.cell p2).trans Z2.out, (L7.out.cell p7).trans Z7.out⟩
          clear hown hgr hbe hob hdd E DO hoff
          refine hK.out _ _ (fun _ => hHeld) ?_
          clear hK K
          try simp only [sA, sB, sC, Act.put, sD, sE, sF]
          refine tkD (i := 15) (v := ?_) rfl (.inl ⟨by rfl, ?_⟩) ?_
          rotate_left
          ·
           intro V hSw; (try dsimp only at hSw); go_simp; (try with_reducible rfl)
          simp only [sA, sB, sC, Act.put, sD, sE, sF]
          refine wpAnyD_ready (rs := [16]) (by kernel_rfl) (by simp) ?_
          refine (AllReadyD.cons rfl (fun K hK => ?_) AllReadyD.nil)
          have k9 := fun i => BC.out.cell i
          have f9 := fun i => BC.out.frozen i
          go_simp
          generalize hV : World.setCell v65 _ _ = v66
          have EA := Lib.hid (by rw [← hV]; have h := EA.out; rw [show (y.did ++ [(⟨u2, u7⟩ : GDid)]).length = y.did.length + 1 from by simp] at h; exact h : EndSt RB _ w u.heap.size N1 g9 _ _ A1 c1 A2 c2 A3 c3 B4 d4 #[.int .i64 0, .slice none 0 0] #[.int .i64 0, .slice none 0 0, .slice none 0 0, .slice none 0 0, .slice none 0 0] v66)
          clear hV k9 f9 BC L2 L7
          refine hK.out _ _ (fun h => by simp at h) ?_
          clear hK K hHeld
          refine wpAnyD_done (by kernel_rfl) ?_ _
          go_wp2
          go_meet
          case rel => exact ⟨⟨y.state, y.marks, y.busy, y.data, y.did ++ [(⟨u2, u7⟩ : GDid)]⟩, A1, c1, A2, c2, A3, c3, B4, d4, EA.out.mono (by omega)⟩
         ·
          go_simp
          generalize hV : World.alloc v61 _ = v67
          have hb : Below v61.heap.size v61 v67 := by rw [← hV]; exact (Below.refl _ _).alloc (Nat.le_refl _) _
          have L7 : Hid (Bk v67 v61.heap.size 3 (iv [0, 5, 1]).toArray) := by show Bk _ _ _ _; rw [← hV]; exact Bk.new rfl
          have G7 : Hid (RB < v61.heap.size ∧ ∀ q, Value.ownBlock (.slice A4 y.did.length c4) = some q → q < v61.heap.size) := ⟨E.out.rd.lt, fun q hq => (DO.out.lt q hq).2⟩
          have E := Lib.hid (E.out.more hb)
          have DO := Lib.hid (DO.out.later hb)
          clear hV hb hHeld
          generalize v61.heap.size = gl7 at L7 G7 ⊢
          have hHeld : (fun V : World => V.cell? ⟨g9, 4, none⟩ = some (.slice A4 y.did.length c4)) _ := E.out.bc.cell 4
          refine hK.out _ _ (fun _ => hHeld) ?_
          clear hK K
          obtain ⟨u7, hu7⟩ := lit3 (0) 5 1 p7 QP7.out
          have Z7 := Lib.hid hu7
          clear hu7
          have hq1 : (p7 : Int) < ((3 : Nat) : Int) := by have := QP7.out; omega
          have hq2 : (p7 : Int) < 3 := by have := QP7.out; omega
          refine tkD (i := 10) (v := .pointer (some ⟨gl7, p7, none⟩)) rfl (.inl ⟨by rfl, ?_⟩) ?_
          ·
           intro V hSw; (try dsimp only at hSw); go_simp; (try with_reducible rfl)
          simp only [sA, sB, sC, Act.put, sD, sE, sF]
          refine wpAnyD_more (S' := (fun V : World => V.cell? ⟨g9, 4, none⟩ = some (.slice A4 y.did.length c4) ∧ V.cell? ⟨gl7, p7, none⟩ = some (.int .i64 u7))) (fun V hV => hV.1) ?_
          clear hHeld
          have hHeld : (fun V : World => V.cell? ⟨g9, 4, none⟩ = some (.slice A4 y.did.length c4) ∧ V.cell? ⟨gl7, p7, none⟩ = some (.int .i64 u7)) _ := ⟨E.out.bc.cell 4, (L7.out.cell p7).trans Z7.out⟩
          refine tkD (i := 11) (v := ?_) rfl (.inl ⟨by rfl, ?_⟩) ?_
          rotate_left
          ·
           intro V hSw; (try dsimp only at hSw); go_simp; (try with_reducible rfl)
          simp only [sA, sB, sC, Act.put, sD, sE, sF]
          clear hq1 hq2
          refine wpAnyD_ready (rs := [2]) (by kernel_rfl) (by simp) ?_
          refine (AllReadyD.cons rfl (fun K hK => ?_) AllReadyD.nil)
          go_simp
          generalize hV : World.alloc v67 _ = v68
          have hb : Below v67.heap.size v67 v68 := by rw [← hV]; exact (Below.refl _ _).alloc (Nat.le_refl _) _
          have L2 : Hid (Bk v68 v67.heap.size 3 (iv [-1, 6, 0]).toArray) := by show Bk _ _ _ _; rw [← hV]; exact Bk.new rfl
          have G2 : Hid (RB < v67.heap.size ∧ ∀ q, Value.ownBlock (.slice A4 y.did.length c4) = some q → q < v67.heap.size) := ⟨E.out.rd.lt, fun q hq => (DO.out.lt q hq).2⟩
          have E := Lib.hid (E.out.more hb)
          have DO := Lib.hid (DO.out.later hb)
          have L7 := Lib.hid (L7.out.later hb)
          clear hV hb hHeld
          generalize v67.heap.size = gl2 at L2 G2 ⊢
          have hHeld : (fun V : World => V.cell? ⟨g9, 4, none⟩ = some (.slice A4 y.did.length c4) ∧ V.cell? ⟨gl7, p7, none⟩ = some (.int .i64 u7)) _ := ⟨E.out.bc.cell 4, (L7.out.cell p7).trans Z7.out⟩
          refine hK.out _ _ (fun _ => hHeld) ?_
          clear hK K
          obtain ⟨u2, hu2⟩ := lit3 (-1) 6 0 p2 QP2.out
          have Z2 := Lib.hid hu2
          clear hu2
          have hq1 : (p2 : Int) < ((3 : Nat) : Int) := by have := QP2.out; omega
          have hq2 : (p2 : Int) < 3 := by have := QP2.out; omega
          refine tkD (i := 5) (v := .pointer (some ⟨gl2, p2, none⟩)) rfl (.inl ⟨by rfl, ?_⟩) ?_
          ·
           intro V hSw; (try dsimp only at hSw); go_simp; (try with_reducible rfl)
          simp only [sA, sB, sC, Act.put, sD, sE, sF]
          refine wpAnyD_more (S' := (fun V : World => V.cell? ⟨g9, 4, none⟩ = some (.slice A4 y.did.length c4) ∧ V.cell? ⟨gl7, p7, none⟩ = some (.int .i64 u7) ∧ V.cell? ⟨gl2, p2, none⟩ = some (.int .i64 u2))) (fun V hV => ⟨hV.1, hV.2.1⟩) ?_
          clear hHeld
          have hHeld : (fun V : World => V.cell? ⟨g9, 4, none⟩ = some (.slice A4 y.did.length c4) ∧ V.cell? ⟨gl7, p7, none⟩ = some (.int .i64 u7) ∧ V.cell? ⟨gl2, p2, none⟩ = some (.int .i64 u2)) _ := ⟨E.out.bc.cell 4, (L7.out.cell p7).trans Z7.out, (L2.out.cell p2).trans Z2.out⟩
          refine tkD (i := 6) (v := ?_) rfl (.inl ⟨by rfl, ?_⟩) ?_
          rotate_left
          ·
           intro V hSw; (try dsimp only at hSw); go_simp; (try with_reducible rfl)
          simp only [sA, sB, sC, Act.put, sD, sE, sF]
          clear hq1 hq2
          refine tkD (i := 12) (v := ?_) rfl (.inl ⟨by rfl, ?_⟩) ?_
          rotate_left
          ·
           intro V hSw; (try dsimp only at hSw); go_simp; (try with_reducible rfl)
          simp only [sA, sB, sC, Act.put, sD, sE, sF]
          refine wpAnyD_ready (rs := [13]) (by kernel_rfl) (by simp) ?_
          refine (AllReadyD.cons rfl (fun K hK => ?_) AllReadyD.nil)
          go_simp
          generalize hV : World.alloc v68 _ = v69
          have hb : Below v68.heap.size v68 v69 := by rw [← hV]; exact (Below.refl _ _).alloc (Nat.le_refl _) _
          have LD : Hid (Bk v69 v68.heap.size 53 #[.int .i64 u2, .int .i64 u7]) := by show Bk _ _ _ _; rw [← hV]; exact Bk.new rfl
          have E := Lib.hid (E.out.more hb)
          have DO := Lib.hid (DO.out.later hb)
          have L2 := Lib.hid (L2.out.later hb)
          have L7 := Lib.hid (L7.out.later hb)
          clear hV hb hHeld
          generalize v68.heap.size = gd at LD ⊢
          have hHeld : (fun V : World => V.cell? ⟨g9, 4, none⟩ = some (.slice A4 y.did.length c4) ∧ V.cell? ⟨gl7, p7, none⟩ = some (.int .i64 u7) ∧ V.cell? ⟨gl2, p2, none⟩ = some (.int .i64 u2)) _ := ⟨E.out.bc.cell 4, (L7.out.cell p7).trans Z7.out, (L2.out.cell p2).trans Z2.out⟩
          refine hK.out _ _ (fun _ => hHeld) ?_
          clear hK K
          refine wpAnyD_ready (rs := [14]) (by kernel_rfl) (by simp) ?_
          refine (AllReadyD.cons rfl (fun K hK => ?_) AllReadyD.nil)
          refine step_C6 rfl (.tmp 80) (.tmp 92) 41 rfl didC 53 _ 16 Try.underlying41 info_did rfl (by decide) (by decide) u.heap.size (.slice A4 y.did.length c4) y.did rfl DO.out ⟨u2, u7⟩ _ u.heap.size 0 rfl (Nat.le_refl _) (Nat.zero_le _) (fun _ _ => .inr (Nat.zero_le _)) gd rfl (fun j u hu => (LD.out.cell j).trans (by simpa [GDid.cells] using hu)) (by simp [GDid.cells, Value.oneCell']) (by have := DL.out; omega) E.out.lo_le ?_
          intro v' v70 hown hgr hbe hob
          obtain ⟨B4, d4, hv4, hdd⟩ := hown.rows (by have := DL.out; simp; omega)
          have hoff := E.out.did_off hv4 hob fun q hq => (OB.out q hq).2.1
          subst hv4
          have EA := Lib.hid (E.out.app (d4 := d4) hgr OB.out hbe hdd (fun _ => hoff) (by have := DL.out; simp; omega))
          have BC : Hid (Bk v70 g9 43 (caseCells y A1 c1 A2 c2 A3 c3 A4 c4)) := (hgr.block g9 E.out.bc.lt (fun he => (OB.out g9 he.symm).2.1 rfl)).trans E.out.bc
          have L2 : Hid (Bk v70 gl2 3 _) := (hgr.block gl2 L2.out.lt (fun he => by have := G2.out.2 _ he.symm; omega)).trans L2.out
          have L7 : Hid (Bk v70 gl7 3 _) := (hgr.block gl7 L7.out.lt (fun he => by have := G7.out.2 _ he.symm; omega)).trans L7.out
          have hHeld : (fun V : World => V.cell? ⟨g9, 4, none⟩ = some (.slice A4 y.did.length c4) ∧ V.cell? ⟨gl7, p7, none⟩ = some (.int .i64 u7) ∧ V.cell? ⟨gl2, p2, none⟩ = some (.int .i64 u2)) _ := ⟨BC.out.cell 4, (L7.out.cell p7).trans Z7.out, (L2.out.cell p2).trans Z2.out⟩
          clear hown hgr hbe hob hdd E DO hoff
          refine hK.out _ _ (fun _ => hHeld) ?_
          clear hK K
          try simp only [sA, sB, sC, Act.put, sD, sE, sF]
          refine tkD (i := 15) (v := ?_) rfl (.inl ⟨by rfl, ?_⟩) ?_
          rotate_left
          ·
           intro V hSw; (try dsimp only at hSw); go_simp; (try with_reducible rfl)
          simp only [sA, sB, sC, Act.put, sD, sE, sF]
          refine wpAnyD_ready (rs := [16]) (by kernel_rfl) (by simp) ?_
          refine (AllReadyD.cons rfl (fun K hK => ?_) AllReadyD.nil)
          have k9 := fun i => BC.out.cell i
          have f9 := fun i => BC.out.frozen i
          go_simp
          generalize hV : World.setCell v70 _ _ = v71
          have EA := Lib.hid (by rw [← hV]; have h := EA.out; rw [show (y.did ++ [(⟨u2, u7⟩ : GDid)]).length = y.did.length + 1 from by simp] at h; exact h : EndSt RB _ w u.heap.size N1 g9 _ _ A1 c1 A2 c2 A3 c3 B4 d4 #[.int .i64 0, .slice none 0 0] #[.int .i64 0, .slice none 0 0, .slice none 0 0, .slice none 0 0, .slice none 0 0] v71)
          clear hV k9 f9 BC L2 L7
          refine hK.out _ _ (fun h => by simp at h) ?_
          clear hK K hHeld
          refine wpAnyD_done (by kernel_rfl) ?_ _
          go_wp2
          go_meet
          case rel => exact ⟨⟨y.state, y.marks, y.busy, y.data, y.did ++ [(⟨u2, u7⟩ : GDid)]⟩, A1, c1, A2, c2, A3, c3, B4, d4, EA.out.mono (by omega)⟩
       ·
        go_simp
        generalize hV : World.alloc x0 _ = v72
        have hb : Below x0.heap.size x0 v72 := by rw [← hV]; exact (Below.refl _ _).alloc (Nat.le_refl _) _
        have L7 : Hid (Bk v72 x0.heap.size 3 (iv [0, 5, 1]).toArray) := by show Bk _ _ _ _; rw [← hV]; exact Bk.new rfl
        have G7 : Hid (RB < x0.heap.size ∧ ∀ q, Value.ownBlock (.slice A4 y.did.length c4) = some q → q < x0.heap.size) := ⟨E.out.rd.lt, fun q hq => (DO.out.lt q hq).2⟩
        have E := Lib.hid (E.out.more hb)
        have DO := Lib.hid (DO.out.later hb)
        clear hV hb hHeld
        generalize x0.heap.size = gl7 at L7 G7 ⊢
        have hHeld : (fun V : World => V.cell? ⟨g9, 4, none⟩ = some (.slice A4 y.did.length c4)) _ := E.out.bc.cell 4
        refine hK.out _ _ (fun _ => hHeld) ?_
        clear hK K
        refine wpAnyD_ready (rs := [2, 4]) (by kernel_rfl) (by simp) ?_
        refine (AllReadyD.cons rfl (fun K hK => ?_) (AllReadyD.cons rfl (fun K hK => ?_) AllReadyD.nil))
        ·
         go_simp
         generalize hV : World.alloc v72 _ = v73
         have hb : Below v72.heap.size v72 v73 := by rw [← hV]; exact (Below.refl _ _).alloc (Nat.le_refl _) _
         have L2 : Hid (Bk v73 v72.heap.size 3 (iv [-1, 6, 0]).toArray) := by show Bk _ _ _ _; rw [← hV]; exact Bk.new rfl
         have G2 : Hid (RB < v72.heap.size ∧ ∀ q, Value.ownBlock (.slice A4 y.did.length c4) = some q → q < v72.heap.size) := ⟨E.out.rd.lt, fun q hq => (DO.out.lt q hq).2⟩
         have E := Lib.hid (E.out.more hb)
         have DO := Lib.hid (DO.out.later hb)
         have L7 := Lib.hid (L7.out.later hb)
         clear hV hb hHeld
         generalize v72.heap.size = gl2 at L2 G2 ⊢
         have hHeld : (fun V : World => V.cell? ⟨g9, 4, none⟩ = some (.slice A4 y.did.length c4)) _ := E.out.bc.cell 4
         refine hK.out _ _ (fun _ => hHeld) ?_
         clear hK K
         refine wpAnyD_ready (rs := [4]) (by kernel_rfl) (by simp) ?_
         refine (AllReadyD.cons rfl (fun K hK => ?_) AllReadyD.nil)
         go_simp
         go_wp2_with (go_at_call 47; refine (l20Rd_pick RB _ 3 _ E.out.rd (by omega) (by omega)).mono ?_; rintro e v74 ⟨z2, rfl, h0, h1, _, hr, ht⟩; obtain ⟨p2, rfl⟩ := Int.eq_ofNat_of_zero_le h0)
         have QP2 : Hid (p2 < 3) := by show _ < _; have := h1 (by omega); omega
         have E := Lib.hid (E.out.pick hr ht)
         have DO := Lib.hid (DO.out.kept (Kept.of_turned ht UR.out))
         have L2 := Lib.hid (L2.out.turned ht (by have := G2.out.1; omega))
         have L7 := Lib.hid (L7.out.turned ht (by have := G7.out.1; omega))
         clear h0 h1 hr ht hHeld
         have hHeld : (fun V : World => V.cell? ⟨g9, 4, none⟩ = some (.slice A4 y.did.length c4)) _ := E.out.bc.cell 4
         refine hK.out _ _ (fun _ => hHeld) ?_
         clear hK K
         obtain ⟨u2, hu2⟩ := lit3 (-1) 6 0 p2 QP2.out
         have Z2 := Lib.hid hu2
         clear hu2
         have hq1 : (p2 : Int) < ((3 : Nat) : Int) := by have := QP2.out; omega
         have hq2 : (p2 : Int) < 3 := by have := QP2.out; omega
         refine tkD (i := 5) (v := .pointer (some ⟨gl2, p2, none⟩)) rfl (.inl ⟨by rfl, ?_⟩) ?_
         ·
          intro V hSw; (try dsimp only at hSw); go_simp; (try with_reducible rfl)
         simp only [sA, sB, sC, Act.put, sD, sE, sF]
         refine wpAnyD_more (S' := (fun V : World => V.cell? ⟨g9, 4, none⟩ = some (.slice A4 y.did.length c4) ∧ V.cell? ⟨gl2, p2, none⟩ = some (.int .i64 u2))) (fun V hV => hV.1) ?_
         clear hHeld
         have hHeld : (fun V : World => V.cell? ⟨g9, 4, none⟩ = some (.slice A4 y.did.length c4) ∧ V.cell? ⟨gl2, p2, none⟩ = some (.int .i64 u2)) _ := ⟨E.out.bc.cell 4, (L2.out.cell p2).trans Z2.out⟩
         refine tkD (i := 6) (v := ?_) rfl (.inl ⟨by rfl, ?_⟩) ?_
         rotate_left
         ·
          intro V hSw; (try dsimp only at hSw); go_simp; (try with_reducible rfl)
         simp only [sA, sB, sC, Act.put, sD, sE, sF]
         clear hq1 hq2
         refine wpAnyD_ready (rs := [9]) (by kernel_rfl) (by simp) ?_
         refine (AllReadyD.cons rfl (fun K hK => ?_) AllReadyD.nil)
         go_simp
         go_wp2_with (go_at_call 47; refine (l20Rd_pick RB _ 3 _ E.out.rd (by omega) (by omega)).mono ?_; rintro e v75 ⟨z7, rfl, h0, h1, _, hr, ht⟩; obtain ⟨p7, rfl⟩ := Int.eq_ofNat_of_zero_le h0)
         have QP7 : Hid (p7 < 3) := by show _ < _; have := h1 (by omega); omega
         have E := Lib.hid (E.out.pick hr ht)
         have DO := Lib.hid (DO.out.kept (Kept.of_turned ht UR.out))
         have L2 := Lib.hid (L2.out.turned ht (by have := G2.out.1; omega))
         have L7 := Lib.hid (L7.out.turned ht (by have := G7.out.1; omega))
         clear h0 h1 hr ht hHeld
         have hHeld : (fun V : World => V.cell? ⟨g9, 4, none⟩ = some (.slice A4 y.did.length c4) ∧ V.cell? ⟨gl2, p2, none⟩ = some (.int .i64 u2)) _ := ⟨E.out.bc.cell 4, (L2.out.cell p2).trans Z2.out⟩
         refine hK.out _ _ (fun _ => hHeld) ?_
         clear hK K
         obtain ⟨u7, hu7⟩ := lit3 (0) 5 1 p7 QP7.out
         have Z7 := Lib.hid hu7
         clear hu7
         have hq1 : (p7 : Int) < ((3 : Nat) : Int) := by have := QP7.out; omega
         have hq2 : (p7 : Int) < 3 := by have := QP7.out; omega
         refine tkD (i := 10) (v := .pointer (some ⟨gl7, p7, none⟩)) rfl (.inl ⟨by rfl, ?_⟩) ?_
         ·
          intro V hSw; (try dsimp only at hSw); go_simp; (try with_reducible rfl)
         simp only [sA, sB, sC, Act.put, sD, sE, sF]
         refine wpAnyD_more (S' := (fun V : World => V.cell? ⟨g9, 4, none⟩ = some (.slice A4 y.did.length c4) ∧ V.cell? ⟨gl2, p2, none⟩ = some (.int .i64 u2) ∧ V.cell? ⟨gl7, p7, none⟩ = some (.int .i64 u7))) (fun V hV => ⟨hV.1, hV.2.1⟩) ?_
         clear hHeld
         have hHeld : (fun V : World => V.cell? ⟨g9, 4, none⟩ = some (.slice A4 y.did.length c4) ∧ V.cell? ⟨gl2, p2, none⟩ = some (.int .i64 u2) ∧ V.cell? ⟨gl7, p7, none⟩ = some (.int .i64 u7)) _ := ⟨E.out.bc.cell 4, (L2.out.cell p2).trans Z2.out, (L7.out.cell p7).trans Z7.out⟩
         refine tkD (i := 11) (v := ?_) rfl (.inl ⟨by rfl, ?_⟩) ?_
         rotate_left
         ·
          intro V hSw; (try dsimp only at hSw); go_simp; (try with_reducible rfl)
         simp only [sA, sB, sC, Act.put, sD, sE, sF]
         clear hq1 hq2
         refine tkD (i := 12) (v := ?_) rfl (.inl ⟨by rfl, ?_⟩) ?_
         rotate_left
         ·
          intro V hSw; (try dsimp only at hSw); go_simp; (try with_reducible rfl)
         simp only [sA, sB, sC, Act.put, sD, sE, sF]
         refine wpAnyD_ready (rs := [13]) (by kernel_rfl) (by simp) ?_
         refine (AllReadyD.cons rfl (fun K hK => ?_) AllReadyD.nil)
         go_simp
         generalize hV : World.alloc v75 _ = v76
         have hb : Below v75.heap.size v75 v76 := by rw [← hV]; exact (Below.refl _ _).alloc (Nat.le_refl _) _
         have LD : Hid (Bk v76 v75.heap.size 53 #[.int .i64 u2, .int .i64 u7]) := by show Bk _ _ _ _; rw [← hV]; exact Bk.new rfl
         have E := Lib.hid (E.out.more hb)
         have DO := Lib.hid (DO.out.later hb)
         have L2 := Lib.hid (L2.out.later hb)
         have L7 := Lib.hid (L7.out.later hb)
         clear hV hb hHeld
         generalize v75.heap.size = gd at LD ⊢
         have hHeld : (fun V : World => V.cell? ⟨g9, 4, none⟩ = some (.slice A4 y.did.length c4) ∧ V.cell? ⟨gl2, p2, none⟩ = some (.int .i64 u2) ∧ V.cell? ⟨gl7, p7, none⟩ = some (.int .i64 u7)) _ := ⟨E.out.bc.cell 4, (L2.out.cell p2).trans Z2.out, (L7.out.cell p7).trans Z7.out⟩
         refine hK.out _ _ (fun _ => hHeld) ?_
         clear hK K
         refine wpAnyD_ready (rs := [14]) (by kernel_rfl) (by simp) ?_
         refine (AllReadyD.cons rfl (fun K hK => ?_) AllReadyD.nil)
         refine step_C6 rfl (.tmp 80) (.tmp 92) 41 rfl didC 53 _ 16 Try.underlying41 info_did rfl (by decide) (by decide) u.heap.size (.slice A4 y.did.length c4) y.did rfl DO.out ⟨u2, u7⟩ _ u.heap.size 0 rfl (Nat.le_refl _) (Nat.zero_le _) (fun _ _ => .inr (Nat.zero_le _)) gd rfl (fun j u hu => (LD.out.cell j).trans (by simpa [GDid.cells] using hu)) (by simp [GDid.cells, Value.oneCell']) (by have := DL.out; omega) E.out.lo_le ?_
         intro v' v77 hown hgr hbe hob
         obtain ⟨B4, d4, hv4, hdd⟩ := hown.rows (by have := DL.out; simp; omega)
         have hoff := E.out.did_off hv4 hob fun q hq => (OB.out q hq).2.1
         subst hv4
         have EA := Lib.hid (E.out.app (d4 := d4) hgr OB.out hbe hdd (fun _ => hoff) (by have := DL.out; simp; omega))
         have BC : Hid (Bk v77 g9 43 (caseCells y A1 c1 A2 c2 A3 c3 A4 c4)) := (hgr.block g9 E.out.bc.lt (fun he => (OB.out g9 he.symm).2.1 rfl)).trans E.out.bc
         have L2 : Hid (Bk v77 gl2 3 _) := (hgr.block gl2 L2.out.lt (fun he => by have := G2.out.2 _ he.symm; omega)).trans L2.out
         have L7 : Hid (Bk v77 gl7 3 _) := (hgr.block gl7 L7.out.lt (fun he => by have := G7.out.2 _ he.symm; omega)).trans L7.out
         have hHeld : (fun V : World => V.cell? ⟨g9, 4, none⟩ = some (.slice A4 y.did.length c4) ∧ V.cell? ⟨gl2, p2, none⟩ = some (.int .i64 u2) ∧ V.cell? ⟨gl7, p7, none⟩ = some (.int .i64 u7)) _ := ⟨BC.out.cell 4, (L2.out.cell p2).trans Z2.out, (L7.out.cell p7).trans Z7.out⟩
         clear hown hgr hbe hob hdd E DO hoff
         refine hK.out _ _ (fun _ => hHeld) ?_
         clear hK K
         try simp only [sA, sB, sC, Act.put, sD, sE, sF]
         refine tkD (i := 15) (v := ?_) rfl (.inl ⟨by rfl, ?_⟩) ?_
         rotate_left
         ·
          intro V hSw; (try dsimp only at hSw); go_simp; (try with_reducible rfl)
         simp only [sA, sB, sC, Act.put, sD, sE, sF]
         refine wpAnyD_ready (rs := [16]) (by kernel_rfl) (by simp) ?_
         refine (AllReadyD.cons rfl (fun K hK => ?_) AllReadyD.nil)
         have k9 := fun i => BC.out.cell i
         have f9 := fun i => BC.out.frozen i
         go_simp
         generalize hV : World.setCell v77 _ _ = v78
         have EA := Lib.hid (by rw [← hV]; have h := EA.out; rw [show (y.did ++ [(⟨u2, u7⟩ : GDid)]).length = y.did.length + 1 from by simp] at h; exact h : EndSt RB _ w u.heap.size N1 g9 _ _ A1 c1 A2 c2 A3 c3 B4 d4 #[.int .i64 0, .slice none 0 0] #[.int .i64 0, .slice none 0 0, .slice none 0 0, .slice none 0 0, .slice none 0 0] v78)
         clear hV k9 f9 BC L2 L7
         refine hK.out _ _ (fun h => by simp at h) ?_
         clear hK K hHeld
         refine wpAnyD_done (by kernel_rfl) ?_ _
         go_wp2
         go_meet
         case rel => exact ⟨⟨y.state, y.marks, y.busy, y.data, y.did ++ [(⟨u2, u7⟩ : GDid)]⟩, A1, c1, A2, c2, A3, c3, B4, d4, EA.out.mono (by omega)⟩
        ·
         go_simp
         go_wp2_with (go_at_call 47; refine (l20Rd_pick RB _ 3 _ E.out.rd (by omega) (by omega)).mono ?_; rintro e v79 ⟨z2, rfl, h0, h1, _, hr, ht⟩; obtain ⟨p2, rfl⟩ := Int.eq_ofNat_of_zero_le h0)
         have QP2 : Hid (p2 < 3) := by show _ < _; have := h1 (by omega); omega
         have E := Lib.hid (E.out.pick hr ht)
         have DO := Lib.hid (DO.out.kept (Kept.of_turned ht UR.out))
         have L7 := Lib.hid (L7.out.turned ht (by have := G7.out.1; omega))
         clear h0 h1 hr ht hHeld
         have hHeld : (fun V : World => V.cell? ⟨g9, 4, none⟩ = some (.slice A4 y.did.length c4)) _ := E.out.bc.cell 4
         refine hK.out _ _ (fun _ => hHeld) ?_
         clear hK K
         refine wpAnyD_ready (rs := [2, 9]) (by kernel_rfl) (by simp) ?_
         refine (AllReadyD.cons rfl (fun K hK => ?_) (AllReadyD.cons rfl (fun K hK => ?_) AllReadyD.nil))
         ·
          go_simp
          generalize hV : World.alloc v79 _ = v80
          have hb : Below v79.heap.size v79 v80 := by rw [← hV]; exact (Below.refl _ _).alloc (Nat.le_refl _) _
          have L2 : Hid (Bk v80 v79.heap.size 3 (iv [-1, 6, 0]).toArray) := by show Bk _ _ _ _; rw [← hV]; exact Bk.new rfl
          have G2 : Hid (RB < v79.heap.size ∧ ∀ q, Value.ownBlock (.slice A4 y.did.length c4) = some q → q < v79.heap.size) := ⟨E.out.rd.lt, fun q hq => (DO.out.lt q hq).2⟩
          have E := Lib.hid (E.out.more hb)
          have DO := Lib.hid (DO.out.later hb)
          have L7 := Lib.hid (L7.out.later hb)
          clear hV hb hHeld
          generalize v79.heap.size = gl2 at L2 G2 ⊢
          have hHeld : (fun V : World => V.cell? ⟨g9, 4, none⟩ = some (.slice A4 y.did.length c4)) _ := E.out.bc.cell 4
          refine hK.out _ _ (fun _ => hHeld) ?_
          clear hK K
          obtain ⟨u2, hu2⟩ := lit3 (-1) 6 0 p2 QP2.out
          have Z2 := Lib.hid hu2
          clear hu2
          have hq1 : (p2 : Int) < ((3 : Nat) : Int) := by have := QP2.out; omega
          have hq2 : (p2 : Int) < 3 := by have := QP2.out; omega
          refine tkD (i := 5) (v := .pointer (some ⟨gl2, p2, none⟩)) rfl (.inl ⟨by rfl, ?_⟩) ?_
          ·
           intro V hSw; (try dsimp only at hSw); go_simp; (try with_reducible rfl)
          simp only [sA, sB, sC, Act.put, sD, sE, sF]
          refine wpAnyD_more (S' := (fun V : World => V.cell? ⟨g9, 4, none⟩ = some (.slice A4 y.did.length c4) ∧ V.cell? ⟨gl2, p2, none⟩ = some (.int .i64 u2))) (fun V hV => hV.1) ?_
          clear hHeld
          have hHeld : (fun V : World => V.cell? ⟨g9, 4, none⟩ = some (.slice A4 y.did.length c4) ∧ V.cell? ⟨gl2, p2, none⟩ = some (.int .i64 u2)) _ := ⟨E.out.bc.cell 4, (L2.out.cell p2).trans Z2.out⟩
          refine tkD (i := 6) (v := ?_) rfl (.inl ⟨by rfl, ?_⟩) ?_
          rotate_left
          ·
           intro V hSw; (try dsimp only at hSw); go_simp; (try with_reducible rfl)
          simp only [sA, sB, sC, Act.put, sD, sE, sF]
          clear hq1 hq2
          refine wpAnyD_ready (rs := [9]) (by kernel_rfl) (by simp) ?_
          refine (AllReadyD.cons rfl (fun K hK => ?_) AllReadyD.nil)
          go_simp
          go_wp2_with (go_at_call 47; refine (l20Rd_pick RB _ 3 _ E.out.rd (by omega) (by omega)).mono ?_; rintro e v81 ⟨z7, rfl, h0, h1, _, hr, ht⟩; obtain ⟨p7, rfl⟩ := Int.eq_ofNat_of_zero_le h0)
          have QP7 : Hid (p7 < 3) := by show _ < _; have := h1 (by omega); omega
          have E := Lib.hid (E.out.pick hr ht)
          have DO := Lib.hid (DO.out.kept (Kept.of_turned ht UR.out))
          have L2 := Lib.hid (L2.out.turned ht (by have := G2.out.1; omega))
          have L7 := Lib.hid (L7.out.turned ht (by have := G7.out.1; omega))
          clear h0 h1 hr ht hHeld
          have hHeld : (fun V : World => V.cell? ⟨g9, 4, none⟩ = some (.slice A4 y.did.length c4) ∧ V.cell? ⟨gl2, p2, none⟩ = some (.int .i64 u2)) _ := ⟨E.out.bc.cell 4, (L2.out.cell p2).trans Z2.out⟩
          refine hK.out _ _ (fun _ => hHeld) ?_
          clear hK K
          obtain ⟨u7, hu7⟩ := lit3 (0) 5 1 p7 QP7.out
          have Z7 := Lib.hid hu7
          clear hu7
          have hq1 : (p7 : Int) < ((3 : Nat) : Int) := by have := QP7.out; omega
          have hq2 : (p7 : Int) < 3 := by have := QP7.out; omega
          refine tkD (i := 10) (v := .pointer (some ⟨gl7, p7, none⟩)) rfl (.inl ⟨by rfl, ?_⟩) ?_
          ·
           intro V hSw; (try dsimp only at hSw); go_simp; (try with_reducible rfl)
          simp only [sA, sB, sC, Act.put, sD, sE, sF]
          refine wpAnyD_more (S' := (fun V : World => V.cell? ⟨g9, 4, none⟩ = some (.slice A4 y.did.length c4) ∧ V.cell? ⟨gl2, p2, none⟩ = some (.int .i64 u2) ∧ V.cell? ⟨gl7, p7, none⟩ = some (.int .i64 u7))) (fun V hV => ⟨hV.1, hV.2.1⟩) ?_
          clear hHeld
          have hHeld : (fun V : World => V.cell? ⟨g9, 4, none⟩ = some (.slice A4 y.did.length c4) ∧ V.cell? ⟨gl2, p2, none⟩ = some (.int .i64 u2) ∧ V.cell? ⟨gl7, p7, none⟩ = some (.int .i64 u7)) _ := ⟨E.out.bc.cell 4, (L2.out.cell p2).trans Z2.out, (L7.out.cell p7).trans Z7.out⟩
          refine tkD (i := 11) (v := ?_) rfl (.inl ⟨by rfl, ?_⟩) ?_
          rotate_left
          ·
           intro V hSw; (try dsimp only at hSw); go_simp; (try with_reducible rfl)
          simp only [sA, sB, sC, Act.put, sD, sE, sF]
          clear hq1 hq2
          refine tkD (i := 12) (v := ?_) rfl (.inl ⟨by rfl, ?_⟩) ?_
          rotate_left
          ·
           intro V hSw; (try dsimp only at hSw); go_simp; (try with_reducible rfl)
          simp only [sA, sB, sC, Act.put, sD, sE, sF]
          refine wpAnyD_ready (rs := [13]) (by kernel_rfl) (by simp) ?_
          refine (AllReadyD.cons rfl (fun K hK => ?_) AllReadyD.nil)
          go_simp
          generalize hV : World.alloc v81 _ = v82
          have hb : Below v81.heap.size v81 v82 := by rw [← hV]; exact (Below.refl _ _).alloc (Nat.le_refl _) _
          have LD : Hid (Bk v82 v81.heap.size 53 #[.int .i64 u2, .int .i64 u7]) := by show Bk _ _ _ _; rw [← hV]; exact Bk.new rfl
          have E := Lib.hid (E.out.more hb)
          have DO := Lib.hid (DO.out.later hb)
          have L2 := Lib.hid (L2.out.later hb)
          have L7 := Lib.hid (L7.out.later hb)
          clear hV hb hHeld
          generalize v81.heap.size = gd at LD ⊢
          have hHeld : (fun V : World => V.cell? ⟨g9, 4, none⟩ = some (.slice A4 y.did.length c4) ∧ V.cell? ⟨gl2, p2, none⟩ = some (.int .i64 u2) ∧ V.cell? ⟨gl7, p7, none⟩ = some (.int .i64 u7)) _ := ⟨E.out.bc.cell 4, (L2.out.cell p2).trans Z2.out, (L7.out.cell p7).trans Z7.out⟩
          refine hK.out _ _ (fun _ => hHeld) ?_
          clear hK K
          refine wpAnyD_ready (rs := [14]) (by kernel_rfl) (by simp) ?_
          refine (AllReadyD.cons rfl (fun K hK => ?_) AllReadyD.nil)
          refine step_C6 rfl (.tmp 80) (.tmp 92) 41 rfl didC 53 _ 16 Try.underlying41 info_did rfl (by decide) (by decide) u.heap.size (.slice A4 y.did.length c4) y.did rfl DO.out ⟨u2, u7⟩ _ u.heap.size 0 rfl (Nat.le_refl _) (Nat.zero_le _) (fun _ _ => .inr (Nat.zero_le _)) gd rfl (fun j u hu => (LD.out.cell j).trans (by simpa [GDid.cells] using hu)) (by simp [GDid.cells, Value.oneCell']) (by have := DL.out; omega) E.out.lo_le ?_
          intro v' v83 hown hgr hbe hob
          obtain ⟨B4, d4, hv4, hdd⟩ := hown.rows (by have := DL.out; simp; omega)
          have hoff := E.out.did_off hv4 hob fun q hq => (OB.out q hq).2.1
          subst hv4
          have EA := Lib.hid (E.out.app (d4 := d4) hgr OB.out hbe hdd (fun _ => hoff) (by have := DL.out; simp; omega))
          have BC : Hid (Bk v83 g9 43 (caseCells y A1 c1 A2 c2 A3 c3 A4 c4)) := (hgr.block g9 E.out.bc.lt (fun he => (OB.out g9 he.symm).2.1 rfl)).trans E.out.bc
          have L2 : Hid (Bk v83 gl2 3 _) := (hgr.block gl2 L2.out.lt (fun he => by have := G2.out.2 _ he.symm; omega)).trans L2.out
          have L7 : Hid (Bk v83 gl7 3 _) := (hgr.block gl7 L7.out.lt (fun he => by have := G7.out.2 _ he.symm; omega)).trans L7.out
          have hHeld : (fun V : World => V.cell? ⟨g9, 4, none⟩ = some (.slice A4 y.did.length c4) ∧ V.cell? ⟨gl2, p2, none⟩ = some (.int .i64 u2) ∧ V.cell? ⟨gl7, p7, none⟩ = some (.int .i64 u7)) _ := ⟨BC.out.cell 4, (L2.out.cell p2).trans Z2.out, (L7.out.cell p7).trans Z7.out⟩
          clear hown hgr hbe hob hdd E DO hoff
          refine hK.out _ _ (fun _ => hHeld) ?_
          clear hK K
          try simp only [sA, sB, sC, Act.put, sD, sE, sF]
          refine tkD (i := 15) (v := ?_) rfl (.inl ⟨by rfl, ?_⟩) ?_
          rotate_left
          ·
           intro V hSw; (try dsimp only at hSw); go_simp; (try with_reducible rfl)
          simp only [sA, sB, sC, Act.put, sD, sE, sF]
          refine wpAnyD_ready (rs := [16]) (by kernel_rfl) (by simp) ?_
          refine (AllReadyD.cons rfl (fun K hK => ?_) AllReadyD.nil)
          have k9 := fun i => BC.out.cell i
          have f9 := fun i => BC.out.frozen i
          go_simp
          generalize hV : World.setCell v83 _ _ = v84
          have EA := Lib.hid (by rw [← hV]; have h := EA.out; rw [show (y.did ++ [(⟨u2, u7⟩ : GDid)]).length = y.did.length + 1 from by simp] at h; exact h : EndSt RB _ w u.heap.size N1 g9 _ _ A1 c1 A2 c2 A3 c3 B4 d4 #[.int .i64 0, .slice none 0 0] #[.int .i64 0, .slice none 0 0, .slice none 0 0, .slice none 0 0, .slice none 0 0] v84)
          clear hV k9 f9 BC L2 L7
          refine hK.out _ _ (fun h => by simp at h) ?_
          clear hK K hHeld
          refine wpAnyD_done (by kernel_rfl) ?_ _
          go_wp2
          go_meet
          case rel => exact ⟨⟨y.state, y.marks, y.busy, y.data, y.did ++ [(⟨u2, u7⟩ : GDid)]⟩, A1, c1, A2, c2, A3, c3, B4, d4, EA.out.mono (by omega)⟩
         ·
          go_simp
          go_wp2_with (go_at_call 47; refine (l20Rd_pick RB _ 3 _ E.out.rd (by omega) (by omega)).mono ?_; rintro e v85 ⟨z7, rfl, h0, h1, _, hr, ht⟩; obtain ⟨p7, rfl⟩ := Int.eq_ofNat_of_zero_le h0)
          have QP7 : Hid (p7 < 3) := by show _ < _; have := h1 (by omega); omega
          have E := Lib.hid (E.out.pick hr ht)
          have DO := Lib.hid (DO.out.kept (Kept.of_turned ht UR.out))
          have L7 := Lib.hid (L7.out.turned ht (by have := G7.out.1; omega))
          clear h0 h1 hr ht hHeld
          have hHeld : (fun V : World => V.cell? ⟨g9, 4, none⟩ = some (.slice A4 y.did.length c4)) _ := E.out.bc.cell 4
          refine hK.out _ _ (fun _ => hHeld) ?_
          clear hK K
          obtain ⟨u7, hu7⟩ := lit3 (0) 5 1 p7 QP7.out
          have Z7 := Lib.hid hu7
          clear hu7
          have hq1 : (p7 : Int) < ((3 : Nat) : Int) := by have := QP7.out; omega
          have hq2 : (p7 : Int) < 3 := by have := QP7.out; omega
          refine tkD (i := 10) (v := .pointer (some ⟨gl7, p7, none⟩)) rfl (.inl ⟨by rfl, ?_⟩) ?_
          ·
           intro V hSw; (try dsimp only at hSw); go_simp; (try with_reducible rfl)
          simp only [sA, sB, sC, Act.put, sD, sE, sF]
          refine wpAnyD_more (S' := (fun V : World => V.cell? ⟨g9, 4, none⟩ = some (.slice A4 y.did.length c4) ∧ V.cell? ⟨gl7, p7, none⟩ = some (.int .i64 u7))) (fun V hV => hV.1) ?_
          clear hHeld
          have hHeld : (fun V : World => V.cell? ⟨g9, 4, none⟩ = some (.slice A4 y.did.length c4) ∧ V.cell? ⟨gl7, p7, none⟩ = some (.int .i64 u7)) _ := ⟨E.out.bc.cell 4, (L7.out.cell p7).trans Z7.out⟩
          refine tkD (i := 11) (v := ?_) rfl (.inl ⟨by rfl, ?_⟩) ?_
          rotate_left
          ·
           intro V hSw; (try dsimp only at hSw); go_simp; (try with_reducible rfl)
          simp only [sA, sB, sC, Act.put, sD, sE, sF]
          clear hq1 hq2
          refine wpAnyD_ready (rs := [2]) (by kernel_rfl) (by simp) ?_
          refine (AllReadyD.cons rfl (fun K hK => ?_) AllReadyD.nil)
          go_simp
          generalize hV : World.alloc v85 _ = v86
          have hb : Below v85.heap.size v85 v86 := by rw [← hV]; exact (Below.refl _ _).alloc (Nat.le_refl _) _
          have L2 : Hid (Bk v86 v85.heap.size 3 (iv [-1, 6, 0]).toArray) := by show Bk _ _ _ _; rw [← hV]; exact Bk.new rfl
          have G2 : Hid (RB < v85.heap.size ∧ ∀ q, Value.ownBlock (.slice A4 y.did.length c4) = some q → q < v85.heap.size) := ⟨E.out.rd.lt, fun q hq => (DO.out.lt q hq).2⟩
          have E := Lib.hid (E.out.more hb)
          have DO := Lib.hid (DO.out.later hb)
          have L7 := Lib.hid (L7.out.later hb)
          clear hV hb hHeld
          generalize v85.heap.size = gl2 at L2 G2 ⊢
          have hHeld : (fun V : World => V.cell? ⟨g9, 4, none⟩ = some (.slice A4 y.did.length c4) ∧ V.cell? ⟨gl7, p7, none⟩ = some (.int .i64 u7)) _ := ⟨E.out.bc.cell 4, (L7.out.cell p7).trans Z7.out⟩
          refine hK.out _ _ (fun _ => hHeld) ?_
          clear hK K
          obtain ⟨u2, hu2⟩ := lit3 (-1) 6 0 p2 QP2.out
          have Z2 := Lib.hid hu2
          clear hu2
          have hq1 : (p2 : Int) < ((3 : Nat) : Int) := by have := QP2.out; omega
          have hq2 : (p2 : Int) < 3 := by have := QP2.out; omega
          refine tkD (i := 5) (v := .pointer (some ⟨gl2, p2, none⟩)) rfl (.inl ⟨by rfl, ?_⟩) ?_
          ·
           intro V hSw; (try dsimp only at hSw); go_simp; (try with_reducible rfl)
          simp only [sA, sB, sC, Act.put, sD, sE, sF]
          refine wpAnyD_more (S' := (fun V : World => V.cell? ⟨g9, 4, none⟩ = some (.slice A4 y.did.length c4) ∧ V.cell? ⟨gl7, p7, none⟩ = some (.int .i64 u7) ∧ V.cell? ⟨gl2, p2, none⟩ = some (.int .i64 u2))) (fun V hV => ⟨hV.1, hV.2.1⟩) ?_
          clear hHeld
          have hHeld : (fun V : World => V.cell? ⟨g9, 4, none⟩ = some (.slice A4 y.did.length c4) ∧ V.cell? ⟨gl7, p7, none⟩ = some (.int .i64 u7) ∧ V.cell? ⟨gl2, p2, none⟩ = some (.int .i64 u2)) _ := ⟨E.out.bc.cell 4, (L7.out.cell p7).trans Z7.out, (L2.out.cell p2).trans Z2.out⟩
          refine tkD (i := 6) (v := ?_) rfl (.inl ⟨by rfl, ?_⟩) ?_
          rotate_left
          ·
           intro V hSw; (try dsimp only at hSw); go_simp; (try with_reducible rfl)
          simp only [sA, sB, sC, Act.put, sD, sE, sF]
          clear hq1 hq2
          refine tkD (i := 12) (v := ?_) rfl (.inl ⟨by rfl, ?_⟩) ?_
          rotate_left
          ·
           intro V hSw; (try dsimp only at hSw); go_simp; (try with_reducible rfl)
          simp only [sA, sB, sC, Act.put, sD, sE, sF]
          refine wpAnyD_ready (rs := [13]) (by kernel_rfl) (by simp) ?_
          refine (AllReadyD.cons rfl (fun K hK => ?_) AllReadyD.nil)
          go_simp
          generalize hV : World.alloc v86 _ = v87
          have hb : Below v86.heap.size v86 v87 := by rw [← hV]; exact (Below.refl _ _).alloc (Nat.le_refl _) _
          have LD : Hid (Bk v87 v86.heap.size 53 #[.int .i64 u2, .int .i64 u7]) := by show Bk _ _ _ _; rw [← hV]; exact Bk.new rfl
          have E := Lib.hid (E.out.more hb)
          have DO := Lib.hid (DO.out.later hb)
          have L2 := Lib.hid (L2.out.later hb)
          have L7 := Lib.hid (L7.out.later hb)
          clear hV hb hHeld
          generalize v86.heap.size = gd at LD ⊢
          have hHeld : (fun V : World => V.cell? ⟨g9, 4, none⟩ = some (.slice A4 y.did.length c4) ∧ V.cell? ⟨gl7, p7, none⟩ = some (.int .i64 u7) ∧ V.cell? ⟨gl2, p2, none⟩ = some (.int .i64 u2)) _ := ⟨E.out.bc.cell 4, (L7.out.cell p7).trans Z7.out, (L2.out.cell p2).trans Z2.out⟩
          refine hK.out _ _ (fun _ => hHeld) ?_
          clear hK K
          refine wpAnyD_ready (rs := [14]) (by kernel_rfl) (by simp) ?_
          refine (AllReadyD.cons rfl (fun K hK => ?_) AllReadyD.nil)
          refine step_C6 rfl (.tmp 80) (.tmp 92) 41 rfl didC 53 _ 16 Try.underlying41 info_did rfl (by decide) (by decide) u.heap.size (.slice A4 y.did.length c4) y.did rfl DO.out ⟨u2, u7⟩ _ u.heap.size 0 rfl (Nat.le_refl _) (Nat.zero_le _) (fun _ _ => .inr (Nat.zero_le _)) gd rfl (fun j u hu => (LD.out.cell j).trans (by simpa [GDid.cells] using hu)) (by simp [GDid.cells, Value.oneCell']) (by have := DL.out; omega) E.out.lo_le ?_
          intro v' v88 hown hgr hbe hob
          obtain ⟨B4, d4, hv4, hdd⟩ := hown.rows (by have := DL.out; simp; omega)
          have hoff := E.out.did_off hv4 hob fun q hq => (OB.out q hq).2.1
          subst hv4
          have EA := Lib.hid (E.out.app (d4 := d4) hgr OB.out hbe hdd (fun _ => hoff) (by have := DL.out; simp; omega))
          have BC : Hid (Bk v88 g9 43 (caseCells y A1 c1 A2 c2 A3 c3 A4 c4)) := (hgr.block g9 E.out.bc.lt (fun he => (OB.out g9 he.symm).2.1 rfl)).trans E.out.bc
          have L2 : Hid (Bk v88 gl2 3 _) := (hgr.block gl2 L2.out.lt (fun he => by have := G2.out.2 _ he.symm; omega)).trans L2.out
          have L7 : Hid (Bk v88 gl7 3 _) := (hgr.block gl7 L7.out.lt (fun he => by have := G7.out.2 _ he.symm; omega)).trans L7.out
          have hHeld : (fun V : World => V.cell? ⟨g9, 4, none⟩ = some (.slice A4 y.did.length c4) ∧ V.cell? ⟨gl7, p7, none⟩ = some (.int .i64 u7) ∧ V.cell? ⟨gl2, p2, none⟩ = some (.int .i64 u2)) _ := ⟨BC.out.cell 4, (L7.out.cell p7).trans Z7.out, (L2.out.cell p2).trans Z2.out⟩
          clear hown hgr hbe hob hdd E DO hoff
          refine hK.out _ _ (fun _ => hHeld) ?_
          clear hK K
          try simp only [sA, sB, sC, Act.put, sD, sE, sF]
          refine tkD (i := 15) (v := ?_) rfl (.inl ⟨by rfl, ?_⟩) ?_
          rotate_left
          ·
           intro V hSw; (try dsimp only at hSw); go_simp; (try with_reducible rfl)
          simp only [sA, sB, sC, Act.put, sD, sE, sF]
          refine wpAnyD_ready (rs := [16]) (by kernel_rfl) (by simp) ?_
          refine (AllReadyD.cons rfl (fun K hK => ?_) AllReadyD.nil)
          have k9 := fun i => BC.out.cell i
          have f9 := fun i => BC.out.frozen i
          go_simp
          generalize hV : World.setCell v88 _ _ = v89
          have EA := Lib.hid (by rw [← hV]; have h := EA.out; rw [show (y.did ++ [(⟨u2, u7⟩ : GDid)]).length = y.did.length + 1 from by simp] at h; exact h : EndSt RB _ w u.heap.size N1 g9 _ _ A1 c1 A2 c2 A3 c3 B4 d4 #[.int .i64 0, .slice none 0 0] #[.int .i64 0, .slice none 0 0, .slice none 0 0, .slice none 0 0, .slice none 0 0] v89)
          clear hV k9 f9 BC L2 L7
          refine hK.out _ _ (fun h => by simp at h) ?_
          clear hK K hHeld
          refine wpAnyD_done (by kernel_rfl) ?_ _
          go_wp2
          go_meet
          case rel => exact ⟨⟨y.state, y.marks, y.busy, y.data, y.did ++ [(⟨u2, u7⟩ : GDid)]⟩, A1, c1, A2, c2, A3, c3, B4, d4, EA.out.mono (by omega)⟩
      ·
       go_upto_region 11 with fail
       clear TU DO DL OB
       have hdr := (Below.refl w7.heap.size w7).drew
       refine wp_region_held_drew (S := (fun V : World => V.cell? ⟨N1, 0, none⟩ = some (.int .i64 x.places) ∧ V.cell? ⟨N1, 1, none⟩ = some (.slice (some ⟨g, 0, none⟩) x.tasks.length c) ∧ V.cell? ⟨g9, 0, none⟩ = some (.int .i64 y.state) ∧ V.cell? ⟨g9, 1, none⟩ = some (.slice A1 y.marks.length c1) ∧ V.cell? ⟨g9, 2, none⟩ = some (.slice A2 y.busy.length c2) ∧ V.cell? ⟨g9, 3, none⟩ = some (.slice A3 y.data.length c3) ∧ V.cell? ⟨g9, 4, none⟩ = some (.slice A4 y.did.length c4))) (by kernel_rfl) ⟨E.out.bn.cell 0, E.out.bn.cell 1, E.out.bc.cell 0, E.out.bc.cell 1, E.out.bc.cell 2, E.out.bc.cell 3, E.out.bc.cell 4⟩ (fun hHeld => ?_)
       generalize w7.drew = v90 at hdr hHeld ⊢
       have E := Lib.hid (E.out.more hdr)
       clear hdr
       refine tk (i := 0) (v := ?_) rfl (.inl ⟨by rfl, ?_⟩) ?_
       rotate_left
       ·
        intro V hSw; (try dsimp only at hSw); go_simp; (try with_reducible rfl)
       simp only [sA, sB, sC, Act.put, sD, sE, sF]
       refine tk (i := 1) (v := ?_) rfl (.inl ⟨by rfl, ?_⟩) ?_
       rotate_left
       ·
        intro V hSw; (try dsimp only at hSw); go_simp; (try with_reducible rfl)
       simp only [sA, sB, sC, Act.put, sD, sE, sF]
       refine tk (i := 3) (v := ?_) rfl (.inl ⟨by rfl, ?_⟩) ?_
       rotate_left
       ·
        intro V hSw; (try dsimp only at hSw); go_simp; (try with_reducible rfl)
       simp only [sA, sB, sC, Act.put, sD, sE, sF]
       refine wpAnyH_ready (rs := [2]) (by kernel_rfl) (by simp) ?_
       refine AllReadyH.cons rfl (fun K hK => ?_) AllReadyH.nil
       go_simp
       go_wp2_with (go_at_call 59; refine (l20People RB _ 1 _ E.out.rd (by omega) (by omega)).mono ?_; rintro e v91 ⟨Aq, cq, qs, rfl, _, _, _, hr, ht⟩)
       have E := Lib.hid (E.out.pick hr ht)
       clear hr ht
       refine hK.out _ _ ⟨E.out.bn.cell 0, E.out.bn.cell 1, E.out.bc.cell 0, E.out.bc.cell 1, E.out.bc.cell 2, E.out.bc.cell 3, E.out.bc.cell 4⟩ (fun hHeld => ?_)
       clear hK K
       refine wpAnyH_ready (rs := [4]) (by kernel_rfl) (by simp) ?_
       refine AllReadyH.cons rfl (fun K hK => ?_) AllReadyH.nil
       have k0 := fun i => E.out.b0.cell i
       have f0 := fun i => E.out.b0.frozen i
       go_simp
       generalize hV : World.setCell (World.setCell v91 _ _) _ _ = v92
       have E := Lib.hid (by rw [← hV]; exact E.out.put0 : EndSt RB _ w u.heap.size N1 g9 _ y A1 c1 A2 c2 A3 c3 A4 c4 #[.int .i64 x.places, .slice (some ⟨g, 0, none⟩) x.tasks.length c] #[.int .i64 0, .slice none 0 0, .slice none 0 0, .slice none 0 0, .slice none 0 0] v92)
       clear hV k0 f0
       refine hK.out _ _ ⟨E.out.bn.cell 0, E.out.bn.cell 1, E.out.bc.cell 0, E.out.bc.cell 1, E.out.bc.cell 2, E.out.bc.cell 3, E.out.bc.cell 4⟩ (fun hHeld => ?_)
       clear hK K
       refine tk (i := 5) (v := ?_) rfl (.inl ⟨by rfl, ?_⟩) ?_
       rotate_left
       ·
        intro V hSw; (try dsimp only at hSw); go_simp; (try with_reducible rfl)
       simp only [sA, sB, sC, Act.put, sD, sE, sF]
       refine wpAnyH_ready (rs := [6]) (by kernel_rfl) (by simp) ?_
       refine AllReadyH.cons rfl (fun K hK => ?_) AllReadyH.nil
       have k0 := fun i => E.out.b1.cell i
       have f0 := fun i => E.out.b1.frozen i
       go_simp
       generalize hV : World.setCell (World.setCell (World.setCell (World.setCell (World.setCell v92 _ _) _ _) _ _) _ _) _ _ = v93
       have E := Lib.hid (by rw [← hV]; exact E.out.put1 : EndSt RB _ w u.heap.size N1 g9 _ y A1 c1 A2 c2 A3 c3 A4 c4 #[.int .i64 x.places, .slice (some ⟨g, 0, none⟩) x.tasks.length c] (caseCells y A1 c1 A2 c2 A3 c3 A4 c4) v93)
       clear hV k0 f0
       refine hK.out _ _ ⟨E.out.bn.cell 0, E.out.bn.cell 1, E.out.bc.cell 0, E.out.bc.cell 1, E.out.bc.cell 2, E.out.bc.cell 3, E.out.bc.cell 4⟩ (fun hHeld => ?_)
       clear hK K
       refine wpAnyH_done (by kernel_rfl) ?_ _
       clear hHeld
       have k4 := fun i => E.out.b0.cell i
       have k6 := fun i => E.out.b1.cell i
       go_wp2
       refine bodyPost_ret (v := .tuple #[.agg #[.int .i64 x.places, .slice (some ⟨g, 0, none⟩) x.tasks.length c], .slice Aq qs.length cq, .agg (caseCells y A1 c1 A2 c2 A3 c3 A4 c4)]) (by simp [results, Try.results45, go_sem, k4, k6]) rfl ?_
       exact E.out.give (by omega) _ _ _ _ _
     case rest =>
      obtain ⟨y, A1, c1, A2, c2, A3, c3, A4, c4, E⟩ := hcut
      have E : Hid (EndSt RB (P + 620) w u.heap.size N1 g9 #[.int .i64 x.places, .slice (some ⟨g, 0, none⟩) x.tasks.length c] y A1 c1 A2 c2 A3 c3 A4 c4 #[.int .i64 0, .slice none 0 0] #[.int .i64 0, .slice none 0 0, .slice none 0 0, .slice none 0 0, .slice none 0 0] wc) := E
      clear TU DO DL OB
      go_upto_region 24 with fail
      have hdr := (Below.refl wc.heap.size wc).drew
      refine wp_region_held_drew (S := (fun V : World => V.cell? ⟨N1, 0, none⟩ = some (.int .i64 x.places) ∧ V.cell? ⟨N1, 1, none⟩ = some (.slice (some ⟨g, 0, none⟩) x.tasks.length c) ∧ V.cell? ⟨g9, 0, none⟩ = some (.int .i64 y.state) ∧ V.cell? ⟨g9, 1, none⟩ = some (.slice A1 y.marks.length c1) ∧ V.cell? ⟨g9, 2, none⟩ = some (.slice A2 y.busy.length c2) ∧ V.cell? ⟨g9, 3, none⟩ = some (.slice A3 y.data.length c3) ∧ V.cell? ⟨g9, 4, none⟩ = some (.slice A4 y.did.length c4))) (by kernel_rfl) ⟨E.out.bn.cell 0, E.out.bn.cell 1, E.out.bc.cell 0, E.out.bc.cell 1, E.out.bc.cell 2, E.out.bc.cell 3, E.out.bc.cell 4⟩ (fun hHeld => ?_)
      generalize wc.drew = v94 at hdr hHeld ⊢
      have E := Lib.hid (E.out.more hdr)
      clear hdr
      refine tk (i := 0) (v := ?_) rfl (.inl ⟨by rfl, ?_⟩) ?_
      rotate_left
      ·
       intro V hSw; (try dsimp only at hSw); go_simp; (try with_reducible rfl)
      simp only [sA, sB, sC, Act.put, sD, sE, sF]
      refine tk (i := 1) (v := ?_) rfl (.inl ⟨by rfl, ?_⟩) ?_
      rotate_left
      ·
       intro V hSw; (try dsimp only at hSw); go_simp; (try with_reducible rfl)
      simp only [sA, sB, sC, Act.put, sD, sE, sF]
      refine tk (i := 2) (v := ?_) rfl (.inl ⟨by rfl, ?_⟩) ?_
      rotate_left
      ·
       intro V hSw; (try dsimp only at hSw); go_simp; (try with_reducible rfl)
      simp only [sA, sB, sC, Act.put, sD, sE, sF]
      refine wpAnyH_ready (rs := [3]) (by kernel_rfl) (by simp) ?_
      refine AllReadyH.cons rfl (fun K hK => ?_) AllReadyH.nil
      have k0 := fun i => E.out.b0.cell i
      have f0 := fun i => E.out.b0.frozen i
      go_simp
      generalize hV : World.setCell (World.setCell v94 _ _) _ _ = v95
      have E := Lib.hid (by rw [← hV]; exact E.out.put0 : EndSt RB _ w u.heap.size N1 g9 _ y A1 c1 A2 c2 A3 c3 A4 c4 #[.int .i64 x.places, .slice (some ⟨g, 0, none⟩) x.tasks.length c] #[.int .i64 0, .slice none 0 0, .slice none 0 0, .slice none 0 0, .slice none 0 0] v95)
      clear hV k0 f0
      refine hK.out _ _ ⟨E.out.bn.cell 0, E.out.bn.cell 1, E.out.bc.cell 0, E.out.bc.cell 1, E.out.bc.cell 2, E.out.bc.cell 3, E.out.bc.cell 4⟩ (fun hHeld => ?_)
      clear hK K
      refine tk (i := 4) (v := ?_) rfl (.inl ⟨by rfl, ?_⟩) ?_
      rotate_left
      ·
       intro V hSw; (try dsimp only at hSw); go_simp; (try with_reducible rfl)
      simp only [sA, sB, sC, Act.put, sD, sE, sF]
      refine wpAnyH_ready (rs := [5]) (by kernel_rfl) (by simp) ?_
      refine AllReadyH.cons rfl (fun K hK => ?_) AllReadyH.nil
      have k0 := fun i => E.out.b1.cell i
      have f0 := fun i => E.out.b1.frozen i
      go_simp
      generalize hV : World.setCell (World.setCell (World.setCell (World.setCell (World.setCell v95 _ _) _ _) _ _) _ _) _ _ = v96
      have E := Lib.hid (by rw [← hV]; exact E.out.put1 : EndSt RB _ w u.heap.size N1 g9 _ y A1 c1 A2 c2 A3 c3 A4 c4 #[.int .i64 x.places, .slice (some ⟨g, 0, none⟩) x.tasks.length c] (caseCells y A1 c1 A2 c2 A3 c3 A4 c4) v96)
      clear hV k0 f0
      refine hK.out _ _ ⟨E.out.bn.cell 0, E.out.bn.cell 1, E.out.bc.cell 0, E.out.bc.cell 1, E.out.bc.cell 2, E.out.bc.cell 3, E.out.bc.cell 4⟩ (fun hHeld => ?_)
      clear hK K
      refine wpAnyH_done (by kernel_rfl) ?_ _
      clear hHeld
      have k4 := fun i => E.out.b0.cell i
      have k6 := fun i => E.out.b1.cell i
      go_wp2
      refine bodyPost_ret (v := .tuple #[.agg #[.int .i64 x.places, .slice (some ⟨g, 0, none⟩) x.tasks.length c], .slice Ap ps.length cp, .agg (caseCells y A1 c1 A2 c2 A3 c3 A4 c4)]) (by simp [results, Try.results45, go_sem, k4, k6]) rfl ?_
      exact E.out.give (by omega) _ _ _ _ _
end Go.Proofs.Ytjieilicjdoaaaa
