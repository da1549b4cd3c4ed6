/- A case at its beginning: spec.CasNew and impl.CasNew hand back the same. -/
import Derived.Test.YtjieilicjdoaaaaGMark
import Derived.Test.YtjieilicjdoaaaaMrkOk
import Derived.Test.YtjieilicjdoaaaaBusyOk
import Derived.Test.YtjieilicjdoaaaaNetOk
import Derived.Test.YtjieilicjdoaaaaGNet
import Derived.Test.YtjieilicjdoaaaaGBase
import Derived.Deep.RegionHeld3
import Derived.Test.YtjieilicjdoaaaaCasOk
namespace Go.Proofs.Ytjieilicjdoaaaa
open Go.RowKit
open List renaming getElem_toArray → sA, getElem_cons_succ → sB, getElem_cons_zero → sC, setIfInBounds_toArray → sD, set_cons_zero → sE, set_cons_succ → sF
set_option linter.unusedSimpArgs false
set_option linter.unusedVariables false

/-- The case that a net and data begin. -/
def casNew (x : GNet) (d : List Int) : GCase := if (netOk x && datOk d) = true then ⟨1, (List.replicate x.places.toNat 0).set 0 1, [], d, []⟩ else ⟨0, [], [], [], []⟩
theorem casNew_nil (x : GNet) (d : List Int) : (casNew x d).busy = [] ∧ (casNew x d).did = [] := by unfold casNew; split <;> exact ⟨rfl, rfl⟩
theorem casNew_len (x : GNet) (d : List Int) (hd : d.length ≤ 1048576) : (casNew x d).marks.length ≤ 8 ∧ (casNew x d).data.length ≤ 1048576 := by
 unfold casNew
 split
 ·
  rename_i h
  rw [Bool.and_eq_true] at h
  have := netOk_len h.1
  simp
  omega
 ·
  simp
theorem iv_rep (n : Nat) : iv (List.replicate n 0) = List.replicate n (Value.int .i64 0) := by simp [iv]
theorem datOk_len {d : List Int} (h : datOk d = true) : d.length = 3 := by
 unfold datOk at h
 simp at h
 omega

theorem Bk.grown1 {w w' : World} {g ge : Nat} {t : TypeId} {cs : Array Value} (h : Bk w g t cs) (hg : w.grownBy w' (some ge)) (hne : g ≠ ge) : Bk w' g t cs := (hg.block g h.lt (fun he => hne (Option.some.inj he))).trans h
theorem Wr.grown1 {w w' : World} {g ge : Nat} {t : TypeId} {l : List Value} (h : Wr w g t l) (hg : w.grownBy w' (some ge)) (hne : g ≠ ge) : Wr w' g t l := h.keep (hg.block g h.lt (fun he => hne (Option.some.inj he)))
theorem below_grown1 {w w' : World} {B ge : Nat} (hg : w.grownBy w' (some ge)) (hB : B ≤ ge) (hs : B ≤ w.heap.size) : Below B w w' := ⟨hg.os, hg.tape, hg.output, hg.size, fun b hb => hg.block b (by omega) (fun he => by have := Option.some.inj he; omega)⟩
/-- An append to a new slice without room, as a step: what else lies there is as it was. -/
theorem step_intsG {ops : Array Oper} {o : Oper} {a : Act} {w : World} {K : Act → World → Prop} {Q : Exit → Act → World → Prop} {E : Prop}
  (hg : o.guard = none) (s x : Operand) (hop : o.op = Op.call { callee := Callee.builtin Builtin.append, args := #[s, x], argTypes := #[23, 23] })
  (ge n : Nat) (hs : a.eval s = .slice (some ⟨ge, 0, none⟩) 0 n) (hown : OwnV w ge (.slice (some ⟨ge, 0, none⟩) 0 n) []) (A : Option Addr) (c B : Nat) (ys : List Int) (hx : a.eval x = .slice A ys.length c) (hy : Ints w B A ys) (hn : ys.length = 3)
  (hK : ∀ v' w', OwnV w' ge v' ys → w.grownBy w' (some ge) → (v'.ownBlock = some ge ∨ v'.ownBlock = some w.heap.size) → K (a.put o.dst v') w') : if Region.wanted o (yielded ops a.tmps) = true then Oper.wp Try.prog o a w K Q else E := by
 obtain ⟨i, hi, hz, hsize, hbytes⟩ := info_parts info_int
 obtain ⟨b, off, hA, hB, hc⟩ := hy.2 (by omega)
 subst hA
 have hlt := (hown.lt ge rfl).2
 have hnews : ∀ j u, (iv ys)[j]? = some u → w.cell? ((⟨b, off, none⟩ : Addr).add j) = some u := fun j u hu => by
  simp only [iv, List.getElem?_map, Option.map_eq_some_iff] at hu
  obtain ⟨y, hyj, rfl⟩ := hu
  rw [addr_add b off j]
  exact hc j y hyj
 obtain ⟨v', w', hr, h2, h3, _, h5⟩ := run_append_own_at (P := Try.prog) w ge 23 o.type 3 i (.int .i64 0) 1 8 Try.underlying23 hi hz hsize hbytes rfl (by decide) (.slice (some ⟨ge, 0, none⟩) 0 n) 0 [] (by simpa [OwnV, iv] using hown) ⟨b, off, none⟩ ys.length c (iv ys) (by rw [iv_len]; omega) hnews (fun u hu => by
  simp only [iv, List.mem_map] at hu
  obtain ⟨y, _, rfl⟩ := hu
  rfl) (by unfold maxLen; omega) (by omega) (Nat.le_of_lt hlt)
 refine step_of_run hg s x 23 hop hs hx hr (hK v' w' ?_ h3 h5)
 unfold OwnV
 simpa using h2
/-- What beginning a case leaves. -/
def GivesNew (y : GCase) (w : World) (e : Ending) (w' : World) : Prop :=
 ∃ A1 c1 A3 c3, e = .returned (.agg #[.int .i64 y.state, .slice A1 y.marks.length c1, .slice none 0 0, .slice A3 y.data.length c3, .slice none 0 0]) ∧ NewAt w' w.heap.size w'.heap.size A1 y.marks A3 y.data ∧ Below w.heap.size w w'

/-- A case under way, in a cell of its own. -/
def NewSt (w0 : World) (n : Nat) (d : List Int) (s : Value) (wx : World) : Prop :=
 ∃ g5 gm gc c3, s = .pointer (some ⟨g5, 0, none⟩) ∧ Bk wx g5 43 #[.int .i64 1, .slice (some ⟨gm, 0, none⟩) n n, .slice none 0 0, .slice (some ⟨gc, 0, none⟩) d.length c3, .slice none 0 0] ∧
  Wr wx gm 3 (iv (List.replicate n 0)) ∧ Wr wx gc 3 (iv d) ∧ (w0.heap.size ≤ g5 ∧ w0.heap.size ≤ gm ∧ w0.heap.size ≤ gc ∧ g5 ≠ gm ∧ g5 ≠ gc ∧ gm ≠ gc) ∧ Below w0.heap.size w0 wx

end Go.Proofs.Ytjieilicjdoaaaa

/- A case at its beginning, by the reference. -/
namespace Go.Proofs.Ytjieilicjdoaaaa
open Go.RowKit
open List renaming getElem_toArray → sA, getElem_cons_succ → sB, getElem_cons_zero → sC, setIfInBounds_toArray → sD, set_cons_zero → sE, set_cons_succ → sF
set_option linter.unusedSimpArgs false
set_option linter.unusedVariables false

set_option maxRecDepth 100000 in
set_option maxHeartbeats 8000000 in
theorem spec_CasNew (x : GNet) (A : Option Addr) (c : Nat) (A3 : Option Addr) (c3 : Nat) (d : List Int) (m : Option Nat) (w : World)
  (hx : Rows taskC m w w.heap.size A x.tasks) (h3 : Ints w w.heap.size A3 d) :
  Calls Try.prog 60 #[.agg #[.int .i64 x.places, .slice A x.tasks.length c], .slice A3 d.length c3] w (GivesNew (casNew x d) w) := by
 have HX := Lib.hid hx
 have H3 := Lib.hid h3
 clear hx h3
 go_enter Try.func60, Try.ntmps60
 go_wp2_with fail
 refine callsAt fun W hW => ?_
 have P0 : Hid (Bk W w.heap.size 75 #[.int .i64 x.places, .slice A x.tasks.length c]) := by show Bk _ _ _ _; rw [hW]; exact (Bk.new rfl).alloc _
 have R0 : Hid (Bk W (w.heap.size + 1) 43 #[.int .i64 0, .slice none 0 0, .slice none 0 0, .slice none 0 0, .slice none 0 0]) := by show Bk _ _ _ _; rw [hW]; exact Bk.new (by simp)
 have B : Hid (Below w.heap.size w W) := by show Below _ _ _; rw [hW]; go_grown
 have zW : w.heap.size + 2 ≤ W.heap.size := by rw [hW]; simp only [World.size_alloc]; omega
 clear hW
 refine (spec_NetOk x _ m W ⟨A, c, rfl, HX.out.later B.out⟩).mono ?_
 rintro e w1 ⟨rfl, hb⟩
 have P0 := Lib.hid (P0.out.later hb)
 have R0 := Lib.hid (R0.out.later hb)
 have B := Lib.hid (B.out.trans (hb.mono B.out.size))
 have z1 := hb.size
 clear hb
 have k0 := fun i => P0.out.cell i
 have k1 := fun i => R0.out.cell i
 have f1 := fun i => R0.out.frozen i
 cases q1 : netOk x with
 | false =>
  have HE : Hid (casNew x d = ⟨0, [], [], [], []⟩) := by show _ = _; simp [casNew, q1]
  go_wp2
  generalize hV : World.setCell (World.setCell (World.setCell (World.setCell (World.setCell w1 _ _) _ _) _ _) _ _) _ _ = V
  have hbk : Bk V (w.heap.size + 1) 43 #[.int .i64 0, .slice none 0 0, .slice none 0 0, .slice none 0 0, .slice none 0 0] := by rw [← hV]; exact ((((R0.out.set 0 _).set 1 _).set 2 _).set 3 _).set 4 _
  have hbe : Below w.heap.size w V := by rw [← hV]; exact ((((B.out.setCell (Nat.le_succ _) _).setCell (Nat.le_succ _) _).setCell (Nat.le_succ _) _).setCell (Nat.le_succ _) _).setCell (Nat.le_succ _) _
  have hlt := hbk.lt
  clear hV k1 f1 k0
  have k1 := fun i => hbk.cell i
  refine bodyPost_ret (v := .agg #[.int .i64 0, .slice none 0 0, .slice none 0 0, .slice none 0 0, .slice none 0 0]) (by simp [results, Try.results60, go_sem, k1]) rfl ?_
  exact ⟨none, 0, none, 0, by rw [HE.out]; rfl, by rw [HE.out]; exact ⟨w.heap.size, w.heap.size + 1, ⟨Nat.le_refl _, by omega, by omega, by omega, by omega, Nat.le_refl _⟩, fun h => absurd h (by simp), fun h => absurd h (by simp)⟩, hbe⟩
 | true =>
 go_wp2_with fail
 refine (spec_DatOk A3 c3 d _ _ (H3.out.later B.out)).mono ?_
 rintro e w' ⟨rfl, rfl⟩
 obtain ⟨w2, hw2⟩ : ∃ v : World, v = w1 := ⟨_, rfl⟩
 subst hw2
 cases q2 : datOk d with
 | false =>
  have HE : Hid (casNew x d = ⟨0, [], [], [], []⟩) := by show _ = _; simp [casNew, q2]
  go_wp2
  generalize hV : World.setCell (World.setCell (World.setCell (World.setCell (World.setCell w2 _ _) _ _) _ _) _ _) _ _ = V
  have hbk : Bk V (w.heap.size + 1) 43 #[.int .i64 0, .slice none 0 0, .slice none 0 0, .slice none 0 0, .slice none 0 0] := by rw [← hV]; exact ((((R0.out.set 0 _).set 1 _).set 2 _).set 3 _).set 4 _
  have hbe : Below w.heap.size w V := by rw [← hV]; exact ((((B.out.setCell (Nat.le_succ _) _).setCell (Nat.le_succ _) _).setCell (Nat.le_succ _) _).setCell (Nat.le_succ _) _).setCell (Nat.le_succ _) _
  have hlt := hbk.lt
  clear hV k1 f1 k0
  have k1 := fun i => hbk.cell i
  refine bodyPost_ret (v := .agg #[.int .i64 0, .slice none 0 0, .slice none 0 0, .slice none 0 0, .slice none 0 0]) (by simp [results, Try.results60, go_sem, k1]) rfl ?_
  exact ⟨none, 0, none, 0, by rw [HE.out]; rfl, by rw [HE.out]; exact ⟨w.heap.size, w.heap.size + 1, ⟨Nat.le_refl _, by omega, by omega, by omega, by omega, Nat.le_refl _⟩, fun h => absurd h (by simp), fun h => absurd h (by simp)⟩, hbe⟩
 | true =>
 obtain ⟨_, _, hp2, hp8⟩ := netOk_len q1
 have hd3 := datOk_len q2
 obtain ⟨n, hn⟩ := Int.eq_ofNat_of_zero_le (by omega : 0 ≤ x.places)
 have HN := Lib.hid hn
 have HD := Lib.hid hd3
 have HE : Hid (casNew x d = ⟨1, (List.replicate n 0).set 0 1, [], d, []⟩) := by show _ = _; simp [casNew, q1, q2, hn]
 rw [hn] at k0 hp2 hp8
 have hmk := run_make_row' (P := Try.prog) 23 3 (.int .i64 0) 8 Try.underlying23 info_int rfl .i64 .i64 n (by omega) (by omega)
 clear q1 q2 hn hd3
 go_upto_region 3 with fail
 go_cut [5] from 15 to 21 (fun s5 wx => Aside (NewSt w2 n d s5 wx))
 case first =>
  have hcl : Hid (∀ V : World, Below w2.heap.size w2 V → Calls Try.prog 42 #[.slice A3 d.length c3] V (GivesL d V)) := fun V hV => impl_cloneInts A3 c3 d V ((H3.out.later B.out).later hV) (by have := HD.out; omega)
  refine wp_region_held_drew (S := (fun V : World => V.cell? ⟨w.heap.size, 0, none⟩ = some (.int .i64 n) ∧ V.cell? ⟨w.heap.size, 1, none⟩ = some (.slice A x.tasks.length c))) (by kernel_rfl) ⟨k0 0, k0 1⟩ (fun hHeld => ?_)
  have hb : Below w2.heap.size w2 w2.drew := (Below.refl _ _).drew
  generalize w2.drew = w3 at hb hHeld ⊢
  have FP : Hid (Bk w2 w.heap.size 75 #[.int .i64 n, .slice A x.tasks.length c]) := by show Bk _ _ _ _; rw [← HN.out]; exact P0.out
  have FR := R0
  have FB := Lib.hid (Below.refl w2.heap.size w2)
  have FP := Lib.hid (FP.out.later hb)
  have FR := Lib.hid (FR.out.later hb)
  have FB := Lib.hid (FB.out.trans (hb.mono FB.out.size))
  have zw3 := hb.size
  have lP := P0.out.lt
  have lR := R0.out.lt
  clear hb P0 R0 k0 k1 f1
  refine tk (i := 0) (v := ?_) rfl (.inl ⟨by rfl, ?_⟩) ?_
  rotate_left
  ·
   intro V hSw; (try dsimp only at hSw); go_simp; (try with_reducible rfl)
  simp only [sA, sB, sC, Act.put, sD, sE, sF]
  refine tk (i := 1) (v := ?_) rfl (.inl ⟨by rfl, ?_⟩) ?_
  rotate_left
  ·
   intro V hSw; (try dsimp only at hSw); go_simp; (try with_reducible rfl)
  simp only [sA, sB, sC, Act.put, sD, sE, sF]
  refine tk (i := 4) (v := ?_) rfl (.inl ⟨by rfl, ?_⟩) ?_
  rotate_left
  ·
   intro V hSw; (try dsimp only at hSw); go_simp; (try with_reducible rfl)
  simp only [sA, sB, sC, Act.put, sD, sE, sF]
  refine wpAnyH_ready (rs := [2, 3, 7]) (by kernel_rfl) (by simp) ?_
  refine AllReadyH.cons rfl (fun K hK => ?_) (AllReadyH.cons rfl (fun K hK => ?_) (AllReadyH.cons rfl (fun K hK => ?_) AllReadyH.nil))
  ·
   go_simp
   obtain ⟨w4, hV⟩ : ∃ V, V = World.alloc w3 (.cells (madeCells #[.int .i64 0] n) 3) := ⟨_, rfl⟩
   have hb : Below w3.heap.size w3 w4 := by rw [hV]; exact (Below.refl _ _).alloc (Nat.le_refl _) _
   have yw4 : w3.heap.size < w4.heap.size := by rw [hV]; simp
   have FP := Lib.hid (FP.out.later hb)
   have FR := Lib.hid (FR.out.later hb)
   have FB := Lib.hid (FB.out.trans (hb.mono FB.out.size))
   have zw4 := hb.size
   have FM : Hid (Wr w4 w3.heap.size 3 (iv (List.replicate n 0))) := by
    show Wr _ _ _ _
    have h := Wr.new w3 3 (madeCells #[.int .i64 0] n)
    rw [toList_madeCells_one] at h
    rw [hV, iv_rep]
    exact h
   rw [← hV]
   clear hV hb
   refine hK.out _ _ ⟨FP.out.cell 0, FP.out.cell 1⟩ (fun hHeld => ?_)
   clear hK K
   refine wpAnyH_ready (rs := [3, 7]) (by kernel_rfl) (by simp) ?_
   refine AllReadyH.cons rfl (fun K hK => ?_) (AllReadyH.cons rfl (fun K hK => ?_) AllReadyH.nil)
   ·
    go_simp
    obtain ⟨w5, hV⟩ : ∃ V, V = World.alloc w4 (.cells #[] 3) := ⟨_, rfl⟩
    have hb : Below w4.heap.size w4 w5 := by rw [hV]; exact (Below.refl _ _).alloc (Nat.le_refl _) _
    have yw5 : w4.heap.size < w5.heap.size := by rw [hV]; simp
    have FP := Lib.hid (FP.out.later hb)
    have FR := Lib.hid (FR.out.later hb)
    have FM := Lib.hid (FM.out.later hb)
    have FB := Lib.hid (FB.out.trans (hb.mono FB.out.size))
    have zw5 := hb.size
    have FE : Hid (OwnV w5 w4.heap.size (.slice (some ⟨w4.heap.size, 0, none⟩) 0 0) []) := by show OwnV _ _ _ _; rw [hV]; exact OwnV.made' (Nat.le_refl _)
    rw [← hV]
    clear hV hb
    refine hK.out _ _ ⟨FP.out.cell 0, FP.out.cell 1⟩ (fun hHeld => ?_)
    clear hK K
    refine wpAnyH_ready (rs := [5, 7]) (by kernel_rfl) (by simp) ?_
    refine AllReadyH.cons rfl (fun K hK => ?_) (AllReadyH.cons rfl (fun K hK => ?_) AllReadyH.nil)
    ·
     refine step_intsG rfl (.tmp 18) (.tmp 19) rfl (w4.heap.size) 0 (by simp [Act.eval]) FE.out A3 c3 w.heap.size d (by simp [Act.eval]) (H3.out.below (B.out.trans (FB.out.mono B.out.size))) (by have := HD.out; omega) ?_
     intro v6 w6 hv6 hg h5
     obtain ⟨A6, c6, hv, o6⟩ := OwnI.of_v hv6
     subst hv
     obtain ⟨gc, hgc, yc1, hwc⟩ := o6 (by have := HD.out; omega)
     subst hgc
     have zw6 := hg.size
     have yc2 := hwc.lt
     have yP := FP.out.lt
     have FP := Lib.hid (FP.out.grown1 hg (by omega))
     have yR := FR.out.lt
     have FR := Lib.hid (FR.out.grown1 hg (by omega))
     have yM := FM.out.lt
     have FM := Lib.hid (FM.out.grown1 hg (by omega))
     have FB := Lib.hid (FB.out.trans (below_grown1 hg (by omega : w2.heap.size ≤ w4.heap.size) FB.out.size))
     have FC := Lib.hid hwc
     have yc3 : gc = w4.heap.size ∨ gc = w5.heap.size := h5.imp Option.some.inj Option.some.inj
     clear h5 hg hv6 o6 hwc FE
     refine hK.out _ _ ⟨FP.out.cell 0, FP.out.cell 1⟩ (fun hHeld => ?_)
     clear hK K
     refine tk (i := 6) (v := ?_) rfl (.inl ⟨by rfl, ?_⟩) ?_
     rotate_left
     ·
      intro V hSw; (try dsimp only at hSw); go_simp; (try with_reducible rfl)
     simp only [sA, sB, sC, Act.put, sD, sE, sF]
     refine wpAnyH_ready (rs := [7]) (by kernel_rfl) (by simp) ?_
     refine AllReadyH.cons rfl (fun K hK => ?_) AllReadyH.nil
     ·
      go_simp
      obtain ⟨w7, hV⟩ : ∃ V, V = World.alloc w6 (.cells #[.int .i64 0, .slice none 0 0, .slice none 0 0, .slice none 0 0, .slice none 0 0] 43) := ⟨_, rfl⟩
      have hb : Below w6.heap.size w6 w7 := by rw [hV]; exact (Below.refl _ _).alloc (Nat.le_refl _) _
      have yw7 : w6.heap.size < w7.heap.size := by rw [hV]; simp
      have FP := Lib.hid (FP.out.later hb)
      have FR := Lib.hid (FR.out.later hb)
      have FM := Lib.hid (FM.out.later hb)
      have FC := Lib.hid (FC.out.later hb)
      have FB := Lib.hid (FB.out.trans (hb.mono FB.out.size))
      have zw7 := hb.size
      have FL : Hid (Bk w7 w6.heap.size 43 #[.int .i64 0, .slice none 0 0, .slice none 0 0, .slice none 0 0, .slice none 0 0]) := by show Bk _ _ _ _; rw [hV]; exact Bk.new rfl
      rw [← hV]
      clear hV hb
      refine hK.out _ _ ⟨FP.out.cell 0, FP.out.cell 1⟩ (fun hHeld => ?_)
      clear hK K
      refine wpAnyH_ready (rs := [8]) (by kernel_rfl) (by simp) ?_
      refine AllReadyH.cons rfl (fun K hK => ?_) AllReadyH.nil
      have kL := fun i => FL.out.cell i
      have fL := fun i => FL.out.frozen i
      go_simp
      clear kL fL
      generalize hV : World.setCell (World.setCell (World.setCell (World.setCell (World.setCell w7 _ _) _ _) _ _) _ _) _ _ = V
      have hbk : Bk V w6.heap.size 43 #[.int .i64 1, .slice (some ⟨w3.heap.size, 0, none⟩) n n, .slice none 0 0, .slice (some ⟨gc, 0, none⟩) d.length c6, .slice none 0 0] := by rw [← hV]; exact ((((FL.out.set 0 _).set 1 _).set 2 _).set 3 _).set 4 _
      have hbl : ∀ b, b ≠ w6.heap.size → V.heap[b]? = w7.heap[b]? := fun b hb => by
       rw [← hV, Below.heap_setCell _ _ _ b hb, Below.heap_setCell _ _ _ b hb, Below.heap_setCell _ _ _ b hb, Below.heap_setCell _ _ _ b hb, Below.heap_setCell _ _ _ b hb]
      have hbe : Below w6.heap.size w7 V := by rw [← hV]; exact (((((Below.refl _ _).setCell (p := ⟨w6.heap.size, 0, none⟩) (Nat.le_refl _) _).setCell (p := ⟨w6.heap.size, 1, none⟩) (Nat.le_refl _) _).setCell (p := ⟨w6.heap.size, 2, none⟩) (Nat.le_refl _) _).setCell (p := ⟨w6.heap.size, 3, none⟩) (Nat.le_refl _) _).setCell (p := ⟨w6.heap.size, 4, none⟩) (Nat.le_refl _) _
      have hP := FP.out.lt
      have hR := FR.out.lt
      have hM := FM.out.lt
      have FP : Hid (Bk V w.heap.size 75 #[.int .i64 n, .slice A x.tasks.length c]) := (hbl _ (by omega)).trans FP.out
      refine hK.out _ _ ⟨FP.out.cell 0, FP.out.cell 1⟩ (fun hHeld => ?_)
      clear hK K
      refine wpAnyH_done (by kernel_rfl) ?_ _
      go_wp2
      go_meet
      case rel => exact ⟨w6.heap.size, w3.heap.size, gc, c6, rfl, hbk, FM.out.keep (hbl _ (by omega)), FC.out.keep (hbl _ (by omega)), ⟨by omega, by omega, by omega, by omega, by omega, by omega⟩, FB.out.trans (hbe.mono (by omega))⟩
    ·
     go_simp
     obtain ⟨w6, hV⟩ : ∃ V, V = World.alloc w5 (.cells #[.int .i64 0, .slice none 0 0, .slice none 0 0, .slice none 0 0, .slice none 0 0] 43) := ⟨_, rfl⟩
     have hb : Below w5.heap.size w5 w6 := by rw [hV]; exact (Below.refl _ _).alloc (Nat.le_refl _) _
     have yw6 : w5.heap.size < w6.heap.size := by rw [hV]; simp
     have FP := Lib.hid (FP.out.later hb)
     have FR := Lib.hid (FR.out.later hb)
     have FM := Lib.hid (FM.out.later hb)
     have FE := Lib.hid (FE.out.later hb)
     have FB := Lib.hid (FB.out.trans (hb.mono FB.out.size))
     have zw6 := hb.size
     have FL : Hid (Bk w6 w5.heap.size 43 #[.int .i64 0, .slice none 0 0, .slice none 0 0, .slice none 0 0, .slice none 0 0]) := by show Bk _ _ _ _; rw [hV]; exact Bk.new rfl
     rw [← hV]
     clear hV hb
     refine hK.out _ _ ⟨FP.out.cell 0, FP.out.cell 1⟩ (fun hHeld => ?_)
     clear hK K
     refine wpAnyH_ready (rs := [5]) (by kernel_rfl) (by simp) ?_
     refine AllReadyH.cons rfl (fun K hK => ?_) AllReadyH.nil
     ·
      refine step_intsG rfl (.tmp 18) (.tmp 19) rfl (w4.heap.size) 0 (by simp [Act.eval]) FE.out A3 c3 w.heap.size d (by simp [Act.eval]) (H3.out.below (B.out.trans (FB.out.mono B.out.size))) (by have := HD.out; omega) ?_
      intro v6 w7 hv6 hg h5
      obtain ⟨A6, c6, hv, o6⟩ := OwnI.of_v hv6
      subst hv
      obtain ⟨gc, hgc, yc1, hwc⟩ := o6 (by have := HD.out; omega)
      subst hgc
      have zw7 := hg.size
      have yc2 := hwc.lt
      have yP := FP.out.lt
      have FP := Lib.hid (FP.out.grown1 hg (by omega))
      have yR := FR.out.lt
      have FR := Lib.hid (FR.out.grown1 hg (by omega))
      have yM := FM.out.lt
      have FM := Lib.hid (FM.out.grown1 hg (by omega))
      have yL := FL.out.lt
      have FL := Lib.hid (FL.out.grown1 hg (by omega))
      have FB := Lib.hid (FB.out.trans (below_grown1 hg (by omega : w2.heap.size ≤ w4.heap.size) FB.out.size))
      have FC := Lib.hid hwc
      have yc3 : gc = w4.heap.size ∨ gc = w6.heap.size := h5.imp Option.some.inj Option.some.inj
      clear h5 hg hv6 o6 hwc FE
      refine hK.out _ _ ⟨FP.out.cell 0, FP.out.cell 1⟩ (fun hHeld => ?_)
      clear hK K
      refine tk (i := 6) (v := ?_) rfl (.inl ⟨by rfl, ?_⟩) ?_
      rotate_left
      ·
       intro V hSw; (try dsimp only at hSw); go_simp; (try with_reducible rfl)
      simp only [sA, sB, sC, Act.put, sD, sE, sF]
      refine wpAnyH_ready (rs := [8]) (by kernel_rfl) (by simp) ?_
      refine AllReadyH.cons rfl (fun K hK => ?_) AllReadyH.nil
      have kL := fun i => FL.out.cell i
      have fL := fun i => FL.out.frozen i
      go_simp
      clear kL fL
      generalize hV : World.setCell (World.setCell (World.setCell (World.setCell (World.setCell w7 _ _) _ _) _ _) _ _) _ _ = V
      have hbk : Bk V w5.heap.size 43 #[.int .i64 1, .slice (some ⟨w3.heap.size, 0, none⟩) n n, .slice none 0 0, .slice (some ⟨gc, 0, none⟩) d.length c6, .slice none 0 0] := by rw [← hV]; exact ((((FL.out.set 0 _).set 1 _).set 2 _).set 3 _).set 4 _
      have hbl : ∀ b, b ≠ w5.heap.size → V.heap[b]? = w7.heap[b]? := fun b hb => by
       rw [← hV, Below.heap_setCell _ _ _ b hb, Below.heap_setCell _ _ _ b hb, Below.heap_setCell _ _ _ b hb, Below.heap_setCell _ _ _ b hb, Below.heap_setCell _ _ _ b hb]
      have hbe : Below w5.heap.size w7 V := by rw [← hV]; exact (((((Below.refl _ _).setCell (p := ⟨w5.heap.size, 0, none⟩) (Nat.le_refl _) _).setCell (p := ⟨w5.heap.size, 1, none⟩) (Nat.le_refl _) _).setCell (p := ⟨w5.heap.size, 2, none⟩) (Nat.le_refl _) _).setCell (p := ⟨w5.heap.size, 3, none⟩) (Nat.le_refl _) _).setCell (p := ⟨w5.heap.size, 4, none⟩) (Nat.le_refl _) _
      have hP := FP.out.lt
      have hR := FR.out.lt
      have hM := FM.out.lt
      have FP : Hid (Bk V w.heap.size 75 #[.int .i64 n, .slice A x.tasks.length c]) := (hbl _ (by omega)).trans FP.out
      refine hK.out _ _ ⟨FP.out.cell 0, FP.out.cell 1⟩ (fun hHeld => ?_)
      clear hK K
      refine wpAnyH_done (by kernel_rfl) ?_ _
      go_wp2
      go_meet
      case rel => exact ⟨w5.heap.size, w3.heap.size, gc, c6, rfl, hbk, FM.out.keep (hbl _ (by omega)), FC.out.keep (hbl _ (by omega)), ⟨by omega, by omega, by omega, by omega, by omega, by omega⟩, FB.out.trans (hbe.mono (by omega))⟩
   ·
    go_simp
    obtain ⟨w5, hV⟩ : ∃ V, V = World.alloc w4 (.cells #[.int .i64 0, .slice none 0 0, .slice none 0 0, .slice none 0 0, .slice none 0 0] 43) := ⟨_, rfl⟩
    have hb : Below w4.heap.size w4 w5 := by rw [hV]; exact (Below.refl _ _).alloc (Nat.le_refl _) _
    have yw5 : w4.heap.size < w5.heap.size := by rw [hV]; simp
    have FP := Lib.hid (FP.out.later hb)
    have FR := Lib.hid (FR.out.later hb)
    have FM := Lib.hid (FM.out.later hb)
    have FB := Lib.hid (FB.out.trans (hb.mono FB.out.size))
    have zw5 := hb.size
    have FL : Hid (Bk w5 w4.heap.size 43 #[.int .i64 0, .slice none 0 0, .slice none 0 0, .slice none 0 0, .slice none 0 0]) := by show Bk _ _ _ _; rw [hV]; exact Bk.new rfl
    rw [← hV]
    clear hV hb
    refine hK.out _ _ ⟨FP.out.cell 0, FP.out.cell 1⟩ (fun hHeld => ?_)
    clear hK K
    refine wpAnyH_ready (rs := [3]) (by kernel_rfl) (by simp) ?_
    refine AllReadyH.cons rfl (fun K hK => ?_) AllReadyH.nil
    ·
     go_simp
     obtain ⟨w6, hV⟩ : ∃ V, V = World.alloc w5 (.cells #[] 3) := ⟨_, rfl⟩
     have hb : Below w5.heap.size w5 w6 := by rw [hV]; exact (Below.refl _ _).alloc (Nat.le_refl _) _
     have yw6 : w5.heap.size < w6.heap.size := by rw [hV]; simp
     have FP := Lib.hid (FP.out.later hb)
     have FR := Lib.hid (FR.out.later hb)
     have FM := Lib.hid (FM.out.later hb)
     have FL := Lib.hid (FL.out.later hb)
     have FB := Lib.hid (FB.out.trans (hb.mono FB.out.size))
     have zw6 := hb.size
     have FE : Hid (OwnV w6 w5.heap.size (.slice (some ⟨w5.heap.size, 0, none⟩) 0 0) []) := by show OwnV _ _ _ _; rw [hV]; exact OwnV.made' (Nat.le_refl _)
     rw [← hV]
     clear hV hb
     refine hK.out _ _ ⟨FP.out.cell 0, FP.out.cell 1⟩ (fun hHeld => ?_)
     clear hK K
     refine wpAnyH_ready (rs := [5]) (by kernel_rfl) (by simp) ?_
     refine AllReadyH.cons rfl (fun K hK => ?_) AllReadyH.nil
     ·
      refine step_intsG rfl (.tmp 18) (.tmp 19) rfl (w5.heap.size) 0 (by simp [Act.eval]) FE.out A3 c3 w.heap.size d (by simp [Act.eval]) (H3.out.below (B.out.trans (FB.out.mono B.out.size))) (by have := HD.out; omega) ?_
      intro v6 w7 hv6 hg h5
      obtain ⟨A6, c6, hv, o6⟩ := OwnI.of_v hv6
      subst hv
      obtain ⟨gc, hgc, yc1, hwc⟩ := o6 (by have := HD.out; omega)
      subst hgc
      have zw7 := hg.size
      have yc2 := hwc.lt
      have yP := FP.out.lt
      have FP := Lib.hid (FP.out.grown1 hg (by omega))
      have yR := FR.out.lt
      have FR := Lib.hid (FR.out.grown1 hg (by omega))
      have yM := FM.out.lt
      have FM := Lib.hid (FM.out.grown1 hg (by omega))
      have yL := FL.out.lt
      have FL := Lib.hid (FL.out.grown1 hg (by omega))
      have FB := Lib.hid (FB.out.trans (below_grown1 hg (by omega : w2.heap.size ≤ w5.heap.size) FB.out.size))
      have FC := Lib.hid hwc
      have yc3 : gc = w5.heap.size ∨ gc = w6.heap.size := h5.imp Option.some.inj Option.some.inj
      clear h5 hg hv6 o6 hwc FE
      refine hK.out _ _ ⟨FP.out.cell 0, FP.out.cell 1⟩ (fun hHeld => ?_)
      clear hK K
      refine tk (i := 6) (v := ?_) rfl (.inl ⟨by rfl, ?_⟩) ?_
      rotate_left
      ·
       intro V hSw; (try dsimp only at hSw); go_simp; (try with_reducible rfl)
      simp only [sA, sB, sC, Act.put, sD, sE, sF]
      refine wpAnyH_ready (rs := [8]) (by kernel_rfl) (by simp) ?_
      refine AllReadyH.cons rfl (fun K hK => ?_) AllReadyH.nil
      have kL := fun i => FL.out.cell i
      have fL := fun i => FL.out.frozen i
      go_simp
      clear kL fL
      generalize hV : World.setCell (World.setCell (World.setCell (World.setCell (World.setCell w7 _ _) _ _) _ _) _ _) _ _ = V
      have hbk : Bk V w4.heap.size 43 #[.int .i64 1, .slice (some ⟨w3.heap.size, 0, none⟩) n n, .slice none 0 0, .slice (some ⟨gc, 0, none⟩) d.length c6, .slice none 0 0] := by rw [← hV]; exact ((((FL.out.set 0 _).set 1 _).set 2 _).set 3 _).set 4 _
      have hbl : ∀ b, b ≠ w4.heap.size → V.heap[b]? = w7.heap[b]? := fun b hb => by
       rw [← hV, Below.heap_setCell _ _ _ b hb, Below.heap_setCell _ _ _ b hb, Below.heap_setCell _ _ _ b hb, Below.heap_setCell _ _ _ b hb, Below.heap_setCell _ _ _ b hb]
      have hbe : Below w4.heap.size w7 V := by rw [← hV]; exact (((((Below.refl _ _).setCell (p := ⟨w4.heap.size, 0, none⟩) (Nat.le_refl _) _).setCell (p := ⟨w4.heap.size, 1, none⟩) (Nat.le_refl _) _).setCell (p := ⟨w4.heap.size, 2, none⟩) (Nat.le_refl _) _).setCell (p := ⟨w4.heap.size, 3, none⟩) (Nat.le_refl _) _).setCell (p := ⟨w4.heap.size, 4, none⟩) (Nat.le_refl _) _
      have hP := FP.out.lt
      have hR := FR.out.lt
      have hM := FM.out.lt
      have FP : Hid (Bk V w.heap.size 75 #[.int .i64 n, .slice A x.tasks.length c]) := (hbl _ (by omega)).trans FP.out
      refine hK.out _ _ ⟨FP.out.cell 0, FP.out.cell 1⟩ (fun hHeld => ?_)
      clear hK K
      refine wpAnyH_done (by kernel_rfl) ?_ _
      go_wp2
      go_meet
      case rel => exact ⟨w4.heap.size, w3.heap.size, gc, c6, rfl, hbk, FM.out.keep (hbl _ (by omega)), FC.out.keep (hbl _ (by omega)), ⟨by omega, by omega, by omega, by omega, by omega, by omega⟩, FB.out.trans (hbe.mono (by omega))⟩
  ·
   go_simp
   obtain ⟨w4, hV⟩ : ∃ V, V = World.alloc w3 (.cells #[] 3) := ⟨_, rfl⟩
   have hb : Below w3.heap.size w3 w4 := by rw [hV]; exact (Below.refl _ _).alloc (Nat.le_refl _) _
   have yw4 : w3.heap.size < w4.heap.size := by rw [hV]; simp
   have FP := Lib.hid (FP.out.later hb)
   have FR := Lib.hid (FR.out.later hb)
   have FB := Lib.hid (FB.out.trans (hb.mono FB.out.size))
   have zw4 := hb.size
   have FE : Hid (OwnV w4 w3.heap.size (.slice (some ⟨w3.heap.size, 0, none⟩) 0 0) []) := by show OwnV _ _ _ _; rw [hV]; exact OwnV.made' (Nat.le_refl _)
   rw [← hV]
   clear hV hb
   refine hK.out _ _ ⟨FP.out.cell 0, FP.out.cell 1⟩ (fun hHeld => ?_)
   clear hK K
   refine wpAnyH_ready (rs := [2, 5, 7]) (by kernel_rfl) (by simp) ?_
   refine AllReadyH.cons rfl (fun K hK => ?_) (AllReadyH.cons rfl (fun K hK => ?_) (AllReadyH.cons rfl (fun K hK => ?_) AllReadyH.nil))
   ·
    go_simp
    obtain ⟨w5, hV⟩ : ∃ V, V = World.alloc w4 (.cells (madeCells #[.int .i64 0] n) 3) := ⟨_, rfl⟩
    have hb : Below w4.heap.size w4 w5 := by rw [hV]; exact (Below.refl _ _).alloc (Nat.le_refl _) _
    have yw5 : w4.heap.size < w5.heap.size := by rw [hV]; simp
    have FP := Lib.hid (FP.out.later hb)
    have FR := Lib.hid (FR.out.later hb)
    have FE := Lib.hid (FE.out.later hb)
    have FB := Lib.hid (FB.out.trans (hb.mono FB.out.size))
    have zw5 := hb.size
    have FM : Hid (Wr w5 w4.heap.size 3 (iv (List.replicate n 0))) := by
     show Wr _ _ _ _
     have h := Wr.new w4 3 (madeCells #[.int .i64 0] n)
     rw [toList_madeCells_one] at h
     rw [hV, iv_rep]
     exact h
    rw [← hV]
    clear hV hb
    refine hK.out _ _ ⟨FP.out.cell 0, FP.out.cell 1⟩ (fun hHeld => ?_)
    clear hK K
    refine wpAnyH_ready (rs := [5, 7]) (by kernel_rfl) (by simp) ?_
    refine AllReadyH.cons rfl (fun K hK => ?_) (AllReadyH.cons rfl (fun K hK => ?_) AllReadyH.nil)
    ·
     refine step_intsG rfl (.tmp 18) (.tmp 19) rfl (w3.heap.size) 0 (by simp [Act.eval]) FE.out A3 c3 w.heap.size d (by simp [Act.eval]) (H3.out.below (B.out.trans (FB.out.mono B.out.size))) (by have := HD.out; omega) ?_
     intro v6 w6 hv6 hg h5
     obtain ⟨A6, c6, hv, o6⟩ := OwnI.of_v hv6
     subst hv
     obtain ⟨gc, hgc, yc1, hwc⟩ := o6 (by have := HD.out; omega)
     subst hgc
     have zw6 := hg.size
     have yc2 := hwc.lt
     have yP := FP.out.lt
     have FP := Lib.hid (FP.out.grown1 hg (by omega))
     have yR := FR.out.lt
     have FR := Lib.hid (FR.out.grown1 hg (by omega))
     have yM := FM.out.lt
     have FM := Lib.hid (FM.out.grown1 hg (by omega))
     have FB := Lib.hid (FB.out.trans (below_grown1 hg (by omega : w2.heap.size ≤ w3.heap.size) FB.out.size))
     have FC := Lib.hid hwc
     have yc3 : gc = w3.heap.size ∨ gc = w5.heap.size := h5.imp Option.some.inj Option.some.inj
     clear h5 hg hv6 o6 hwc FE
     refine hK.out _ _ ⟨FP.out.cell 0, FP.out.cell 1⟩ (fun hHeld => ?_)
     clear hK K
     refine tk (i := 6) (v := ?_) rfl (.inl ⟨by rfl, ?_⟩) ?_
     rotate_left
     ·
      intro V hSw; (try dsimp only at hSw); go_simp; (try with_reducible rfl)
     simp only [sA, sB, sC, Act.put, sD, sE, sF]
     refine wpAnyH_ready (rs := [7]) (by kernel_rfl) (by simp) ?_
     refine AllReadyH.cons rfl (fun K hK => ?_) AllReadyH.nil
     ·
      go_simp
      obtain ⟨w7, hV⟩ : ∃ V, V = World.alloc w6 (.cells #[.int .i64 0, .slice none 0 0, .slice none 0 0, .slice none 0 0, .slice none 0 0] 43) := ⟨_, rfl⟩
      have hb : Below w6.heap.size w6 w7 := by rw [hV]; exact (Below.refl _ _).alloc (Nat.le_refl _) _
      have yw7 : w6.heap.size < w7.heap.size := by rw [hV]; simp
      have FP := Lib.hid (FP.out.later hb)
      have FR := Lib.hid (FR.out.later hb)
      have FM := Lib.hid (FM.out.later hb)
      have FC := Lib.hid (FC.out.later hb)
      have FB := Lib.hid (FB.out.trans (hb.mono FB.out.size))
      have zw7 := hb.size
      have FL : Hid (Bk w7 w6.heap.size 43 #[.int .i64 0, .slice none 0 0, .slice none 0 0, .slice none 0 0, .slice none 0 0]) := by show Bk _ _ _ _; rw [hV]; exact Bk.new rfl
      rw [← hV]
      clear hV hb
      refine hK.out _ _ ⟨FP.out.cell 0, FP.out.cell 1⟩ (fun hHeld => ?_)
      clear hK K
      refine wpAnyH_ready (rs := [8]) (by kernel_rfl) (by simp) ?_
      refine AllReadyH.cons rfl (fun K hK => ?_) AllReadyH.nil
      have kL := fun i => FL.out.cell i
      have fL := fun i => FL.out.frozen i
      go_simp
      clear kL fL
      generalize hV : World.setCell (World.setCell (World.setCell (World.setCell (World.setCell w7 _ _) _ _) _ _) _ _) _ _ = V
      have hbk : Bk V w6.heap.size 43 #[.int .i64 1, .slice (some ⟨w4.heap.size, 0, none⟩) n n, .slice none 0 0, .slice (some ⟨gc, 0, none⟩) d.length c6, .slice none 0 0] := by rw [← hV]; exact ((((FL.out.set 0 _).set 1 _).set 2 _).set 3 _).set 4 _
      have hbl : ∀ b, b ≠ w6.heap.size → V.heap[b]? = w7.heap[b]? := fun b hb => by
       rw [← hV, Below.heap_setCell _ _ _ b hb, Below.heap_setCell _ _ _ b hb, Below.heap_setCell _ _ _ b hb, Below.heap_setCell _ _ _ b hb, Below.heap_setCell _ _ _ b hb]
      have hbe : Below w6.heap.size w7 V := by rw [← hV]; exact (((((Below.refl _ _).setCell (p := ⟨w6.heap.size, 0, none⟩) (Nat.le_refl _) _).setCell (p := ⟨w6.heap.size, 1, none⟩) (Nat.le_refl _) _).setCell (p := ⟨w6.heap.size, 2, none⟩) (Nat.le_refl _) _).setCell (p := ⟨w6.heap.size, 3, none⟩) (Nat.le_refl _) _).setCell (p := ⟨w6.heap.size, 4, none⟩) (Nat.le_refl _) _
      have hP := FP.out.lt
      have hR := FR.out.lt
      have hM := FM.out.lt
      have FP : Hid (Bk V w.heap.size 75 #[.int .i64 n, .slice A x.tasks.length c]) := (hbl _ (by omega)).trans FP.out
      refine hK.out _ _ ⟨FP.out.cell 0, FP.out.cell 1⟩ (fun hHeld => ?_)
      clear hK K
      refine wpAnyH_done (by kernel_rfl) ?_ _
      go_wp2
      go_meet
      case rel => exact ⟨w6.heap.size, w4.heap.size, gc, c6, rfl, hbk, FM.out.keep (hbl _ (by omega)), FC.out.keep (hbl _ (by omega)), ⟨by omega, by omega, by omega, by omega, by omega, by omega⟩, FB.out.trans (hbe.mono (by omega))⟩
    ·
     go_simp
     obtain ⟨w6, hV⟩ : ∃ V, V = World.alloc w5 (.cells #[.int .i64 0, .slice none 0 0, .slice none 0 0, .slice none 0 0, .slice none 0 0] 43) := ⟨_, rfl⟩
     have hb : Below w5.heap.size w5 w6 := by rw [hV]; exact (Below.refl _ _).alloc (Nat.le_refl _) _
     have yw6 : w5.heap.size < w6.heap.size := by rw [hV]; simp
     have FP := Lib.hid (FP.out.later hb)
     have FR := Lib.hid (FR.out.later hb)
     have FE := Lib.hid (FE.out.later hb)
     have FM := Lib.hid (FM.out.later hb)
     have FB := Lib.hid (FB.out.trans (hb.mono FB.out.size))
     have zw6 := hb.size
     have FL : Hid (Bk w6 w5.heap.size 43 #[.int .i64 0, .slice none 0 0, .slice none 0 0, .slice none 0 0, .slice none 0 0]) := by show Bk _ _ _ _; rw [hV]; exact Bk.new rfl
     rw [← hV]
     clear hV hb
     refine hK.out _ _ ⟨FP.out.cell 0, FP.out.cell 1⟩ (fun hHeld => ?_)
     clear hK K
     refine wpAnyH_ready (rs := [5]) (by kernel_rfl) (by simp) ?_
     refine AllReadyH.cons rfl (fun K hK => ?_) AllReadyH.nil
     ·
      refine step_intsG rfl (.tmp 18) (.tmp 19) rfl (w3.heap.size) 0 (by simp [Act.eval]) FE.out A3 c3 w.heap.size d (by simp [Act.eval]) (H3.out.below (B.out.trans (FB.out.mono B.out.size))) (by have := HD.out; omega) ?_
      intro v6 w7 hv6 hg h5
      obtain ⟨A6, c6, hv, o6⟩ := OwnI.of_v hv6
      subst hv
      obtain ⟨gc, hgc, yc1, hwc⟩ := o6 (by have := HD.out; omega)
      subst hgc
      have zw7 := hg.size
      have yc2 := hwc.lt
      have yP := FP.out.lt
      have FP := Lib.hid (FP.out.grown1 hg (by omega))
      have yR := FR.out.lt
      have FR := Lib.hid (FR.out.grown1 hg (by omega))
      have yM := FM.out.lt
      have FM := Lib.hid (FM.out.grown1 hg (by omega))
      have yL := FL.out.lt
      have FL := Lib.hid (FL.out.grown1 hg (by omega))
      have FB := Lib.hid (FB.out.trans (below_grown1 hg (by omega : w2.heap.size ≤ w3.heap.size) FB.out.size))
      have FC := Lib.hid hwc
      have yc3 : gc = w3.heap.size ∨ gc = w6.heap.size := h5.imp Option.some.inj Option.some.inj
      clear h5 hg hv6 o6 hwc FE
      refine hK.out _ _ ⟨FP.out.cell 0, FP.out.cell 1⟩ (fun hHeld => ?_)
      clear hK K
      refine tk (i := 6) (v := ?_) rfl (.inl ⟨by rfl, ?_⟩) ?_
      rotate_left
      ·
       intro V hSw; (try dsimp only at hSw); go_simp; (try with_reducible rfl)
      simp only [sA, sB, sC, Act.put, sD, sE, sF]
      refine wpAnyH_ready (rs := [8]) (by kernel_rfl) (by simp) ?_
      refine AllReadyH.cons rfl (fun K hK => ?_) AllReadyH.nil
      have kL := fun i => FL.out.cell i
      have fL := fun i => FL.out.frozen i
      go_simp
      clear kL fL
      generalize hV : World.setCell (World.setCell (World.setCell (World.setCell (World.setCell w7 _ _) _ _) _ _) _ _) _ _ = V
      have hbk : Bk V w5.heap.size 43 #[.int .i64 1, .slice (some ⟨w4.heap.size, 0, none⟩) n n, .slice none 0 0, .slice (some ⟨gc, 0, none⟩) d.length c6, .slice none 0 0] := by rw [← hV]; exact ((((FL.out.set 0 _).set 1 _).set 2 _).set 3 _).set 4 _
      have hbl : ∀ b, b ≠ w5.heap.size → V.heap[b]? = w7.heap[b]? := fun b hb => by
       rw [← hV, Below.heap_setCell _ _ _ b hb, Below.heap_setCell _ _ _ b hb, Below.heap_setCell _ _ _ b hb, Below.heap_setCell _ _ _ b hb, Below.heap_setCell _ _ _ b hb]
      have hbe : Below w5.heap.size w7 V := by rw [← hV]; exact (((((Below.refl _ _).setCell (p := ⟨w5.heap.size, 0, none⟩) (Nat.le_refl _) _).setCell (p := ⟨w5.heap.size, 1, none⟩) (Nat.le_refl _) _).setCell (p := ⟨w5.heap.size, 2, none⟩) (Nat.le_refl _) _).setCell (p := ⟨w5.heap.size, 3, none⟩) (Nat.le_refl _) _).setCell (p := ⟨w5.heap.size, 4, none⟩) (Nat.le_refl _) _
      have hP := FP.out.lt
      have hR := FR.out.lt
      have hM := FM.out.lt
      have FP : Hid (Bk V w.heap.size 75 #[.int .i64 n, .slice A x.tasks.length c]) := (hbl _ (by omega)).trans FP.out
      refine hK.out _ _ ⟨FP.out.cell 0, FP.out.cell 1⟩ (fun hHeld => ?_)
      clear hK K
      refine wpAnyH_done (by kernel_rfl) ?_ _
      go_wp2
      go_meet
      case rel => exact ⟨w5.heap.size, w4.heap.size, gc, c6, rfl, hbk, FM.out.keep (hbl _ (by omega)), FC.out.keep (hbl _ (by omega)), ⟨by omega, by omega, by omega, by omega, by omega, by omega⟩, FB.out.trans (hbe.mono (by omega))⟩
   ·
    refine step_intsG rfl (.tmp 18) (.tmp 19) rfl (w3.heap.size) 0 (by simp [Act.eval]) FE.out A3 c3 w.heap.size d (by simp [Act.eval]) (H3.out.below (B.out.trans (FB.out.mono B.out.size))) (by have := HD.out; omega) ?_
    intro v6 w5 hv6 hg h5
    obtain ⟨A6, c6, hv, o6⟩ := OwnI.of_v hv6
    subst hv
    obtain ⟨gc, hgc, yc1, hwc⟩ := o6 (by have := HD.out; omega)
    subst hgc
    have zw5 := hg.size
    have yc2 := hwc.lt
    have yP := FP.out.lt
    have FP := Lib.hid (FP.out.grown1 hg (by omega))
    have yR := FR.out.lt
    have FR := Lib.hid (FR.out.grown1 hg (by omega))
    have FB := Lib.hid (FB.out.trans (below_grown1 hg (by omega : w2.heap.size ≤ w3.heap.size) FB.out.size))
    have FC := Lib.hid hwc
    have yc3 : gc = w3.heap.size ∨ gc = w4.heap.size := h5.imp Option.some.inj Option.some.inj
    clear h5 hg hv6 o6 hwc FE
    refine hK.out _ _ ⟨FP.out.cell 0, FP.out.cell 1⟩ (fun hHeld => ?_)
    clear hK K
    refine wpAnyH_ready (rs := [2, 7]) (by kernel_rfl) (by simp) ?_
    refine AllReadyH.cons rfl (fun K hK => ?_) (AllReadyH.cons rfl (fun K hK => ?_) AllReadyH.nil)
    ·
     go_simp
     obtain ⟨w6, hV⟩ : ∃ V, V = World.alloc w5 (.cells (madeCells #[.int .i64 0] n) 3) := ⟨_, rfl⟩
     have hb : Below w5.heap.size w5 w6 := by rw [hV]; exact (Below.refl _ _).alloc (Nat.le_refl _) _
     have yw6 : w5.heap.size < w6.heap.size := by rw [hV]; simp
     have FP := Lib.hid (FP.out.later hb)
     have FR := Lib.hid (FR.out.later hb)
     have FC := Lib.hid (FC.out.later hb)
     have FB := Lib.hid (FB.out.trans (hb.mono FB.out.size))
     have zw6 := hb.size
     have FM : Hid (Wr w6 w5.heap.size 3 (iv (List.replicate n 0))) := by
      show Wr _ _ _ _
      have h := Wr.new w5 3 (madeCells #[.int .i64 0] n)
      rw [toList_madeCells_one] at h
      rw [hV, iv_rep]
      exact h
     rw [← hV]
     clear hV hb
     refine hK.out _ _ ⟨FP.out.cell 0, FP.out.cell 1⟩ (fun hHeld => ?_)
     clear hK K
     refine tk (i := 6) (v := ?_) rfl (.inl ⟨by rfl, ?_⟩) ?_
     rotate_left
     ·
      intro V hSw; (try dsimp only at hSw); go_simp; (try with_reducible rfl)
     simp only [sA, sB, sC, Act.put, sD, sE, sF]
     refine wpAnyH_ready (rs := [7]) (by kernel_rfl) (by simp) ?_
     refine AllReadyH.cons rfl (fun K hK => ?_) AllReadyH.nil
     ·
      go_simp
      obtain ⟨w7, hV⟩ : ∃ V, V = World.alloc w6 (.cells #[.int .i64 0, .slice none 0 0, .slice none 0 0, .slice none 0 0, .slice none 0 0] 43) := ⟨_, rfl⟩
      have hb : Below w6.heap.size w6 w7 := by rw [hV]; exact (Below.refl _ _).alloc (Nat.le_refl _) _
      have yw7 : w6.heap.size < w7.heap.size := by rw [hV]; simp
      have FP := Lib.hid (FP.out.later hb)
      have FR := Lib.hid (FR.out.later hb)
      have FC := Lib.hid (FC.out.later hb)
      have FM := Lib.hid (FM.out.later hb)
      have FB := Lib.hid (FB.out.trans (hb.mono FB.out.size))
      have zw7 := hb.size
      have FL : Hid (Bk w7 w6.heap.size 43 #[.int .i64 0, .slice none 0 0, .slice none 0 0, .slice none 0 0, .slice none 0 0]) := by show Bk _ _ _ _; rw [hV]; exact Bk.new rfl
      rw [← hV]
      clear hV hb
      refine hK.out _ _ ⟨FP.out.cell 0, FP.out.cell 1⟩ (fun hHeld => ?_)
      clear hK K
      refine wpAnyH_ready (rs := [8]) (by kernel_rfl) (by simp) ?_
      refine AllReadyH.cons rfl (fun K hK => ?_) AllReadyH.nil
      have kL := fun i => FL.out.cell i
      have fL := fun i => FL.out.frozen i
      go_simp
      clear kL fL
      generalize hV : World.setCell (World.setCell (World.setCell (World.setCell (World.setCell w7 _ _) _ _) _ _) _ _) _ _ = V
      have hbk : Bk V w6.heap.size 43 #[.int .i64 1, .slice (some ⟨w5.heap.size, 0, none⟩) n n, .slice none 0 0, .slice (some ⟨gc, 0, none⟩) d.length c6, .slice none 0 0] := by rw [← hV]; exact ((((FL.out.set 0 _).set 1 _).set 2 _).set 3 _).set 4 _
      have hbl : ∀ b, b ≠ w6.heap.size → V.heap[b]? = w7.heap[b]? := fun b hb => by
       rw [← hV, Below.heap_setCell _ _ _ b hb, Below.heap_setCell _ _ _ b hb, Below.heap_setCell _ _ _ b hb, Below.heap_setCell _ _ _ b hb, Below.heap_setCell _ _ _ b hb]
      have hbe : Below w6.heap.size w7 V := by rw [← hV]; exact (((((Below.refl _ _).setCell (p := ⟨w6.heap.size, 0, none⟩) (Nat.le_refl _) _).setCell (p := ⟨w6.heap.size, 1, none⟩) (Nat.le_refl _) _).setCell (p := ⟨w6.heap.size, 2, none⟩) (Nat.le_refl _) _).setCell (p := ⟨w6.heap.size, 3, none⟩) (Nat.le_refl _) _).setCell (p := ⟨w6.heap.size, 4, none⟩) (Nat.le_refl _) _
      have hP := FP.out.lt
      have hR := FR.out.lt
      have hM := FM.out.lt
      have FP : Hid (Bk V w.heap.size 75 #[.int .i64 n, .slice A x.tasks.length c]) := (hbl _ (by omega)).trans FP.out
      refine hK.out _ _ ⟨FP.out.cell 0, FP.out.cell 1⟩ (fun hHeld => ?_)
      clear hK K
      refine wpAnyH_done (by kernel_rfl) ?_ _
      go_wp2
      go_meet
      case rel => exact ⟨w6.heap.size, w5.heap.size, gc, c6, rfl, hbk, FM.out.keep (hbl _ (by omega)), FC.out.keep (hbl _ (by omega)), ⟨by omega, by omega, by omega, by omega, by omega, by omega⟩, FB.out.trans (hbe.mono (by omega))⟩
    ·
     go_simp
     obtain ⟨w6, hV⟩ : ∃ V, V = World.alloc w5 (.cells #[.int .i64 0, .slice none 0 0, .slice none 0 0, .slice none 0 0, .slice none 0 0] 43) := ⟨_, rfl⟩
     have hb : Below w5.heap.size w5 w6 := by rw [hV]; exact (Below.refl _ _).alloc (Nat.le_refl _) _
     have yw6 : w5.heap.size < w6.heap.size := by rw [hV]; simp
     have FP := Lib.hid (FP.out.later hb)
     have FR := Lib.hid (FR.out.later hb)
     have FC := Lib.hid (FC.out.later hb)
     have FB := Lib.hid (FB.out.trans (hb.mono FB.out.size))
     have zw6 := hb.size
     have FL : Hid (Bk w6 w5.heap.size 43 #[.int .i64 0, .slice none 0 0, .slice none 0 0, .slice none 0 0, .slice none 0 0]) := by show Bk _ _ _ _; rw [hV]; exact Bk.new rfl
     rw [← hV]
     clear hV hb
     refine hK.out _ _ ⟨FP.out.cell 0, FP.out.cell 1⟩ (fun hHeld => ?_)
     clear hK K
     refine wpAnyH_ready (rs := [2]) (by kernel_rfl) (by simp) ?_
     refine AllReadyH.cons rfl (fun K hK => ?_) AllReadyH.nil
     ·
      go_simp
      obtain ⟨w7, hV⟩ : ∃ V, V = World.alloc w6 (.cells (madeCells #[.int .i64 0] n) 3) := ⟨_, rfl⟩
      have hb : Below w6.heap.size w6 w7 := by rw [hV]; exact (Below.refl _ _).alloc (Nat.le_refl _) _
      have yw7 : w6.heap.size < w7.heap.size := by rw [hV]; simp
      have FP := Lib.hid (FP.out.later hb)
      have FR := Lib.hid (FR.out.later hb)
      have FC := Lib.hid (FC.out.later hb)
      have FL := Lib.hid (FL.out.later hb)
      have FB := Lib.hid (FB.out.trans (hb.mono FB.out.size))
      have zw7 := hb.size
      have FM : Hid (Wr w7 w6.heap.size 3 (iv (List.replicate n 0))) := by
       show Wr _ _ _ _
       have h := Wr.new w6 3 (madeCells #[.int .i64 0] n)
       rw [toList_madeCells_one] at h
       rw [hV, iv_rep]
       exact h
      rw [← hV]
      clear hV hb
      refine hK.out _ _ ⟨FP.out.cell 0, FP.out.cell 1⟩ (fun hHeld => ?_)
      clear hK K
      refine tk (i := 6) (v := ?_) rfl (.inl ⟨by rfl, ?_⟩) ?_
      rotate_left
      ·
       intro V hSw; (try dsimp only at hSw); go_simp; (try with_reducible rfl)
      simp only [sA, sB, sC, Act.put, sD, sE, sF]
      refine wpAnyH_ready (rs := [8]) (by kernel_rfl) (by simp) ?_
      refine AllReadyH.cons rfl (fun K hK => ?_) AllReadyH.nil
      have kL := fun i => FL.out.cell i
      have fL := fun i => FL.out.frozen i
      go_simp
      clear kL fL
      generalize hV : World.setCell (World.setCell (World.setCell (World.setCell (World.setCell w7 _ _) _ _) _ _) _ _) _ _ = V
      have hbk : Bk V w5.heap.size 43 #[.int .i64 1, .slice (some ⟨w6.heap.size, 0, none⟩) n n, .slice none 0 0, .slice (some ⟨gc, 0, none⟩) d.length c6, .slice none 0 0] := by rw [← hV]; exact ((((FL.out.set 0 _).set 1 _).set 2 _).set 3 _).set 4 _
      have hbl : ∀ b, b ≠ w5.heap.size → V.heap[b]? = w7.heap[b]? := fun b hb => by
       rw [← hV, Below.heap_setCell _ _ _ b hb, Below.heap_setCell _ _ _ b hb, Below.heap_setCell _ _ _ b hb, Below.heap_setCell _ _ _ b hb, Below.heap_setCell _ _ _ b hb]
      have hbe : Below w5.heap.size w7 V := by rw [← hV]; exact (((((Below.refl _ _).setCell (p := ⟨w5.heap.size, 0, none⟩) (Nat.le_refl _) _).setCell (p := ⟨w5.heap.size, 1, none⟩) (Nat.le_refl _) _).setCell (p := ⟨w5.heap.size, 2, none⟩) (Nat.le_refl _) _).setCell (p := ⟨w5.heap.size, 3, none⟩) (Nat.le_refl _) _).setCell (p := ⟨w5.heap.size, 4, none⟩) (Nat.le_refl _) _
      have hP := FP.out.lt
      have hR := FR.out.lt
      have hM := FM.out.lt
      have FP : Hid (Bk V w.heap.size 75 #[.int .i64 n, .slice A x.tasks.length c]) := (hbl _ (by omega)).trans FP.out
      refine hK.out _ _ ⟨FP.out.cell 0, FP.out.cell 1⟩ (fun hHeld => ?_)
      clear hK K
      refine wpAnyH_done (by kernel_rfl) ?_ _
      go_wp2
      go_meet
      case rel => exact ⟨w5.heap.size, w6.heap.size, gc, c6, rfl, hbk, FM.out.keep (hbl _ (by omega)), FC.out.keep (hbl _ (by omega)), ⟨by omega, by omega, by omega, by omega, by omega, by omega⟩, FB.out.trans (hbe.mono (by omega))⟩
   ·
    go_simp
    obtain ⟨w5, hV⟩ : ∃ V, V = World.alloc w4 (.cells #[.int .i64 0, .slice none 0 0, .slice none 0 0, .slice none 0 0, .slice none 0 0] 43) := ⟨_, rfl⟩
    have hb : Below w4.heap.size w4 w5 := by rw [hV]; exact (Below.refl _ _).alloc (Nat.le_refl _) _
    have yw5 : w4.heap.size < w5.heap.size := by rw [hV]; simp
    have FP := Lib.hid (FP.out.later hb)
    have FR := Lib.hid (FR.out.later hb)
    have FE := Lib.hid (FE.out.later hb)
    have FB := Lib.hid (FB.out.trans (hb.mono FB.out.size))
    have zw5 := hb.size
    have FL : Hid (Bk w5 w4.heap.size 43 #[.int .i64 0, .slice none 0 0, .slice none 0 0, .slice none 0 0, .slice none 0 0]) := by show Bk _ _ _ _; rw [hV]; exact Bk.new rfl
    rw [← hV]
    clear hV hb
    refine hK.out _ _ ⟨FP.out.cell 0, FP.out.cell 1⟩ (fun hHeld => ?_)
    clear hK K
    refine wpAnyH_ready (rs := [2, 5]) (by kernel_rfl) (by simp) ?_
    refine AllReadyH.cons rfl (fun K hK => ?_) (AllReadyH.cons rfl (fun K hK => ?_) AllReadyH.nil)
    ·
     go_simp
     obtain ⟨w6, hV⟩ : ∃ V, V = World.alloc w5 (.cells (madeCells #[.int .i64 0] n) 3) := ⟨_, rfl⟩
     have hb : Below w5.heap.size w5 w6 := by rw [hV]; exact (Below.refl _ _).alloc (Nat.le_refl _) _
     have yw6 : w5.heap.size < w6.heap.size := by rw [hV]; simp
     have FP := Lib.hid (FP.out.later hb)
     have FR := Lib.hid (FR.out.later hb)
     have FE := Lib.hid (FE.out.later hb)
     have FL := Lib.hid (FL.out.later hb)
     have FB := Lib.hid (FB.out.trans (hb.mono FB.out.size))
     have zw6 := hb.size
     have FM : Hid (Wr w6 w5.heap.size 3 (iv (List.replicate n 0))) := by
      show Wr _ _ _ _
      have h := Wr.new w5 3 (madeCells #[.int .i64 0] n)
      rw [toList_madeCells_one] at h
      rw [hV, iv_rep]
      exact h
     rw [← hV]
     clear hV hb
     refine hK.out _ _ ⟨FP.out.cell 0, FP.out.cell 1⟩ (fun hHeld => ?_)
     clear hK K
     refine wpAnyH_ready (rs := [5]) (by kernel_rfl) (by simp) ?_
     refine AllReadyH.cons rfl (fun K hK => ?_) AllReadyH.nil
     ·
      refine step_intsG rfl (.tmp 18) (.tmp 19) rfl (w3.heap.size) 0 (by simp [Act.eval]) FE.out A3 c3 w.heap.size d (by simp [Act.eval]) (H3.out.below (B.out.trans (FB.out.mono B.out.size))) (by have := HD.out; omega) ?_
      intro v6 w7 hv6 hg h5
      obtain ⟨A6, c6, hv, o6⟩ := OwnI.of_v hv6
      subst hv
      obtain ⟨gc, hgc, yc1, hwc⟩ := o6 (by have := HD.out; omega)
      subst hgc
      have zw7 := hg.size
      have yc2 := hwc.lt
      have yP := FP.out.lt
      have FP := Lib.hid (FP.out.grown1 hg (by omega))
      have yR := FR.out.lt
      have FR := Lib.hid (FR.out.grown1 hg (by omega))
      have yL := FL.out.lt
      have FL := Lib.hid (FL.out.grown1 hg (by omega))
      have yM := FM.out.lt
      have FM := Lib.hid (FM.out.grown1 hg (by omega))
      have FB := Lib.hid (FB.out.trans (below_grown1 hg (by omega : w2.heap.size ≤ w3.heap.size) FB.out.size))
      have FC := Lib.hid hwc
      have yc3 : gc = w3.heap.size ∨ gc = w6.heap.size := h5.imp Option.some.inj Option.some.inj
      clear h5 hg hv6 o6 hwc FE
      refine hK.out _ _ ⟨FP.out.cell 0, FP.out.cell 1⟩ (fun hHeld => ?_)
      clear hK K
      refine tk (i := 6) (v := ?_) rfl (.inl ⟨by rfl, ?_⟩) ?_
      rotate_left
      ·
       intro V hSw; (try dsimp only at hSw); go_simp; (try with_reducible rfl)
      simp only [sA, sB, sC, Act.put, sD, sE, sF]
      refine wpAnyH_ready (rs := [8]) (by kernel_rfl) (by simp) ?_
      refine AllReadyH.cons rfl (fun K hK => ?_) AllReadyH.nil
      have kL := fun i => FL.out.cell i
      have fL := fun i => FL.out.frozen i
      go_simp
      clear kL fL
      generalize hV : World.setCell (World.setCell (World.setCell (World.setCell (World.setCell w7 _ _) _ _) _ _) _ _) _ _ = V
      have hbk : Bk V w4.heap.size 43 #[.int .i64 1, .slice (some ⟨w5.heap.size, 0, none⟩) n n, .slice none 0 0, .slice (some ⟨gc, 0, none⟩) d.length c6, .slice none 0 0] := by rw [← hV]; exact ((((FL.out.set 0 _).set 1 _).set 2 _).set 3 _).set 4 _
      have hbl : ∀ b, b ≠ w4.heap.size → V.heap[b]? = w7.heap[b]? := fun b hb => by
       rw [← hV, Below.heap_setCell _ _ _ b hb, Below.heap_setCell _ _ _ b hb, Below.heap_setCell _ _ _ b hb, Below.heap_setCell _ _ _ b hb, Below.heap_setCell _ _ _ b hb]
      have hbe : Below w4.heap.size w7 V := by rw [← hV]; exact (((((Below.refl _ _).setCell (p := ⟨w4.heap.size, 0, none⟩) (Nat.le_refl _) _).setCell (p := ⟨w4.heap.size, 1, none⟩) (Nat.le_refl _) _).setCell (p := ⟨w4.heap.size, 2, none⟩) (Nat.le_refl _) _).setCell (p := ⟨w4.heap.size, 3, none⟩) (Nat.le_refl _) _).setCell (p := ⟨w4.heap.size, 4, none⟩) (Nat.le_refl _) _
      have hP := FP.out.lt
      have hR := FR.out.lt
      have hM := FM.out.lt
      have FP : Hid (Bk V w.heap.size 75 #[.int .i64 n, .slice A x.tasks.length c]) := (hbl _ (by omega)).trans FP.out
      refine hK.out _ _ ⟨FP.out.cell 0, FP.out.cell 1⟩ (fun hHeld => ?_)
      clear hK K
      refine wpAnyH_done (by kernel_rfl) ?_ _
      go_wp2
      go_meet
      case rel => exact ⟨w4.heap.size, w5.heap.size, gc, c6, rfl, hbk, FM.out.keep (hbl _ (by omega)), FC.out.keep (hbl _ (by omega)), ⟨by omega, by omega, by omega, by omega, by omega, by omega⟩, FB.out.trans (hbe.mono (by omega))⟩
    ·
     refine step_intsG rfl (.tmp 18) (.tmp 19) rfl (w3.heap.size) 0 (by simp [Act.eval]) FE.out A3 c3 w.heap.size d (by simp [Act.eval]) (H3.out.below (B.out.trans (FB.out.mono B.out.size))) (by have := HD.out; omega) ?_
     intro v6 w6 hv6 hg h5
     obtain ⟨A6, c6, hv, o6⟩ := OwnI.of_v hv6
     subst hv
     obtain ⟨gc, hgc, yc1, hwc⟩ := o6 (by have := HD.out; omega)
     subst hgc
     have zw6 := hg.size
     have yc2 := hwc.lt
     have yP := FP.out.lt
     have FP := Lib.hid (FP.out.grown1 hg (by omega))
     have yR := FR.out.lt
     have FR := Lib.hid (FR.out.grown1 hg (by omega))
     have yL := FL.out.lt
     have FL := Lib.hid (FL.out.grown1 hg (by omega))
     have FB := Lib.hid (FB.out.trans (below_grown1 hg (by omega : w2.heap.size ≤ w3.heap.size) FB.out.size))
     have FC := Lib.hid hwc
     have yc3 : gc = w3.heap.size ∨ gc = w5.heap.size := h5.imp Option.some.inj Option.some.inj
     clear h5 hg hv6 o6 hwc FE
     refine hK.out _ _ ⟨FP.out.cell 0, FP.out.cell 1⟩ (fun hHeld => ?_)
     clear hK K
     refine wpAnyH_ready (rs := [2]) (by kernel_rfl) (by simp) ?_
     refine AllReadyH.cons rfl (fun K hK => ?_) AllReadyH.nil
     ·
      go_simp
      obtain ⟨w7, hV⟩ : ∃ V, V = World.alloc w6 (.cells (madeCells #[.int .i64 0] n) 3) := ⟨_, rfl⟩
      have hb : Below w6.heap.size w6 w7 := by rw [hV]; exact (Below.refl _ _).alloc (Nat.le_refl _) _
      have yw7 : w6.heap.size < w7.heap.size := by rw [hV]; simp
      have FP := Lib.hid (FP.out.later hb)
      have FR := Lib.hid (FR.out.later hb)
      have FL := Lib.hid (FL.out.later hb)
      have FC := Lib.hid (FC.out.later hb)
      have FB := Lib.hid (FB.out.trans (hb.mono FB.out.size))
      have zw7 := hb.size
      have FM : Hid (Wr w7 w6.heap.size 3 (iv (List.replicate n 0))) := by
       show Wr _ _ _ _
       have h := Wr.new w6 3 (madeCells #[.int .i64 0] n)
       rw [toList_madeCells_one] at h
       rw [hV, iv_rep]
       exact h
      rw [← hV]
      clear hV hb
      refine hK.out _ _ ⟨FP.out.cell 0, FP.out.cell 1⟩ (fun hHeld => ?_)
      clear hK K
      refine tk (i := 6) (v := ?_) rfl (.inl ⟨by rfl, ?_⟩) ?_
      rotate_left
      ·
       intro V hSw; (try dsimp only at hSw); go_simp; (try with_reducible rfl)
      simp only [sA, sB, sC, Act.put, sD, sE, sF]
      refine wpAnyH_ready (rs := [8]) (by kernel_rfl) (by simp) ?_
      refine AllReadyH.cons rfl (fun K hK => ?_) AllReadyH.nil
      have kL := fun i => FL.out.cell i
      have fL := fun i => FL.out.frozen i
      go_simp
      clear kL fL
      generalize hV : World.setCell (World.setCell (World.setCell (World.setCell (World.setCell w7 _ _) _ _) _ _) _ _) _ _ = V
      have hbk : Bk V w4.heap.size 43 #[.int .i64 1, .slice (some ⟨w6.heap.size, 0, none⟩) n n, .slice none 0 0, .slice (some ⟨gc, 0, none⟩) d.length c6, .slice none 0 0] := by rw [← hV]; exact ((((FL.out.set 0 _).set 1 _).set 2 _).set 3 _).set 4 _
      have hbl : ∀ b, b ≠ w4.heap.size → V.heap[b]? = w7.heap[b]? := fun b hb => by
       rw [← hV, Below.heap_setCell _ _ _ b hb, Below.heap_setCell _ _ _ b hb, Below.heap_setCell _ _ _ b hb, Below.heap_setCell _ _ _ b hb, Below.heap_setCell _ _ _ b hb]
      have hbe : Below w4.heap.size w7 V := by rw [← hV]; exact (((((Below.refl _ _).setCell (p := ⟨w4.heap.size, 0, none⟩) (Nat.le_refl _) _).setCell (p := ⟨w4.heap.size, 1, none⟩) (Nat.le_refl _) _).setCell (p := ⟨w4.heap.size, 2, none⟩) (Nat.le_refl _) _).setCell (p := ⟨w4.heap.size, 3, none⟩) (Nat.le_refl _) _).setCell (p := ⟨w4.heap.size, 4, none⟩) (Nat.le_refl _) _
      have hP := FP.out.lt
      have hR := FR.out.lt
      have hM := FM.out.lt
      have FP : Hid (Bk V w.heap.size 75 #[.int .i64 n, .slice A x.tasks.length c]) := (hbl _ (by omega)).trans FP.out
      refine hK.out _ _ ⟨FP.out.cell 0, FP.out.cell 1⟩ (fun hHeld => ?_)
      clear hK K
      refine wpAnyH_done (by kernel_rfl) ?_ _
      go_wp2
      go_meet
      case rel => exact ⟨w4.heap.size, w6.heap.size, gc, c6, rfl, hbk, FM.out.keep (hbl _ (by omega)), FC.out.keep (hbl _ (by omega)), ⟨by omega, by omega, by omega, by omega, by omega, by omega⟩, FB.out.trans (hbe.mono (by omega))⟩
  ·
   go_simp
   obtain ⟨w4, hV⟩ : ∃ V, V = World.alloc w3 (.cells #[.int .i64 0, .slice none 0 0, .slice none 0 0, .slice none 0 0, .slice none 0 0] 43) := ⟨_, rfl⟩
   have hb : Below w3.heap.size w3 w4 := by rw [hV]; exact (Below.refl _ _).alloc (Nat.le_refl _) _
   have yw4 : w3.heap.size < w4.heap.size := by rw [hV]; simp
   have FP := Lib.hid (FP.out.later hb)
   have FR := Lib.hid (FR.out.later hb)
   have FB := Lib.hid (FB.out.trans (hb.mono FB.out.size))
   have zw4 := hb.size
   have FL : Hid (Bk w4 w3.heap.size 43 #[.int .i64 0, .slice none 0 0, .slice none 0 0, .slice none 0 0, .slice none 0 0]) := by show Bk _ _ _ _; rw [hV]; exact Bk.new rfl
   rw [← hV]
   clear hV hb
   refine hK.out _ _ ⟨FP.out.cell 0, FP.out.cell 1⟩ (fun hHeld => ?_)
   clear hK K
   refine wpAnyH_ready (rs := [2, 3]) (by kernel_rfl) (by simp) ?_
   refine AllReadyH.cons rfl (fun K hK => ?_) (AllReadyH.cons rfl (fun K hK => ?_) AllReadyH.nil)
   ·
    go_simp
    obtain ⟨w5, hV⟩ : ∃ V, V = World.alloc w4 (.cells (madeCells #[.int .i64 0] n) 3) := ⟨_, rfl⟩
    have hb : Below w4.heap.size w4 w5 := by rw [hV]; exact (Below.refl _ _).alloc (Nat.le_refl _) _
    have yw5 : w4.heap.size < w5.heap.size := by rw [hV]; simp
    have FP := Lib.hid (FP.out.later hb)
    have FR := Lib.hid (FR.out.later hb)
    have FL := Lib.hid (FL.out.later hb)
    have FB := Lib.hid (FB.out.trans (hb.mono FB.out.size))
    have zw5 := hb.size
    have FM : Hid (Wr w5 w4.heap.size 3 (iv (List.replicate n 0))) := by
     show Wr _ _ _ _
     have h := Wr.new w4 3 (madeCells #[.int .i64 0] n)
     rw [toList_madeCells_one] at h
     rw [hV, iv_rep]
     exact h
    rw [← hV]
    clear hV hb
    refine hK.out _ _ ⟨FP.out.cell 0, FP.out.cell 1⟩ (fun hHeld => ?_)
    clear hK K
    refine wpAnyH_ready (rs := [3]) (by kernel_rfl) (by simp) ?_
    refine AllReadyH.cons rfl (fun K hK => ?_) AllReadyH.nil
    ·
     go_simp
     obtain ⟨w6, hV⟩ : ∃ V, V = World.alloc w5 (.cells #[] 3) := ⟨_, rfl⟩
     have hb : Below w5.heap.size w5 w6 := by rw [hV]; exact (Below.refl _ _).alloc (Nat.le_refl _) _
     have yw6 : w5.heap.size < w6.heap.size := by rw [hV]; simp
     have FP := Lib.hid (FP.out.later hb)
     have FR := Lib.hid (FR.out.later hb)
     have FL := Lib.hid (FL.out.later hb)
     have FM := Lib.hid (FM.out.later hb)
     have FB := Lib.hid (FB.out.trans (hb.mono FB.out.size))
     have zw6 := hb.size
     have FE : Hid (OwnV w6 w5.heap.size (.slice (some ⟨w5.heap.size, 0, none⟩) 0 0) []) := by show OwnV _ _ _ _; rw [hV]; exact OwnV.made' (Nat.le_refl _)
     rw [← hV]
     clear hV hb
     refine hK.out _ _ ⟨FP.out.cell 0, FP.out.cell 1⟩ (fun hHeld => ?_)
     clear hK K
     refine wpAnyH_ready (rs := [5]) (by kernel_rfl) (by simp) ?_
     refine AllReadyH.cons rfl (fun K hK => ?_) AllReadyH.nil
     ·
      refine step_intsG rfl (.tmp 18) (.tmp 19) rfl (w5.heap.size) 0 (by simp [Act.eval]) FE.out A3 c3 w.heap.size d (by simp [Act.eval]) (H3.out.below (B.out.trans (FB.out.mono B.out.size))) (by have := HD.out; omega) ?_
      intro v6 w7 hv6 hg h5
      obtain ⟨A6, c6, hv, o6⟩ := OwnI.of_v hv6
      subst hv
      obtain ⟨gc, hgc, yc1, hwc⟩ := o6 (by have := HD.out; omega)
      subst hgc
      have zw7 := hg.size
      have yc2 := hwc.lt
      have yP := FP.out.lt
      have FP := Lib.hid (FP.out.grown1 hg (by omega))
      have yR := FR.out.lt
      have FR := Lib.hid (FR.out.grown1 hg (by omega))
      have yL := FL.out.lt
      have FL := Lib.hid (FL.out.grown1 hg (by omega))
      have yM := FM.out.lt
      have FM := Lib.hid (FM.out.grown1 hg (by omega))
      have FB := Lib.hid (FB.out.trans (below_grown1 hg (by omega : w2.heap.size ≤ w5.heap.size) FB.out.size))
      have FC := Lib.hid hwc
      have yc3 : gc = w5.heap.size ∨ gc = w6.heap.size := h5.imp Option.some.inj Option.some.inj
      clear h5 hg hv6 o6 hwc FE
      refine hK.out _ _ ⟨FP.out.cell 0, FP.out.cell 1⟩ (fun hHeld => ?_)
      clear hK K
      refine tk (i := 6) (v := ?_) rfl (.inl ⟨by rfl, ?_⟩) ?_
      rotate_left
      ·
       intro V hSw; (try dsimp only at hSw); go_simp; (try with_reducible rfl)
      simp only [sA, sB, sC, Act.put, sD, sE, sF]
      refine wpAnyH_ready (rs := [8]) (by kernel_rfl) (by simp) ?_
      refine AllReadyH.cons rfl (fun K hK => ?_) AllReadyH.nil
      have kL := fun i => FL.out.cell i
      have fL := fun i => FL.out.frozen i
      go_simp
      clear kL fL
      generalize hV : World.setCell (World.setCell (World.setCell (World.setCell (World.setCell w7 _ _) _ _) _ _) _ _) _ _ = V
      have hbk : Bk V w3.heap.size 43 #[.int .i64 1, .slice (some ⟨w4.heap.size, 0, none⟩) n n, .slice none 0 0, .slice (some ⟨gc, 0, none⟩) d.length c6, .slice none 0 0] := by rw [← hV]; exact ((((FL.out.set 0 _).set 1 _).set 2 _).set 3 _).set 4 _
      have hbl : ∀ b, b ≠ w3.heap.size → V.heap[b]? = w7.heap[b]? := fun b hb => by
       rw [← hV, Below.heap_setCell _ _ _ b hb, Below.heap_setCell _ _ _ b hb, Below.heap_setCell _ _ _ b hb, Below.heap_setCell _ _ _ b hb, Below.heap_setCell _ _ _ b hb]
      have hbe : Below w3.heap.size w7 V := by rw [← hV]; exact (((((Below.refl _ _).setCell (p := ⟨w3.heap.size, 0, none⟩) (Nat.le_refl _) _).setCell (p := ⟨w3.heap.size, 1, none⟩) (Nat.le_refl _) _).setCell (p := ⟨w3.heap.size, 2, none⟩) (Nat.le_refl _) _).setCell (p := ⟨w3.heap.size, 3, none⟩) (Nat.le_refl _) _).setCell (p := ⟨w3.heap.size, 4, none⟩) (Nat.le_refl _) _
      have hP := FP.out.lt
      have hR := FR.out.lt
      have hM := FM.out.lt
      have FP : Hid (Bk V w.heap.size 75 #[.int .i64 n, .slice A x.tasks.length c]) := (hbl _ (by omega)).trans FP.out
      refine hK.out _ _ ⟨FP.out.cell 0, FP.out.cell 1⟩ (fun hHeld => ?_)
      clear hK K
      refine wpAnyH_done (by kernel_rfl) ?_ _
      go_wp2
      go_meet
      case rel => exact ⟨w3.heap.size, w4.heap.size, gc, c6, rfl, hbk, FM.out.keep (hbl _ (by omega)), FC.out.keep (hbl _ (by omega)), ⟨by omega, by omega, by omega, by omega, by omega, by omega⟩, FB.out.trans (hbe.mono (by omega))⟩
   ·
    go_simp
    obtain ⟨w5, hV⟩ : ∃ V, V = World.alloc w4 (.cells #[] 3) := ⟨_, rfl⟩
    have hb : Below w4.heap.size w4 w5 := by rw [hV]; exact (Below.refl _ _).alloc (Nat.le_refl _) _
    have yw5 : w4.heap.size < w5.heap.size := by rw [hV]; simp
    have FP := Lib.hid (FP.out.later hb)
    have FR := Lib.hid (FR.out.later hb)
    have FL := Lib.hid (FL.out.later hb)
    have FB := Lib.hid (FB.out.trans (hb.mono FB.out.size))
    have zw5 := hb.size
    have FE : Hid (OwnV w5 w4.heap.size (.slice (some ⟨w4.heap.size, 0, none⟩) 0 0) []) := by show OwnV _ _ _ _; rw [hV]; exact OwnV.made' (Nat.le_refl _)
    rw [← hV]
    clear hV hb
    refine hK.out _ _ ⟨FP.out.cell 0, FP.out.cell 1⟩ (fun hHeld => ?_)
    clear hK K
    refine wpAnyH_ready (rs := [2, 5]) (by kernel_rfl) (by simp) ?_
    refine AllReadyH.cons rfl (fun K hK => ?_) (AllReadyH.cons rfl (fun K hK => ?_) AllReadyH.nil)
    ·
     go_simp
     obtain ⟨w6, hV⟩ : ∃ V, V = World.alloc w5 (.cells (madeCells #[.int .i64 0] n) 3) := ⟨_, rfl⟩
     have hb : Below w5.heap.size w5 w6 := by rw [hV]; exact (Below.refl _ _).alloc (Nat.le_refl _) _
     have yw6 : w5.heap.size < w6.heap.size := by rw [hV]; simp
     have FP := Lib.hid (FP.out.later hb)
     have FR := Lib.hid (FR.out.later hb)
     have FL := Lib.hid (FL.out.later hb)
     have FE := Lib.hid (FE.out.later hb)
     have FB := Lib.hid (FB.out.trans (hb.mono FB.out.size))
     have zw6 := hb.size
     have FM : Hid (Wr w6 w5.heap.size 3 (iv (List.replicate n 0))) := by
      show Wr _ _ _ _
      have h := Wr.new w5 3 (madeCells #[.int .i64 0] n)
      rw [toList_madeCells_one] at h
      rw [hV, iv_rep]
      exact h
     rw [← hV]
     clear hV hb
     refine hK.out _ _ ⟨FP.out.cell 0, FP.out.cell 1⟩ (fun hHeld => ?_)
     clear hK K
     refine wpAnyH_ready (rs := [5]) (by kernel_rfl) (by simp) ?_
     refine AllReadyH.cons rfl (fun K hK => ?_) AllReadyH.nil
     ·
      refine step_intsG rfl (.tmp 18) (.tmp 19) rfl (w4.heap.size) 0 (by simp [Act.eval]) FE.out A3 c3 w.heap.size d (by simp [Act.eval]) (H3.out.below (B.out.trans (FB.out.mono B.out.size))) (by have := HD.out; omega) ?_
      intro v6 w7 hv6 hg h5
      obtain ⟨A6, c6, hv, o6⟩ := OwnI.of_v hv6
      subst hv
      obtain ⟨gc, hgc, yc1, hwc⟩ := o6 (by have := HD.out; omega)
      subst hgc
      have zw7 := hg.size
      have yc2 := hwc.lt
      have yP := FP.out.lt
      have FP := Lib.hid (FP.out.grown1 hg (by omega))
      have yR := FR.out.lt
      have FR := Lib.hid (FR.out.grown1 hg (by omega))
      have yL := FL.out.lt
      have FL := Lib.hid (FL.out.grown1 hg (by omega))
      have yM := FM.out.lt
      have FM := Lib.hid (FM.out.grown1 hg (by omega))
      have FB := Lib.hid (FB.out.trans (below_grown1 hg (by omega : w2.heap.size ≤ w4.heap.size) FB.out.size))
      have FC := Lib.hid hwc
      have yc3 : gc = w4.heap.size ∨ gc = w6.heap.size := h5.imp Option.some.inj Option.some.inj
      clear h5 hg hv6 o6 hwc FE
      refine hK.out _ _ ⟨FP.out.cell 0, FP.out.cell 1⟩ (fun hHeld => ?_)
      clear hK K
      refine tk (i := 6) (v := ?_) rfl (.inl ⟨by rfl, ?_⟩) ?_
      rotate_left
      ·
       intro V hSw; (try dsimp only at hSw); go_simp; (try with_reducible rfl)
      simp only [sA, sB, sC, Act.put, sD, sE, sF]
      refine wpAnyH_ready (rs := [8]) (by kernel_rfl) (by simp) ?_
      refine AllReadyH.cons rfl (fun K hK => ?_) AllReadyH.nil
      have kL := fun i => FL.out.cell i
      have fL := fun i => FL.out.frozen i
      go_simp
      clear kL fL
      generalize hV : World.setCell (World.setCell (World.setCell (World.setCell (World.setCell w7 _ _) _ _) _ _) _ _) _ _ = V
      have hbk : Bk V w3.heap.size 43 #[.int .i64 1, .slice (some ⟨w5.heap.size, 0, none⟩) n n, .slice none 0 0, .slice (some ⟨gc, 0, none⟩) d.length c6, .slice none 0 0] := by rw [← hV]; exact ((((FL.out.set 0 _).set 1 _).set 2 _).set 3 _).set 4 _
      have hbl : ∀ b, b ≠ w3.heap.size → V.heap[b]? = w7.heap[b]? := fun b hb => by
       rw [← hV, Below.heap_setCell _ _ _ b hb, Below.heap_setCell _ _ _ b hb, Below.heap_setCell _ _ _ b hb, Below.heap_setCell _ _ _ b hb, Below.heap_setCell _ _ _ b hb]
      have hbe : Below w3.heap.size w7 V := by rw [← hV]; exact (((((Below.refl _ _).setCell (p := ⟨w3.heap.size, 0, none⟩) (Nat.le_refl _) _).setCell (p := ⟨w3.heap.size, 1, none⟩) (Nat.le_refl _) _).setCell (p := ⟨w3.heap.size, 2, none⟩) (Nat.le_refl _) _).setCell (p := ⟨w3.heap.size, 3, none⟩) (Nat.le_refl _) _).setCell (p := ⟨w3.heap.size, 4, none⟩) (Nat.le_refl _) _
      have hP := FP.out.lt
      have hR := FR.out.lt
      have hM := FM.out.lt
      have FP : Hid (Bk V w.heap.size 75 #[.int .i64 n, .slice A x.tasks.length c]) := (hbl _ (by omega)).trans FP.out
      refine hK.out _ _ ⟨FP.out.cell 0, FP.out.cell 1⟩ (fun hHeld => ?_)
      clear hK K
      refine wpAnyH_done (by kernel_rfl) ?_ _
      go_wp2
      go_meet
      case rel => exact ⟨w3.heap.size, w5.heap.size, gc, c6, rfl, hbk, FM.out.keep (hbl _ (by omega)), FC.out.keep (hbl _ (by omega)), ⟨by omega, by omega, by omega, by omega, by omega, by omega⟩, FB.out.trans (hbe.mono (by omega))⟩
    ·
     refine step_intsG rfl (.tmp 18) (.tmp 19) rfl (w4.heap.size) 0 (by simp [Act.eval]) FE.out A3 c3 w.heap.size d (by simp [Act.eval]) (H3.out.below (B.out.trans (FB.out.mono B.out.size))) (by have := HD.out; omega) ?_
     intro v6 w6 hv6 hg h5
     obtain ⟨A6, c6, hv, o6⟩ := OwnI.of_v hv6
     subst hv
     obtain ⟨gc, hgc, yc1, hwc⟩ := o6 (by have := HD.out; omega)
     subst hgc
     have zw6 := hg.size
     have yc2 := hwc.lt
     have yP := FP.out.lt
     have FP := Lib.hid (FP.out.grown1 hg (by omega))
     have yR := FR.out.lt
     have FR := Lib.hid (FR.out.grown1 hg (by omega))
     have yL := FL.out.lt
     have FL := Lib.hid (FL.out.grown1 hg (by omega))
     have FB := Lib.hid (FB.out.trans (below_grown1 hg (by omega : w2.heap.size ≤ w4.heap.size) FB.out.size))
     have FC := Lib.hid hwc
     have yc3 : gc = w4.heap.size ∨ gc = w5.heap.size := h5.imp Option.some.inj Option.some.inj
     clear h5 hg hv6 o6 hwc FE
     refine hK.out _ _ ⟨FP.out.cell 0, FP.out.cell 1⟩ (fun hHeld => ?_)
     clear hK K
     refine wpAnyH_ready (rs := [2]) (by kernel_rfl) (by simp) ?_
     refine AllReadyH.cons rfl (fun K hK => ?_) AllReadyH.nil
     ·
      go_simp
      obtain ⟨w7, hV⟩ : ∃ V, V = World.alloc w6 (.cells (madeCells #[.int .i64 0] n) 3) := ⟨_, rfl⟩
      have hb : Below w6.heap.size w6 w7 := by rw [hV]; exact (Below.refl _ _).alloc (Nat.le_refl _) _
      have yw7 : w6.heap.size < w7.heap.size := by rw [hV]; simp
      have FP := Lib.hid (FP.out.later hb)
      have FR := Lib.hid (FR.out.later hb)
      have FL := Lib.hid (FL.out.later hb)
      have FC := Lib.hid (FC.out.later hb)
      have FB := Lib.hid (FB.out.trans (hb.mono FB.out.size))
      have zw7 := hb.size
      have FM : Hid (Wr w7 w6.heap.size 3 (iv (List.replicate n 0))) := by
       show Wr _ _ _ _
       have h := Wr.new w6 3 (madeCells #[.int .i64 0] n)
       rw [toList_madeCells_one] at h
       rw [hV, iv_rep]
       exact h
      rw [← hV]
      clear hV hb
      refine hK.out _ _ ⟨FP.out.cell 0, FP.out.cell 1⟩ (fun hHeld => ?_)
      clear hK K
      refine tk (i := 6) (v := ?_) rfl (.inl ⟨by rfl, ?_⟩) ?_
      rotate_left
      ·
       intro V hSw; (try dsimp only at hSw); go_simp; (try with_reducible rfl)
      simp only [sA, sB, sC, Act.put, sD, sE, sF]
      refine wpAnyH_ready (rs := [8]) (by kernel_rfl) (by simp) ?_
      refine AllReadyH.cons rfl (fun K hK => ?_) AllReadyH.nil
      have kL := fun i => FL.out.cell i
      have fL := fun i => FL.out.frozen i
      go_simp
      clear kL fL
      generalize hV : World.setCell (World.setCell (World.setCell (World.setCell (World.setCell w7 _ _) _ _) _ _) _ _) _ _ = V
      have hbk : Bk V w3.heap.size 43 #[.int .i64 1, .slice (some ⟨w6.heap.size, 0, none⟩) n n, .slice none 0 0, .slice (some ⟨gc, 0, none⟩) d.length c6, .slice none 0 0] := by rw [← hV]; exact ((((FL.out.set 0 _).set 1 _).set 2 _).set 3 _).set 4 _
      have hbl : ∀ b, b ≠ w3.heap.size → V.heap[b]? = w7.heap[b]? := fun b hb => by
       rw [← hV, Below.heap_setCell _ _ _ b hb, Below.heap_setCell _ _ _ b hb, Below.heap_setCell _ _ _ b hb, Below.heap_setCell _ _ _ b hb, Below.heap_setCell _ _ _ b hb]
      have hbe : Below w3.heap.size w7 V := by rw [← hV]; exact (((((Below.refl _ _).setCell (p := ⟨w3.heap.size, 0, none⟩) (Nat.le_refl _) _).setCell (p := ⟨w3.heap.size, 1, none⟩) (Nat.le_refl _) _).setCell (p := ⟨w3.heap.size, 2, none⟩) (Nat.le_refl _) _).setCell (p := ⟨w3.heap.size, 3, none⟩) (Nat.le_refl _) _).setCell (p := ⟨w3.heap.size, 4, none⟩) (Nat.le_refl _) _
      have hP := FP.out.lt
      have hR := FR.out.lt
      have hM := FM.out.lt
      have FP : Hid (Bk V w.heap.size 75 #[.int .i64 n, .slice A x.tasks.length c]) := (hbl _ (by omega)).trans FP.out
      refine hK.out _ _ ⟨FP.out.cell 0, FP.out.cell 1⟩ (fun hHeld => ?_)
      clear hK K
      refine wpAnyH_done (by kernel_rfl) ?_ _
      go_wp2
      go_meet
      case rel => exact ⟨w3.heap.size, w6.heap.size, gc, c6, rfl, hbk, FM.out.keep (hbl _ (by omega)), FC.out.keep (hbl _ (by omega)), ⟨by omega, by omega, by omega, by omega, by omega, by omega⟩, FB.out.trans (hbe.mono (by omega))⟩
 case rest =>
  obtain ⟨g5, gm, gc, c6, rfl, hbk, hwm, hwc, ⟨o1, o2, o3, o4, o5, o6⟩, hbc⟩ := hcut.out
  have hR := R0.out.lt
  have R1 : Hid (Bk wc (w.heap.size + 1) 43 #[.int .i64 0, .slice none 0 0, .slice none 0 0, .slice none 0 0, .slice none 0 0]) := (hbc.block _ hR).trans R0.out
  have BC := Lib.hid (B.out.trans (hbc.mono B.out.size))
  have G5 := Lib.hid hbk
  have WM := Lib.hid hwm
  have WC := Lib.hid hwc
  have lc := hwc.lt
  have lm := hwm.lt
  clear hcut hbk hwm hwc hbc R0 P0 k0 k1 f1 hmk
  have k5 := fun i => G5.out.cell i
  have k1 := fun i => R1.out.cell i
  have f1 := fun i => R1.out.frozen i
  have km : wc.cell? ⟨gm, 0, none⟩ = some (.int .i64 0) := WM.out.cell (by rw [iv_rep, List.getElem?_replicate, if_pos (by omega)])
  have fm := fun i => WM.out.frozen i
  have hn0 : (0 : Int) < (n : Int) := by omega
  have hn1 : 0 < n := by omega
  go_wp2
  generalize hV0 : World.setCell wc _ _ = V0
  have bR : Bk V0 (w.heap.size + 1) 43 #[.int .i64 0, .slice none 0 0, .slice none 0 0, .slice none 0 0, .slice none 0 0] := by rw [← hV0]; exact R1.out.far (p := ⟨gm, 0, none⟩) (by show w.heap.size + 1 ≠ gm; omega) _
  have wm : Wr V0 gm 3 (iv ((List.replicate n 0).set 0 1)) := by rw [← hV0, ← iv_set]; exact WM.out.set 0 _
  have wcc : Wr V0 gc 3 (iv d) := by rw [← hV0]; exact WC.out.far (p := ⟨gm, 0, none⟩) (fun h => o6 h.symm) _
  have bB : Below w.heap.size w V0 := by rw [← hV0]; exact BC.out.setCell (p := ⟨gm, 0, none⟩) (by show w.heap.size ≤ gm; omega) _
  generalize hV : World.setCell (World.setCell (World.setCell (World.setCell (World.setCell V0 _ _) _ _) _ _) _ _) _ _ = V
  have hbk : Bk V (w.heap.size + 1) 43 #[.int .i64 1, .slice (some ⟨gm, 0, none⟩) n n, .slice none 0 0, .slice (some ⟨gc, 0, none⟩) d.length c6, .slice none 0 0] := by rw [← hV]; exact ((((bR.set 0 _).set 1 _).set 2 _).set 3 _).set 4 _
  have hbl : ∀ b, b ≠ w.heap.size + 1 → V.heap[b]? = V0.heap[b]? := fun b hb => by
   rw [← hV, Below.heap_setCell _ _ _ b hb, Below.heap_setCell _ _ _ b hb, Below.heap_setCell _ _ _ b hb, Below.heap_setCell _ _ _ b hb, Below.heap_setCell _ _ _ b hb]
  have hbe : Below w.heap.size w V := by rw [← hV]; exact ((((bB.setCell (Nat.le_succ _) _).setCell (Nat.le_succ _) _).setCell (Nat.le_succ _) _).setCell (Nat.le_succ _) _).setCell (Nat.le_succ _) _
  have wm' := wm.keep (hbl gm (by omega))
  have wc' := wcc.keep (hbl gc (by omega))
  have lgm := wm'.lt
  have lgc := wc'.lt
  clear hV hV0 k1 f1 k5 km fm
  have k1 := fun i => hbk.cell i
  refine bodyPost_ret (v := .agg #[.int .i64 1, .slice (some ⟨gm, 0, none⟩) n n, .slice none 0 0, .slice (some ⟨gc, 0, none⟩) d.length c6, .slice none 0 0]) (by simp [results, Try.results60, go_sem, k1]) rfl ?_
  exact ⟨some ⟨gm, 0, none⟩, n, some ⟨gc, 0, none⟩, c6, by rw [HE.out]; simp, by rw [HE.out]; exact ⟨gm, gc, ⟨by omega, lgm, by omega, lgc, o6, Nat.le_refl _⟩, fun _ => ⟨rfl, wm'⟩, fun _ => ⟨rfl, wc'⟩⟩, hbe⟩
end Go.Proofs.Ytjieilicjdoaaaa

/- Plain laws of a case at its beginning; new cases compared (guCase); the sum of marks. -/
namespace Go.Proofs.Ytjieilicjdoaaaa
open Go.RowKit
open List renaming getElem_toArray → sA, getElem_cons_succ → sB, getElem_cons_zero → sC, setIfInBounds_toArray → sD, set_cons_zero → sE, set_cons_succ → sF
set_option linter.unusedSimpArgs false
set_option linter.unusedVariables false

end Go.Proofs.Ytjieilicjdoaaaa

