/- The states of spec.l6Copy's region. -/
import Derived.Test.YtjieilicjdoaaaaGBase
import Derived.Test.YtjieilicjdoaaaaGCopy
import Derived.Test.YtjieilicjdoaaaaCasOk
import Derived.Test.YtjieilicjdoaaaaBusySt1
import Derived.Deep.RegionHeld3
namespace Go.Proofs.Ytjieilicjdoaaaa
open Go.RowKit
set_option linter.unusedSimpArgs false
set_option linter.unusedVariables false

theorem kept_put {base : Nat} {w : World} (p : Addr) (hp : p.block < base) (u : Value) : Kept base w (w.setCell p u) :=
 ⟨by simp [World.setCell], fun b _ hb => Below.heap_setCell w p u b (by omega)⟩
theorem kept_trans {base : Nat} {a b c : World} (h1 : Kept base a b) (h2 : Kept base b c) : Kept base a c :=
 ⟨Nat.le_trans h1.1 h2.1, fun q hq hb => (h2.2 q (Nat.lt_of_lt_of_le hq h1.1) hb).trans (h1.2 q hq hb)⟩

/-- What the end must give. -/
def EndC (Q : Exit → Act → World → Prop) (y : GCase) (wd : World) (P Z : Nat) (u0 : Value) : Prop :=
 ∀ (m3 m4 m5 m6 m7 m8 m9 m10 m11 m12 m13 m14 m15 m16 m17 m18 m19 m20 m21 : Value) (w7 : World) (D1 D2 D3 D4 : Option Addr) (j1 j2 j3 j4 : Nat), Bk w7 Z 43 #[.int .i64 y.state, .slice D1 y.marks.length j1, .slice D2 y.busy.length j2, .slice D3 y.data.length j3, .slice D4 y.did.length j4] → OwnC intC 3 w7 wd.heap.size (.slice D1 y.marks.length j1) y.marks → OwnC itemC 111 w7 wd.heap.size (.slice D2 y.busy.length j2) y.busy → OwnC intC 3 w7 wd.heap.size (.slice D3 y.data.length j3) y.data → OwnC didC 53 w7 wd.heap.size (.slice D4 y.did.length j4) y.did → Value.ownBlock (.slice D1 y.marks.length j1) ≠ Value.ownBlock (.slice D2 y.busy.length j2) → Value.ownBlock (.slice D1 y.marks.length j1) ≠ Value.ownBlock (.slice D4 y.did.length j4) → Value.ownBlock (.slice D2 y.busy.length j2) ≠ Value.ownBlock (.slice D3 y.data.length j3) → Value.ownBlock (.slice D2 y.busy.length j2) ≠ Value.ownBlock (.slice D4 y.did.length j4) → Below Z wd w7 → wd.heap.size ≤ w7.heap.size → Q .normal { tmps := List.toArray (u0 :: .pointer (some ⟨P, 0, none⟩) :: .pointer (some ⟨Z, 0, none⟩) :: m3 :: m4 :: m5 :: m6 :: m7 :: m8 :: m9 :: m10 :: m11 :: m12 :: m13 :: m14 :: m15 :: m16 :: m17 :: m18 :: m19 :: m20 :: m21 :: []), defers := [] } w7

set_option maxRecDepth 100000 in
set_option maxHeartbeats 4000000 in
theorem cp6_1234_4 (ops : Array Oper) (hops : regionIn 1 Try.f77.body = some ops) (Q : Exit → Act → World → Prop) (S : World → Prop) {y : GCase} {A1 A2 A3 A4 : Option Addr} {c1 c2 c3 c4 : Nat} {m1 m2 m3 m4 : Option Nat} {wd v : World} {P Z : Nat} {u0 u3 u6 u10 u14 u18 u21 : Value} {g1 g2 g3 g4 : Nat} {V1 V2 V3 V4 : Value}
  (hpan : PanQ Q)
  (hQ : EndC Q y wd P Z u0)
  (R1 : Rows intC m1 wd wd.heap.size A1 y.marks) (l1 : y.marks.length ≤ 1000)
  (R2 : Rows itemC m2 wd wd.heap.size A2 y.busy) (l2 : y.busy.length ≤ 1000)
  (R3 : Rows intC m3 wd wd.heap.size A3 y.data) (l3 : y.data.length ≤ 1000)
  (R4 : Rows didC m4 wd wd.heap.size A4 y.did) (l4 : y.did.length ≤ 1000)
  (hS : ∀ V : World, Below Z wd V → S V) (BZ : Bk wd Z 43 #[.int .i64 0, .slice none 0 0, .slice none 0 0, .slice none 0 0, .slice none 0 0]) (HB : Below wd.heap.size wd v)
  (O1 : OwnC intC 3 v wd.heap.size V1 y.marks)
  (O2 : OwnC itemC 111 v wd.heap.size V2 y.busy)
  (O3 : OwnC intC 3 v wd.heap.size V3 y.data)
  (O4 : OwnC didC 53 v wd.heap.size V4 y.did)
  (D12 : Value.ownBlock V1 ≠ Value.ownBlock V2)
  (D14 : Value.ownBlock V1 ≠ Value.ownBlock V4)
  (D23 : Value.ownBlock V2 ≠ Value.ownBlock V3)
  (D24 : Value.ownBlock V2 ≠ Value.ownBlock V4)
  (listed : Array Bool) (hl : listed = #[true, true, true, true, true, true, true, true, true, true, true, true, true, true, true, true, true, true, false, false]) :
  wpAnyH Try.prog .any ops Q S 2 listed { tmps := List.toArray (u0 :: .pointer (some ⟨P, 0, none⟩) :: .pointer (some ⟨Z, 0, none⟩) :: u3 :: .int .i64 y.state :: .slice (some ⟨g1, 0, none⟩) 0 0 :: u6 :: .slice A1 y.marks.length c1 :: V1 :: .slice (some ⟨g2, 0, none⟩) 0 0 :: u10 :: .slice A2 y.busy.length c2 :: V2 :: .slice (some ⟨g3, 0, none⟩) 0 0 :: u14 :: .slice A3 y.data.length c3 :: V3 :: .slice (some ⟨g4, 0, none⟩) 0 0 :: u18 :: .slice A4 y.did.length c4 :: V4 :: u21 :: []), defers := [] } v := by
 obtain rfl := Option.some.inj (hops.symm.trans (rfl : regionIn 1 Try.f77.body = some _))
 have HOPS := Lib.hid hops
 have HQ := Lib.hid hQ
 have HPAN := Lib.hid hpan
 have HZ := Lib.hid BZ.lt
 have BZ := Lib.hid BZ
 have HB := Lib.hid HB
 have HS := Lib.hid hS
 have R1 := Lib.hid R1
 have R2 := Lib.hid R2
 have R3 := Lib.hid R3
 have R4 := Lib.hid R4
 have O1 := Lib.hid O1
 have O2 := Lib.hid O2
 have O3 := Lib.hid O3
 have O4 := Lib.hid O4
 clear hops hQ hpan hS
 subst hl
 have hHeld : S v := HS.out _ (HB.out.mono (Nat.le_of_lt BZ.out.lt))
 obtain ⟨E1, j1, rfl, _⟩ := O1.out.rows (by omega)
 obtain ⟨E2, j2, rfl, _⟩ := O2.out.rows (by omega)
 obtain ⟨E3, j3, rfl, _⟩ := O3.out.rows (by omega)
 obtain ⟨E4, j4, rfl, _⟩ := O4.out.rows (by omega)
 refine wpAnyH_take (i := 18) (v := ?_) rfl (by kernel_rfl) (by kernel_rfl) (by kernel_rfl) (fun _ _ _ h => HPAN.out _ _ _ _ _ h) (Or.inl ⟨by rfl, ?_⟩) (by assumption) ?_
 rotate_left
 ·
  intro V hSw; (try dsimp only at hSw); go_simp; (try with_reducible rfl)
 simp only [List.getElem_toArray, List.getElem_cons_succ, List.getElem_cons_zero, Act.put, List.setIfInBounds_toArray, List.set_cons_zero, List.set_cons_succ]
 have BZ := Lib.hid (BZ.out.later HB.out)
 have kZ := fun i => BZ.out.cell i
 have fZ := fun i => BZ.out.frozen i
 refine wpAnyH_ready (rs := [19]) (by kernel_rfl) (by simp) ?_
 refine AllReadyH.cons rfl (fun K hK => ?_) AllReadyH.nil
 go_simp
 generalize hV : World.setCell (World.setCell (World.setCell (World.setCell (World.setCell v _ _) _ _) _ _) _ _) _ _ = V
 have hbk : Bk V Z 43 #[.int .i64 y.state, .slice E1 y.marks.length j1, .slice E2 y.busy.length j2, .slice E3 y.data.length j3, .slice E4 y.did.length j4] := by rw [← hV]; exact ((((BZ.out.set 0 _).set 1 _).set 2 _).set 3 _).set 4 _
 have hZl : Z < wd.heap.size := HZ.out
 have hke : Kept wd.heap.size v V := by
  rw [← hV]
  exact kept_trans (kept_trans (kept_trans (kept_trans (kept_put ⟨Z, 0, none⟩ hZl _) (kept_put ⟨Z, 1, none⟩ hZl _)) (kept_put ⟨Z, 2, none⟩ hZl _)) (kept_put ⟨Z, 3, none⟩ hZl _)) (kept_put ⟨Z, 4, none⟩ hZl _)
 have hbe : Below Z wd V := by
  have h0 : Below Z wd v := HB.out.mono (by omega)
  rw [← hV]
  exact ((((h0.setCell (p := ⟨Z, 0, none⟩) (Nat.le_refl _) _).setCell (p := ⟨Z, 1, none⟩) (Nat.le_refl _) _).setCell (p := ⟨Z, 2, none⟩) (Nat.le_refl _) _).setCell (p := ⟨Z, 3, none⟩) (Nat.le_refl _) _).setCell (p := ⟨Z, 4, none⟩) (Nat.le_refl _) _
 have hsz : wd.heap.size ≤ V.heap.size := Nat.le_trans HB.out.size hke.1
 have O1 := Lib.hid (O1.out.kept hke)
 have O2 := Lib.hid (O2.out.kept hke)
 have O3 := Lib.hid (O3.out.kept hke)
 have O4 := Lib.hid (O4.out.kept hke)
 clear hV kZ fZ hke BZ
 refine hK.out _ _ (HS.out _ hbe) (fun hHeld => ?_)
 clear hK K
 refine wpAnyH_done (by kernel_rfl) ?_ _
 exact HQ.out _ _ _ _ _ _ _ _ _ _ _ _ _ _ _ _ _ _ _ _ _ _ _ _ _ _ _ _ hbk O1.out O2.out O3.out O4.out D12 D14 D23 D24 hbe hsz

set_option maxRecDepth 100000 in
set_option maxHeartbeats 4000000 in
theorem cp6_1234_3 (ops : Array Oper) (hops : regionIn 1 Try.f77.body = some ops) (Q : Exit → Act → World → Prop) (S : World → Prop) {y : GCase} {A1 A2 A3 A4 : Option Addr} {c1 c2 c3 c4 : Nat} {m1 m2 m3 m4 : Option Nat} {wd v : World} {P Z : Nat} {u0 u3 u6 u10 u14 u18 u20 u21 : Value} {g1 g2 g3 g4 : Nat} {V1 V2 V3 : Value}
  (hpan : PanQ Q)
  (hQ : EndC Q y wd P Z u0)
  (R1 : Rows intC m1 wd wd.heap.size A1 y.marks) (l1 : y.marks.length ≤ 1000)
  (R2 : Rows itemC m2 wd wd.heap.size A2 y.busy) (l2 : y.busy.length ≤ 1000)
  (R3 : Rows intC m3 wd wd.heap.size A3 y.data) (l3 : y.data.length ≤ 1000)
  (R4 : Rows didC m4 wd wd.heap.size A4 y.did) (l4 : y.did.length ≤ 1000)
  (hS : ∀ V : World, Below Z wd V → S V) (BZ : Bk wd Z 43 #[.int .i64 0, .slice none 0 0, .slice none 0 0, .slice none 0 0, .slice none 0 0]) (HB : Below wd.heap.size wd v)
  (O1 : OwnC intC 3 v wd.heap.size V1 y.marks)
  (O2 : OwnC itemC 111 v wd.heap.size V2 y.busy)
  (O3 : OwnC intC 3 v wd.heap.size V3 y.data)
  (F4 : Bk v g4 53 #[]) (yg4 : wd.heap.size ≤ g4)
  (D12 : Value.ownBlock V1 ≠ Value.ownBlock V2)
  (D14 : Value.ownBlock V1 ≠ Value.ownBlock (Value.slice (some ⟨g4, 0, none⟩) 0 0))
  (D23 : Value.ownBlock V2 ≠ Value.ownBlock V3)
  (D24 : Value.ownBlock V2 ≠ Value.ownBlock (Value.slice (some ⟨g4, 0, none⟩) 0 0))
  (listed : Array Bool) (hl : listed = #[true, true, true, true, true, true, true, true, true, true, true, true, true, true, true, true, true, false, false, false]) :
  wpAnyH Try.prog .any ops Q S 3 listed { tmps := List.toArray (u0 :: .pointer (some ⟨P, 0, none⟩) :: .pointer (some ⟨Z, 0, none⟩) :: u3 :: .int .i64 y.state :: .slice (some ⟨g1, 0, none⟩) 0 0 :: u6 :: .slice A1 y.marks.length c1 :: V1 :: .slice (some ⟨g2, 0, none⟩) 0 0 :: u10 :: .slice A2 y.busy.length c2 :: V2 :: .slice (some ⟨g3, 0, none⟩) 0 0 :: u14 :: .slice A3 y.data.length c3 :: V3 :: .slice (some ⟨g4, 0, none⟩) 0 0 :: u18 :: .slice A4 y.did.length c4 :: u20 :: u21 :: []), defers := [] } v := by
 obtain rfl := Option.some.inj (hops.symm.trans (rfl : regionIn 1 Try.f77.body = some _))
 have HOPS := Lib.hid hops
 have HQ := Lib.hid hQ
 have HPAN := Lib.hid hpan
 have BZ := Lib.hid BZ
 have HB := Lib.hid HB
 have HS := Lib.hid hS
 have R1 := Lib.hid R1
 have R2 := Lib.hid R2
 have R3 := Lib.hid R3
 have R4 := Lib.hid R4
 have O1 := Lib.hid O1
 have O2 := Lib.hid O2
 have O3 := Lib.hid O3
 have F4 := Lib.hid F4
 clear hops hQ hpan hS
 subst hl
 have hHeld : S v := HS.out _ (HB.out.mono (Nat.le_of_lt BZ.out.lt))
 refine wpAnyH_ready (rs := [17]) (by kernel_rfl) (by simp) ?_
 refine AllReadyH.cons rfl (fun K hK => ?_) AllReadyH.nil
 ·
  refine step_lit (cells := GDid.cells) (hk := fun _ => rfl) rfl (.tmp 17) (.tmp 19) 41 rfl 53 _ 16 Try.underlying41 info_did rfl (by decide) (by decide) (fun x u hu => by simp [GDid.cells] at hu; rcases hu with rfl | rfl <;> rfl) g4 wd.heap.size yg4 F4.out rfl A4 c4 wd.heap.size m4 y.did rfl (R4.out.below HB.out) l4 ?_
  intro V4 v1 ho hb hw
  have D14 : Value.ownBlock V1 ≠ Value.ownBlock V4 := fun h => by
   have h := h.symm
   rcases hw with hw | hw
   ·
    rw [hw] at h
    exact D14 h.symm
   ·
    rw [hw] at h
    have := (O1.out.lt v.heap.size h.symm).2
    omega
  have D24 : Value.ownBlock V2 ≠ Value.ownBlock V4 := fun h => by
   have h := h.symm
   rcases hw with hw | hw
   ·
    rw [hw] at h
    exact D24 h.symm
   ·
    rw [hw] at h
    have := (O2.out.lt v.heap.size h.symm).2
    omega
  have O4 := Lib.hid ho
  have O1 := Lib.hid (O1.out.later hb)
  have O2 := Lib.hid (O2.out.later hb)
  have O3 := Lib.hid (O3.out.later hb)
  have HB := Lib.hid (HB.out.trans (hb.mono HB.out.size))
  clear ho hb hw F4
  refine hK.out _ _ (HS.out _ (HB.out.mono (Nat.le_of_lt BZ.out.lt))) (fun hHeld => ?_)
  clear hK K
  exact cp6_1234_4 _ HOPS.out _ _ HPAN.out HQ.out R1.out l1 R2.out l2 R3.out l3 R4.out l4 HS.out BZ.out HB.out O1.out O2.out O3.out O4.out D12 D14 D23 D24 _ (by kernel_rfl)

set_option maxRecDepth 100000 in
set_option maxHeartbeats 4000000 in
theorem cp6_123_3 (ops : Array Oper) (hops : regionIn 1 Try.f77.body = some ops) (Q : Exit → Act → World → Prop) (S : World → Prop) {y : GCase} {A1 A2 A3 A4 : Option Addr} {c1 c2 c3 c4 : Nat} {m1 m2 m3 m4 : Option Nat} {wd v : World} {P Z : Nat} {u0 u3 u6 u10 u14 u17 u18 u20 u21 : Value} {g1 g2 g3 : Nat} {V1 V2 V3 : Value}
  (hpan : PanQ Q)
  (hQ : EndC Q y wd P Z u0)
  (R1 : Rows intC m1 wd wd.heap.size A1 y.marks) (l1 : y.marks.length ≤ 1000)
  (R2 : Rows itemC m2 wd wd.heap.size A2 y.busy) (l2 : y.busy.length ≤ 1000)
  (R3 : Rows intC m3 wd wd.heap.size A3 y.data) (l3 : y.data.length ≤ 1000)
  (R4 : Rows didC m4 wd wd.heap.size A4 y.did) (l4 : y.did.length ≤ 1000)
  (hS : ∀ V : World, Below Z wd V → S V) (BZ : Bk wd Z 43 #[.int .i64 0, .slice none 0 0, .slice none 0 0, .slice none 0 0, .slice none 0 0]) (HB : Below wd.heap.size wd v)
  (O1 : OwnC intC 3 v wd.heap.size V1 y.marks)
  (O2 : OwnC itemC 111 v wd.heap.size V2 y.busy)
  (O3 : OwnC intC 3 v wd.heap.size V3 y.data)
  (D12 : Value.ownBlock V1 ≠ Value.ownBlock V2)
  (D23 : Value.ownBlock V2 ≠ Value.ownBlock V3)
  (listed : Array Bool) (hl : listed = #[true, true, true, true, true, true, true, true, true, true, true, true, true, true, false, true, true, false, false, false]) :
  wpAnyH Try.prog .any ops Q S 4 listed { tmps := List.toArray (u0 :: .pointer (some ⟨P, 0, none⟩) :: .pointer (some ⟨Z, 0, none⟩) :: u3 :: .int .i64 y.state :: .slice (some ⟨g1, 0, none⟩) 0 0 :: u6 :: .slice A1 y.marks.length c1 :: V1 :: .slice (some ⟨g2, 0, none⟩) 0 0 :: u10 :: .slice A2 y.busy.length c2 :: V2 :: .slice (some ⟨g3, 0, none⟩) 0 0 :: u14 :: .slice A3 y.data.length c3 :: V3 :: u17 :: u18 :: .slice A4 y.did.length c4 :: u20 :: u21 :: []), defers := [] } v := by
 obtain rfl := Option.some.inj (hops.symm.trans (rfl : regionIn 1 Try.f77.body = some _))
 have HOPS := Lib.hid hops
 have HQ := Lib.hid hQ
 have HPAN := Lib.hid hpan
 have BZ := Lib.hid BZ
 have HB := Lib.hid HB
 have HS := Lib.hid hS
 have R1 := Lib.hid R1
 have R2 := Lib.hid R2
 have R3 := Lib.hid R3
 have R4 := Lib.hid R4
 have O1 := Lib.hid O1
 have O2 := Lib.hid O2
 have O3 := Lib.hid O3
 clear hops hQ hpan hS
 subst hl
 have hHeld : S v := HS.out _ (HB.out.mono (Nat.le_of_lt BZ.out.lt))
 refine wpAnyH_ready (rs := [14]) (by kernel_rfl) (by simp) ?_
 refine AllReadyH.cons rfl (fun K hK => ?_) AllReadyH.nil
 ·
  go_simp
  obtain ⟨v1, hV⟩ : ∃ V, V = World.alloc v (.cells #[] 53) := ⟨_, rfl⟩
  have hb : Below v.heap.size v v1 := by rw [hV]; exact (Below.refl _ _).alloc (Nat.le_refl _) _
  obtain ⟨g4, hg4⟩ : ∃ g, g = v.heap.size := ⟨_, rfl⟩
  have D14 : Value.ownBlock V1 ≠ Value.ownBlock (Value.slice (some ⟨g4, 0, none⟩) 0 0) := fun h => by have := (O1.out.lt g4 (h)).2; omega
  have D24 : Value.ownBlock V2 ≠ Value.ownBlock (Value.slice (some ⟨g4, 0, none⟩) 0 0) := fun h => by have := (O2.out.lt g4 (h)).2; omega
  have F4 : Hid (Bk v1 g4 53 #[]) := by show Bk _ _ _ _; rw [hV, hg4]; exact Bk.new rfl
  have O1 := Lib.hid (O1.out.later hb)
  have O2 := Lib.hid (O2.out.later hb)
  have O3 := Lib.hid (O3.out.later hb)
  have yg4 : wd.heap.size ≤ g4 := by have := HB.out.size; omega
  have HB := Lib.hid (HB.out.trans (hb.mono HB.out.size))
  rw [← hV, ← hg4]
  clear hV hb hg4
  refine hK.out _ _ (HS.out _ (HB.out.mono (Nat.le_of_lt BZ.out.lt))) (fun hHeld => ?_)
  clear hK K
  exact cp6_1234_3 _ HOPS.out _ _ HPAN.out HQ.out R1.out l1 R2.out l2 R3.out l3 R4.out l4 HS.out BZ.out HB.out O1.out O2.out O3.out F4.out yg4 D12 D14 D23 D24 _ (by kernel_rfl)

set_option maxRecDepth 100000 in
set_option maxHeartbeats 4000000 in
theorem cp6_1234_2 (ops : Array Oper) (hops : regionIn 1 Try.f77.body = some ops) (Q : Exit → Act → World → Prop) (S : World → Prop) {y : GCase} {A1 A2 A3 A4 : Option Addr} {c1 c2 c3 c4 : Nat} {m1 m2 m3 m4 : Option Nat} {wd v : World} {P Z : Nat} {u0 u3 u6 u10 u14 u16 u18 u20 u21 : Value} {g1 g2 g3 g4 : Nat} {V1 V2 : Value}
  (hpan : PanQ Q)
  (hQ : EndC Q y wd P Z u0)
  (R1 : Rows intC m1 wd wd.heap.size A1 y.marks) (l1 : y.marks.length ≤ 1000)
  (R2 : Rows itemC m2 wd wd.heap.size A2 y.busy) (l2 : y.busy.length ≤ 1000)
  (R3 : Rows intC m3 wd wd.heap.size A3 y.data) (l3 : y.data.length ≤ 1000)
  (R4 : Rows didC m4 wd wd.heap.size A4 y.did) (l4 : y.did.length ≤ 1000)
  (hS : ∀ V : World, Below Z wd V → S V) (BZ : Bk wd Z 43 #[.int .i64 0, .slice none 0 0, .slice none 0 0, .slice none 0 0, .slice none 0 0]) (HB : Below wd.heap.size wd v)
  (O1 : OwnC intC 3 v wd.heap.size V1 y.marks)
  (O2 : OwnC itemC 111 v wd.heap.size V2 y.busy)
  (F3 : Bk v g3 3 #[]) (yg3 : wd.heap.size ≤ g3)
  (F4 : Bk v g4 53 #[]) (yg4 : wd.heap.size ≤ g4)
  (D12 : Value.ownBlock V1 ≠ Value.ownBlock V2)
  (D14 : Value.ownBlock V1 ≠ Value.ownBlock (Value.slice (some ⟨g4, 0, none⟩) 0 0))
  (D23 : Value.ownBlock V2 ≠ Value.ownBlock (Value.slice (some ⟨g3, 0, none⟩) 0 0))
  (D24 : Value.ownBlock V2 ≠ Value.ownBlock (Value.slice (some ⟨g4, 0, none⟩) 0 0))
  (listed : Array Bool) (hl : listed = #[true, true, true, true, true, true, true, true, true, true, true, true, true, false, true, true, true, false, false, false]) :
  wpAnyH Try.prog .any ops Q S 4 listed { tmps := List.toArray (u0 :: .pointer (some ⟨P, 0, none⟩) :: .pointer (some ⟨Z, 0, none⟩) :: u3 :: .int .i64 y.state :: .slice (some ⟨g1, 0, none⟩) 0 0 :: u6 :: .slice A1 y.marks.length c1 :: V1 :: .slice (some ⟨g2, 0, none⟩) 0 0 :: u10 :: .slice A2 y.busy.length c2 :: V2 :: .slice (some ⟨g3, 0, none⟩) 0 0 :: u14 :: .slice A3 y.data.length c3 :: u16 :: .slice (some ⟨g4, 0, none⟩) 0 0 :: u18 :: .slice A4 y.did.length c4 :: u20 :: u21 :: []), defers := [] } v := by
 obtain rfl := Option.some.inj (hops.symm.trans (rfl : regionIn 1 Try.f77.body = some _))
 have HOPS := Lib.hid hops
 have HQ := Lib.hid hQ
 have HPAN := Lib.hid hpan
 have BZ := Lib.hid BZ
 have HB := Lib.hid HB
 have HS := Lib.hid hS
 have R1 := Lib.hid R1
 have R2 := Lib.hid R2
 have R3 := Lib.hid R3
 have R4 := Lib.hid R4
 have O1 := Lib.hid O1
 have O2 := Lib.hid O2
 have F3 := Lib.hid F3
 have F4 := Lib.hid F4
 clear hops hQ hpan hS
 subst hl
 have hHeld : S v := HS.out _ (HB.out.mono (Nat.le_of_lt BZ.out.lt))
 refine wpAnyH_ready (rs := [13]) (by kernel_rfl) (by simp) ?_
 refine AllReadyH.cons rfl (fun K hK => ?_) AllReadyH.nil
 ·
  refine step_lit (cells := fun x : Int => [.int .i64 x]) (hk := fun _ => rfl) rfl (.tmp 13) (.tmp 15) 23 rfl 3 _ 8 Try.underlying23 info_int rfl (by decide) (by decide) (fun x u hu => by simp at hu; subst hu; rfl) g3 wd.heap.size yg3 F3.out rfl A3 c3 wd.heap.size m3 y.data rfl (R3.out.below HB.out) l3 ?_
  intro V3 v1 ho hb hw
  have D23 : Value.ownBlock V2 ≠ Value.ownBlock V3 := fun h => by
   have h := h.symm
   rcases hw with hw | hw
   ·
    rw [hw] at h
    exact D23 h.symm
   ·
    rw [hw] at h
    have := (O2.out.lt v.heap.size h.symm).2
    omega
  have O3 := Lib.hid ho
  have O1 := Lib.hid (O1.out.later hb)
  have O2 := Lib.hid (O2.out.later hb)
  have F4 := Lib.hid (F4.out.later hb)
  have HB := Lib.hid (HB.out.trans (hb.mono HB.out.size))
  clear ho hb hw F3
  refine hK.out _ _ (HS.out _ (HB.out.mono (Nat.le_of_lt BZ.out.lt))) (fun hHeld => ?_)
  clear hK K
  exact cp6_1234_3 _ HOPS.out _ _ HPAN.out HQ.out R1.out l1 R2.out l2 R3.out l3 R4.out l4 HS.out BZ.out HB.out O1.out O2.out O3.out F4.out yg4 D12 D14 D23 D24 _ (by kernel_rfl)

set_option maxRecDepth 100000 in
set_option maxHeartbeats 4000000 in
theorem cp6_123_2 (ops : Array Oper) (hops : regionIn 1 Try.f77.body = some ops) (Q : Exit → Act → World → Prop) (S : World → Prop) {y : GCase} {A1 A2 A3 A4 : Option Addr} {c1 c2 c3 c4 : Nat} {m1 m2 m3 m4 : Option Nat} {wd v : World} {P Z : Nat} {u0 u3 u6 u10 u14 u16 u17 u18 u20 u21 : Value} {g1 g2 g3 : Nat} {V1 V2 : Value}
  (hpan : PanQ Q)
  (hQ : EndC Q y wd P Z u0)
  (R1 : Rows intC m1 wd wd.heap.size A1 y.marks) (l1 : y.marks.length ≤ 1000)
  (R2 : Rows itemC m2 wd wd.heap.size A2 y.busy) (l2 : y.busy.length ≤ 1000)
  (R3 : Rows intC m3 wd wd.heap.size A3 y.data) (l3 : y.data.length ≤ 1000)
  (R4 : Rows didC m4 wd wd.heap.size A4 y.did) (l4 : y.did.length ≤ 1000)
  (hS : ∀ V : World, Below Z wd V → S V) (BZ : Bk wd Z 43 #[.int .i64 0, .slice none 0 0, .slice none 0 0, .slice none 0 0, .slice none 0 0]) (HB : Below wd.heap.size wd v)
  (O1 : OwnC intC 3 v wd.heap.size V1 y.marks)
  (O2 : OwnC itemC 111 v wd.heap.size V2 y.busy)
  (F3 : Bk v g3 3 #[]) (yg3 : wd.heap.size ≤ g3)
  (D12 : Value.ownBlock V1 ≠ Value.ownBlock V2)
  (D23 : Value.ownBlock V2 ≠ Value.ownBlock (Value.slice (some ⟨g3, 0, none⟩) 0 0))
  (listed : Array Bool) (hl : listed = #[true, true, true, true, true, true, true, true, true, true, true, true, true, false, false, true, true, false, false, false]) :
  wpAnyH Try.prog .any ops Q S 5 listed { tmps := List.toArray (u0 :: .pointer (some ⟨P, 0, none⟩) :: .pointer (some ⟨Z, 0, none⟩) :: u3 :: .int .i64 y.state :: .slice (some ⟨g1, 0, none⟩) 0 0 :: u6 :: .slice A1 y.marks.length c1 :: V1 :: .slice (some ⟨g2, 0, none⟩) 0 0 :: u10 :: .slice A2 y.busy.length c2 :: V2 :: .slice (some ⟨g3, 0, none⟩) 0 0 :: u14 :: .slice A3 y.data.length c3 :: u16 :: u17 :: u18 :: .slice A4 y.did.length c4 :: u20 :: u21 :: []), defers := [] } v := by
 obtain rfl := Option.some.inj (hops.symm.trans (rfl : regionIn 1 Try.f77.body = some _))
 have HOPS := Lib.hid hops
 have HQ := Lib.hid hQ
 have HPAN := Lib.hid hpan
 have BZ := Lib.hid BZ
 have HB := Lib.hid HB
 have HS := Lib.hid hS
 have R1 := Lib.hid R1
 have R2 := Lib.hid R2
 have R3 := Lib.hid R3
 have R4 := Lib.hid R4
 have O1 := Lib.hid O1
 have O2 := Lib.hid O2
 have F3 := Lib.hid F3
 clear hops hQ hpan hS
 subst hl
 have hHeld : S v := HS.out _ (HB.out.mono (Nat.le_of_lt BZ.out.lt))
 refine wpAnyH_ready (rs := [13, 14]) (by kernel_rfl) (by simp) ?_
 refine AllReadyH.cons rfl (fun K hK => ?_) (AllReadyH.cons rfl (fun K hK => ?_) AllReadyH.nil)
 ·
  refine step_lit (cells := fun x : Int => [.int .i64 x]) (hk := fun _ => rfl) rfl (.tmp 13) (.tmp 15) 23 rfl 3 _ 8 Try.underlying23 info_int rfl (by decide) (by decide) (fun x u hu => by simp at hu; subst hu; rfl) g3 wd.heap.size yg3 F3.out rfl A3 c3 wd.heap.size m3 y.data rfl (R3.out.below HB.out) l3 ?_
  intro V3 v1 ho hb hw
  have D23 : Value.ownBlock V2 ≠ Value.ownBlock V3 := fun h => by
   have h := h.symm
   rcases hw with hw | hw
   ·
    rw [hw] at h
    exact D23 h.symm
   ·
    rw [hw] at h
    have := (O2.out.lt v.heap.size h.symm).2
    omega
  have O3 := Lib.hid ho
  have O1 := Lib.hid (O1.out.later hb)
  have O2 := Lib.hid (O2.out.later hb)
  have HB := Lib.hid (HB.out.trans (hb.mono HB.out.size))
  clear ho hb hw F3
  refine hK.out _ _ (HS.out _ (HB.out.mono (Nat.le_of_lt BZ.out.lt))) (fun hHeld => ?_)
  clear hK K
  exact cp6_123_3 _ HOPS.out _ _ HPAN.out HQ.out R1.out l1 R2.out l2 R3.out l3 R4.out l4 HS.out BZ.out HB.out O1.out O2.out O3.out D12 D23 _ (by kernel_rfl)
 ·
  go_simp
  obtain ⟨v1, hV⟩ : ∃ V, V = World.alloc v (.cells #[] 53) := ⟨_, rfl⟩
  have hb : Below v.heap.size v v1 := by rw [hV]; exact (Below.refl _ _).alloc (Nat.le_refl _) _
  obtain ⟨g4, hg4⟩ : ∃ g, g = v.heap.size := ⟨_, rfl⟩
  have D14 : Value.ownBlock V1 ≠ Value.ownBlock (Value.slice (some ⟨g4, 0, none⟩) 0 0) := fun h => by have := (O1.out.lt g4 (h)).2; omega
  have D24 : Value.ownBlock V2 ≠ Value.ownBlock (Value.slice (some ⟨g4, 0, none⟩) 0 0) := fun h => by have := (O2.out.lt g4 (h)).2; omega
  have F4 : Hid (Bk v1 g4 53 #[]) := by show Bk _ _ _ _; rw [hV, hg4]; exact Bk.new rfl
  have O1 := Lib.hid (O1.out.later hb)
  have O2 := Lib.hid (O2.out.later hb)
  have F3 := Lib.hid (F3.out.later hb)
  have yg4 : wd.heap.size ≤ g4 := by have := HB.out.size; omega
  have HB := Lib.hid (HB.out.trans (hb.mono HB.out.size))
  rw [← hV, ← hg4]
  clear hV hb hg4
  refine hK.out _ _ (HS.out _ (HB.out.mono (Nat.le_of_lt BZ.out.lt))) (fun hHeld => ?_)
  clear hK K
  exact cp6_1234_2 _ HOPS.out _ _ HPAN.out HQ.out R1.out l1 R2.out l2 R3.out l3 R4.out l4 HS.out BZ.out HB.out O1.out O2.out F3.out yg3 F4.out yg4 D12 D14 D23 D24 _ (by kernel_rfl)

set_option maxRecDepth 100000 in
set_option maxHeartbeats 4000000 in
theorem cp6_124_2 (ops : Array Oper) (hops : regionIn 1 Try.f77.body = some ops) (Q : Exit → Act → World → Prop) (S : World → Prop) {y : GCase} {A1 A2 A3 A4 : Option Addr} {c1 c2 c3 c4 : Nat} {m1 m2 m3 m4 : Option Nat} {wd v : World} {P Z : Nat} {u0 u3 u6 u10 u13 u14 u16 u18 u20 u21 : Value} {g1 g2 g4 : Nat} {V1 V2 : Value}
  (hpan : PanQ Q)
  (hQ : EndC Q y wd P Z u0)
  (R1 : Rows intC m1 wd wd.heap.size A1 y.marks) (l1 : y.marks.length ≤ 1000)
  (R2 : Rows itemC m2 wd wd.heap.size A2 y.busy) (l2 : y.busy.length ≤ 1000)
  (R3 : Rows intC m3 wd wd.heap.size A3 y.data) (l3 : y.data.length ≤ 1000)
  (R4 : Rows didC m4 wd wd.heap.size A4 y.did) (l4 : y.did.length ≤ 1000)
  (hS : ∀ V : World, Below Z wd V → S V) (BZ : Bk wd Z 43 #[.int .i64 0, .slice none 0 0, .slice none 0 0, .slice none 0 0, .slice none 0 0]) (HB : Below wd.heap.size wd v)
  (O1 : OwnC intC 3 v wd.heap.size V1 y.marks)
  (O2 : OwnC itemC 111 v wd.heap.size V2 y.busy)
  (F4 : Bk v g4 53 #[]) (yg4 : wd.heap.size ≤ g4)
  (D12 : Value.ownBlock V1 ≠ Value.ownBlock V2)
  (D14 : Value.ownBlock V1 ≠ Value.ownBlock (Value.slice (some ⟨g4, 0, none⟩) 0 0))
  (D24 : Value.ownBlock V2 ≠ Value.ownBlock (Value.slice (some ⟨g4, 0, none⟩) 0 0))
  (listed : Array Bool) (hl : listed = #[true, true, true, true, true, true, true, true, true, true, false, true, true, false, true, true, true, false, false, false]) :
  wpAnyH Try.prog .any ops Q S 5 listed { tmps := List.toArray (u0 :: .pointer (some ⟨P, 0, none⟩) :: .pointer (some ⟨Z, 0, none⟩) :: u3 :: .int .i64 y.state :: .slice (some ⟨g1, 0, none⟩) 0 0 :: u6 :: .slice A1 y.marks.length c1 :: V1 :: .slice (some ⟨g2, 0, none⟩) 0 0 :: u10 :: .slice A2 y.busy.length c2 :: V2 :: u13 :: u14 :: .slice A3 y.data.length c3 :: u16 :: .slice (some ⟨g4, 0, none⟩) 0 0 :: u18 :: .slice A4 y.did.length c4 :: u20 :: u21 :: []), defers := [] } v := by
 obtain rfl := Option.some.inj (hops.symm.trans (rfl : regionIn 1 Try.f77.body = some _))
 have HOPS := Lib.hid hops
 have HQ := Lib.hid hQ
 have HPAN := Lib.hid hpan
 have BZ := Lib.hid BZ
 have HB := Lib.hid HB
 have HS := Lib.hid hS
 have R1 := Lib.hid R1
 have R2 := Lib.hid R2
 have R3 := Lib.hid R3
 have R4 := Lib.hid R4
 have O1 := Lib.hid O1
 have O2 := Lib.hid O2
 have F4 := Lib.hid F4
 clear hops hQ hpan hS
 subst hl
 have hHeld : S v := HS.out _ (HB.out.mono (Nat.le_of_lt BZ.out.lt))
 refine wpAnyH_ready (rs := [10]) (by kernel_rfl) (by simp) ?_
 refine AllReadyH.cons rfl (fun K hK => ?_) AllReadyH.nil
 ·
  go_simp
  obtain ⟨v1, hV⟩ : ∃ V, V = World.alloc v (.cells #[] 3) := ⟨_, rfl⟩
  have hb : Below v.heap.size v v1 := by rw [hV]; exact (Below.refl _ _).alloc (Nat.le_refl _) _
  obtain ⟨g3, hg3⟩ : ∃ g, g = v.heap.size := ⟨_, rfl⟩
  have D23 : Value.ownBlock V2 ≠ Value.ownBlock (Value.slice (some ⟨g3, 0, none⟩) 0 0) := fun h => by have := (O2.out.lt g3 (h)).2; omega
  have F3 : Hid (Bk v1 g3 3 #[]) := by show Bk _ _ _ _; rw [hV, hg3]; exact Bk.new rfl
  have O1 := Lib.hid (O1.out.later hb)
  have O2 := Lib.hid (O2.out.later hb)
  have F4 := Lib.hid (F4.out.later hb)
  have yg3 : wd.heap.size ≤ g3 := by have := HB.out.size; omega
  have HB := Lib.hid (HB.out.trans (hb.mono HB.out.size))
  rw [← hV, ← hg3]
  clear hV hb hg3
  refine hK.out _ _ (HS.out _ (HB.out.mono (Nat.le_of_lt BZ.out.lt))) (fun hHeld => ?_)
  clear hK K
  exact cp6_1234_2 _ HOPS.out _ _ HPAN.out HQ.out R1.out l1 R2.out l2 R3.out l3 R4.out l4 HS.out BZ.out HB.out O1.out O2.out F3.out yg3 F4.out yg4 D12 D14 D23 D24 _ (by kernel_rfl)

set_option maxRecDepth 100000 in
set_option maxHeartbeats 4000000 in
theorem cp6_1234_1 (ops : Array Oper) (hops : regionIn 1 Try.f77.body = some ops) (Q : Exit → Act → World → Prop) (S : World → Prop) {y : GCase} {A1 A2 A3 A4 : Option Addr} {c1 c2 c3 c4 : Nat} {m1 m2 m3 m4 : Option Nat} {wd v : World} {P Z : Nat} {u0 u3 u6 u10 u12 u14 u16 u18 u20 u21 : Value} {g1 g2 g3 g4 : Nat} {V1 : Value}
  (hpan : PanQ Q)
  (hQ : EndC Q y wd P Z u0)
  (R1 : Rows intC m1 wd wd.heap.size A1 y.marks) (l1 : y.marks.length ≤ 1000)
  (R2 : Rows itemC m2 wd wd.heap.size A2 y.busy) (l2 : y.busy.length ≤ 1000)
  (R3 : Rows intC m3 wd wd.heap.size A3 y.data) (l3 : y.data.length ≤ 1000)
  (R4 : Rows didC m4 wd wd.heap.size A4 y.did) (l4 : y.did.length ≤ 1000)
  (hS : ∀ V : World, Below Z wd V → S V) (BZ : Bk wd Z 43 #[.int .i64 0, .slice none 0 0, .slice none 0 0, .slice none 0 0, .slice none 0 0]) (HB : Below wd.heap.size wd v)
  (O1 : OwnC intC 3 v wd.heap.size V1 y.marks)
  (F2 : Bk v g2 111 #[]) (yg2 : wd.heap.size ≤ g2)
  (F3 : Bk v g3 3 #[]) (yg3 : wd.heap.size ≤ g3)
  (F4 : Bk v g4 53 #[]) (yg4 : wd.heap.size ≤ g4)
  (D12 : Value.ownBlock V1 ≠ Value.ownBlock (Value.slice (some ⟨g2, 0, none⟩) 0 0))
  (D14 : Value.ownBlock V1 ≠ Value.ownBlock (Value.slice (some ⟨g4, 0, none⟩) 0 0))
  (D23 : Value.ownBlock (Value.slice (some ⟨g2, 0, none⟩) 0 0) ≠ Value.ownBlock (Value.slice (some ⟨g3, 0, none⟩) 0 0))
  (D24 : Value.ownBlock (Value.slice (some ⟨g2, 0, none⟩) 0 0) ≠ Value.ownBlock (Value.slice (some ⟨g4, 0, none⟩) 0 0))
  (listed : Array Bool) (hl : listed = #[true, true, true, true, true, true, true, true, true, false, true, true, true, false, true, true, true, false, false, false]) :
  wpAnyH Try.prog .any ops Q S 5 listed { tmps := List.toArray (u0 :: .pointer (some ⟨P, 0, none⟩) :: .pointer (some ⟨Z, 0, none⟩) :: u3 :: .int .i64 y.state :: .slice (some ⟨g1, 0, none⟩) 0 0 :: u6 :: .slice A1 y.marks.length c1 :: V1 :: .slice (some ⟨g2, 0, none⟩) 0 0 :: u10 :: .slice A2 y.busy.length c2 :: u12 :: .slice (some ⟨g3, 0, none⟩) 0 0 :: u14 :: .slice A3 y.data.length c3 :: u16 :: .slice (some ⟨g4, 0, none⟩) 0 0 :: u18 :: .slice A4 y.did.length c4 :: u20 :: u21 :: []), defers := [] } v := by
 obtain rfl := Option.some.inj (hops.symm.trans (rfl : regionIn 1 Try.f77.body = some _))
 have HOPS := Lib.hid hops
 have HQ := Lib.hid hQ
 have HPAN := Lib.hid hpan
 have BZ := Lib.hid BZ
 have HB := Lib.hid HB
 have HS := Lib.hid hS
 have R1 := Lib.hid R1
 have R2 := Lib.hid R2
 have R3 := Lib.hid R3
 have R4 := Lib.hid R4
 have O1 := Lib.hid O1
 have F2 := Lib.hid F2
 have F3 := Lib.hid F3
 have F4 := Lib.hid F4
 clear hops hQ hpan hS
 subst hl
 have hHeld : S v := HS.out _ (HB.out.mono (Nat.le_of_lt BZ.out.lt))
 refine wpAnyH_ready (rs := [9]) (by kernel_rfl) (by simp) ?_
 refine AllReadyH.cons rfl (fun K hK => ?_) AllReadyH.nil
 ·
  refine step_lit (cells := GItem.cells) (hk := fun _ => rfl) rfl (.tmp 9) (.tmp 11) 40 rfl 111 _ 24 Try.underlying40 info_Item rfl (by decide) (by decide) (fun x u hu => by simp [GItem.cells] at hu; rcases hu with rfl | rfl | rfl <;> rfl) g2 wd.heap.size yg2 F2.out rfl A2 c2 wd.heap.size m2 y.busy rfl (R2.out.below HB.out) l2 ?_
  intro V2 v1 ho hb hw
  have D12 : Value.ownBlock V1 ≠ Value.ownBlock V2 := fun h => by
   have h := h.symm
   rcases hw with hw | hw
   ·
    rw [hw] at h
    exact D12 h.symm
   ·
    rw [hw] at h
    have := (O1.out.lt v.heap.size h.symm).2
    omega
  have D23 : Value.ownBlock V2 ≠ Value.ownBlock (Value.slice (some ⟨g3, 0, none⟩) 0 0) := fun h => by
   have h := h
   rcases hw with hw | hw
   ·
    rw [hw] at h
    exact D23 h
   ·
    rw [hw] at h
    have := F3.out.lt
    simp only [Value.ownBlock, Option.some.injEq] at h
    omega
  have D24 : Value.ownBlock V2 ≠ Value.ownBlock (Value.slice (some ⟨g4, 0, none⟩) 0 0) := fun h => by
   have h := h
   rcases hw with hw | hw
   ·
    rw [hw] at h
    exact D24 h
   ·
    rw [hw] at h
    have := F4.out.lt
    simp only [Value.ownBlock, Option.some.injEq] at h
    omega
  have O2 := Lib.hid ho
  have O1 := Lib.hid (O1.out.later hb)
  have F3 := Lib.hid (F3.out.later hb)
  have F4 := Lib.hid (F4.out.later hb)
  have HB := Lib.hid (HB.out.trans (hb.mono HB.out.size))
  clear ho hb hw F2
  refine hK.out _ _ (HS.out _ (HB.out.mono (Nat.le_of_lt BZ.out.lt))) (fun hHeld => ?_)
  clear hK K
  exact cp6_1234_2 _ HOPS.out _ _ HPAN.out HQ.out R1.out l1 R2.out l2 R3.out l3 R4.out l4 HS.out BZ.out HB.out O1.out O2.out F3.out yg3 F4.out yg4 D12 D14 D23 D24 _ (by kernel_rfl)

set_option maxRecDepth 100000 in
set_option maxHeartbeats 4000000 in
theorem cp6_12_2 (ops : Array Oper) (hops : regionIn 1 Try.f77.body = some ops) (Q : Exit → Act → World → Prop) (S : World → Prop) {y : GCase} {A1 A2 A3 A4 : Option Addr} {c1 c2 c3 c4 : Nat} {m1 m2 m3 m4 : Option Nat} {wd v : World} {P Z : Nat} {u0 u3 u6 u10 u13 u14 u16 u17 u18 u20 u21 : Value} {g1 g2 : Nat} {V1 V2 : Value}
  (hpan : PanQ Q)
  (hQ : EndC Q y wd P Z u0)
  (R1 : Rows intC m1 wd wd.heap.size A1 y.marks) (l1 : y.marks.length ≤ 1000)
  (R2 : Rows itemC m2 wd wd.heap.size A2 y.busy) (l2 : y.busy.length ≤ 1000)
  (R3 : Rows intC m3 wd wd.heap.size A3 y.data) (l3 : y.data.length ≤ 1000)
  (R4 : Rows didC m4 wd wd.heap.size A4 y.did) (l4 : y.did.length ≤ 1000)
  (hS : ∀ V : World, Below Z wd V → S V) (BZ : Bk wd Z 43 #[.int .i64 0, .slice none 0 0, .slice none 0 0, .slice none 0 0, .slice none 0 0]) (HB : Below wd.heap.size wd v)
  (O1 : OwnC intC 3 v wd.heap.size V1 y.marks)
  (O2 : OwnC itemC 111 v wd.heap.size V2 y.busy)
  (D12 : Value.ownBlock V1 ≠ Value.ownBlock V2)
  (listed : Array Bool) (hl : listed = #[true, true, true, true, true, true, true, true, true, true, false, true, true, false, false, true, true, false, false, false]) :
  wpAnyH Try.prog .any ops Q S 6 listed { tmps := List.toArray (u0 :: .pointer (some ⟨P, 0, none⟩) :: .pointer (some ⟨Z, 0, none⟩) :: u3 :: .int .i64 y.state :: .slice (some ⟨g1, 0, none⟩) 0 0 :: u6 :: .slice A1 y.marks.length c1 :: V1 :: .slice (some ⟨g2, 0, none⟩) 0 0 :: u10 :: .slice A2 y.busy.length c2 :: V2 :: u13 :: u14 :: .slice A3 y.data.length c3 :: u16 :: u17 :: u18 :: .slice A4 y.did.length c4 :: u20 :: u21 :: []), defers := [] } v := by
 obtain rfl := Option.some.inj (hops.symm.trans (rfl : regionIn 1 Try.f77.body = some _))
 have HOPS := Lib.hid hops
 have HQ := Lib.hid hQ
 have HPAN := Lib.hid hpan
 have BZ := Lib.hid BZ
 have HB := Lib.hid HB
 have HS := Lib.hid hS
 have R1 := Lib.hid R1
 have R2 := Lib.hid R2
 have R3 := Lib.hid R3
 have R4 := Lib.hid R4
 have O1 := Lib.hid O1
 have O2 := Lib.hid O2
 clear hops hQ hpan hS
 subst hl
 have hHeld : S v := HS.out _ (HB.out.mono (Nat.le_of_lt BZ.out.lt))
 refine wpAnyH_ready (rs := [10, 14]) (by kernel_rfl) (by simp) ?_
 refine AllReadyH.cons rfl (fun K hK => ?_) (AllReadyH.cons rfl (fun K hK => ?_) AllReadyH.nil)
 ·
  go_simp
  obtain ⟨v1, hV⟩ : ∃ V, V = World.alloc v (.cells #[] 3) := ⟨_, rfl⟩
  have hb : Below v.heap.size v v1 := by rw [hV]; exact (Below.refl _ _).alloc (Nat.le_refl _) _
  obtain ⟨g3, hg3⟩ : ∃ g, g = v.heap.size := ⟨_, rfl⟩
  have D23 : Value.ownBlock V2 ≠ Value.ownBlock (Value.slice (some ⟨g3, 0, none⟩) 0 0) := fun h => by have := (O2.out.lt g3 (h)).2; omega
  have F3 : Hid (Bk v1 g3 3 #[]) := by show Bk _ _ _ _; rw [hV, hg3]; exact Bk.new rfl
  have O1 := Lib.hid (O1.out.later hb)
  have O2 := Lib.hid (O2.out.later hb)
  have yg3 : wd.heap.size ≤ g3 := by have := HB.out.size; omega
  have HB := Lib.hid (HB.out.trans (hb.mono HB.out.size))
  rw [← hV, ← hg3]
  clear hV hb hg3
  refine hK.out _ _ (HS.out _ (HB.out.mono (Nat.le_of_lt BZ.out.lt))) (fun hHeld => ?_)
  clear hK K
  exact cp6_123_2 _ HOPS.out _ _ HPAN.out HQ.out R1.out l1 R2.out l2 R3.out l3 R4.out l4 HS.out BZ.out HB.out O1.out O2.out F3.out yg3 D12 D23 _ (by kernel_rfl)
 ·
  go_simp
  obtain ⟨v1, hV⟩ : ∃ V, V = World.alloc v (.cells #[] 53) := ⟨_, rfl⟩
  have hb : Below v.heap.size v v1 := by rw [hV]; exact (Below.refl _ _).alloc (Nat.le_refl _) _
  obtain ⟨g4, hg4⟩ : ∃ g, g = v.heap.size := ⟨_, rfl⟩
  have D14 : Value.ownBlock V1 ≠ Value.ownBlock (Value.slice (some ⟨g4, 0, none⟩) 0 0) := fun h => by have := (O1.out.lt g4 (h)).2; omega
  have D24 : Value.ownBlock V2 ≠ Value.ownBlock (Value.slice (some ⟨g4, 0, none⟩) 0 0) := fun h => by have := (O2.out.lt g4 (h)).2; omega
  have F4 : Hid (Bk v1 g4 53 #[]) := by show Bk _ _ _ _; rw [hV, hg4]; exact Bk.new rfl
  have O1 := Lib.hid (O1.out.later hb)
  have O2 := Lib.hid (O2.out.later hb)
  have yg4 : wd.heap.size ≤ g4 := by have := HB.out.size; omega
  have HB := Lib.hid (HB.out.trans (hb.mono HB.out.size))
  rw [← hV, ← hg4]
  clear hV hb hg4
  refine hK.out _ _ (HS.out _ (HB.out.mono (Nat.le_of_lt BZ.out.lt))) (fun hHeld => ?_)
  clear hK K
  exact cp6_124_2 _ HOPS.out _ _ HPAN.out HQ.out R1.out l1 R2.out l2 R3.out l3 R4.out l4 HS.out BZ.out HB.out O1.out O2.out F4.out yg4 D12 D14 D24 _ (by kernel_rfl)

set_option maxRecDepth 100000 in
set_option maxHeartbeats 4000000 in
theorem cp6_123_1 (ops : Array Oper) (hops : regionIn 1 Try.f77.body = some ops) (Q : Exit → Act → World → Prop) (S : World → Prop) {y : GCase} {A1 A2 A3 A4 : Option Addr} {c1 c2 c3 c4 : Nat} {m1 m2 m3 m4 : Option Nat} {wd v : World} {P Z : Nat} {u0 u3 u6 u10 u12 u14 u16 u17 u18 u20 u21 : Value} {g1 g2 g3 : Nat} {V1 : Value}
  (hpan : PanQ Q)
  (hQ : EndC Q y wd P Z u0)
  (R1 : Rows intC m1 wd wd.heap.size A1 y.marks) (l1 : y.marks.length ≤ 1000)
  (R2 : Rows itemC m2 wd wd.heap.size A2 y.busy) (l2 : y.busy.length ≤ 1000)
  (R3 : Rows intC m3 wd wd.heap.size A3 y.data) (l3 : y.data.length ≤ 1000)
  (R4 : Rows didC m4 wd wd.heap.size A4 y.did) (l4 : y.did.length ≤ 1000)
  (hS : ∀ V : World, Below Z wd V → S V) (BZ : Bk wd Z 43 #[.int .i64 0, .slice none 0 0, .slice none 0 0, .slice none 0 0, .slice none 0 0]) (HB : Below wd.heap.size wd v)
  (O1 : OwnC intC 3 v wd.heap.size V1 y.marks)
  (F2 : Bk v g2 111 #[]) (yg2 : wd.heap.size ≤ g2)
  (F3 : Bk v g3 3 #[]) (yg3 : wd.heap.size ≤ g3)
  (D12 : Value.ownBlock V1 ≠ Value.ownBlock (Value.slice (some ⟨g2, 0, none⟩) 0 0))
  (D23 : Value.ownBlock (Value.slice (some ⟨g2, 0, none⟩) 0 0) ≠ Value.ownBlock (Value.slice (some ⟨g3, 0, none⟩) 0 0))
  (listed : Array Bool) (hl : listed = #[true, true, true, true, true, true, true, true, true, false, true, true, true, false, false, true, true, false, false, false]) :
  wpAnyH Try.prog .any ops Q S 6 listed { tmps := List.toArray (u0 :: .pointer (some ⟨P, 0, none⟩) :: .pointer (some ⟨Z, 0, none⟩) :: u3 :: .int .i64 y.state :: .slice (some ⟨g1, 0, none⟩) 0 0 :: u6 :: .slice A1 y.marks.length c1 :: V1 :: .slice (some ⟨g2, 0, none⟩) 0 0 :: u10 :: .slice A2 y.busy.length c2 :: u12 :: .slice (some ⟨g3, 0, none⟩) 0 0 :: u14 :: .slice A3 y.data.length c3 :: u16 :: u17 :: u18 :: .slice A4 y.did.length c4 :: u20 :: u21 :: []), defers := [] } v := by
 obtain rfl := Option.some.inj (hops.symm.trans (rfl : regionIn 1 Try.f77.body = some _))
 have HOPS := Lib.hid hops
 have HQ := Lib.hid hQ
 have HPAN := Lib.hid hpan
 have BZ := Lib.hid BZ
 have HB := Lib.hid HB
 have HS := Lib.hid hS
 have R1 := Lib.hid R1
 have R2 := Lib.hid R2
 have R3 := Lib.hid R3
 have R4 := Lib.hid R4
 have O1 := Lib.hid O1
 have F2 := Lib.hid F2
 have F3 := Lib.hid F3
 clear hops hQ hpan hS
 subst hl
 have hHeld : S v := HS.out _ (HB.out.mono (Nat.le_of_lt BZ.out.lt))
 refine wpAnyH_ready (rs := [9, 14]) (by kernel_rfl) (by simp) ?_
 refine AllReadyH.cons rfl (fun K hK => ?_) (AllReadyH.cons rfl (fun K hK => ?_) AllReadyH.nil)
 ·
  refine step_lit (cells := GItem.cells) (hk := fun _ => rfl) rfl (.tmp 9) (.tmp 11) 40 rfl 111 _ 24 Try.underlying40 info_Item rfl (by decide) (by decide) (fun x u hu => by simp [GItem.cells] at hu; rcases hu with rfl | rfl | rfl <;> rfl) g2 wd.heap.size yg2 F2.out rfl A2 c2 wd.heap.size m2 y.busy rfl (R2.out.below HB.out) l2 ?_
  intro V2 v1 ho hb hw
  have D12 : Value.ownBlock V1 ≠ Value.ownBlock V2 := fun h => by
   have h := h.symm
   rcases hw with hw | hw
   ·
    rw [hw] at h
    exact D12 h.symm
   ·
    rw [hw] at h
    have := (O1.out.lt v.heap.size h.symm).2
    omega
  have D23 : Value.ownBlock V2 ≠ Value.ownBlock (Value.slice (some ⟨g3, 0, none⟩) 0 0) := fun h => by
   have h := h
   rcases hw with hw | hw
   ·
    rw [hw] at h
    exact D23 h
   ·
    rw [hw] at h
    have := F3.out.lt
    simp only [Value.ownBlock, Option.some.injEq] at h
    omega
  have O2 := Lib.hid ho
  have O1 := Lib.hid (O1.out.later hb)
  have F3 := Lib.hid (F3.out.later hb)
  have HB := Lib.hid (HB.out.trans (hb.mono HB.out.size))
  clear ho hb hw F2
  refine hK.out _ _ (HS.out _ (HB.out.mono (Nat.le_of_lt BZ.out.lt))) (fun hHeld => ?_)
  clear hK K
  exact cp6_123_2 _ HOPS.out _ _ HPAN.out HQ.out R1.out l1 R2.out l2 R3.out l3 R4.out l4 HS.out BZ.out HB.out O1.out O2.out F3.out yg3 D12 D23 _ (by kernel_rfl)
 ·
  go_simp
  obtain ⟨v1, hV⟩ : ∃ V, V = World.alloc v (.cells #[] 53) := ⟨_, rfl⟩
  have hb : Below v.heap.size v v1 := by rw [hV]; exact (Below.refl _ _).alloc (Nat.le_refl _) _
  obtain ⟨g4, hg4⟩ : ∃ g, g = v.heap.size := ⟨_, rfl⟩
  have D14 : Value.ownBlock V1 ≠ Value.ownBlock (Value.slice (some ⟨g4, 0, none⟩) 0 0) := fun h => by have := (O1.out.lt g4 (h)).2; omega
  have D24 : Value.ownBlock (Value.slice (some ⟨g2, 0, none⟩) 0 0) ≠ Value.ownBlock (Value.slice (some ⟨g4, 0, none⟩) 0 0) := fun h => by have := F2.out.lt; simp only [Value.ownBlock, Option.some.injEq] at h; omega
  have F4 : Hid (Bk v1 g4 53 #[]) := by show Bk _ _ _ _; rw [hV, hg4]; exact Bk.new rfl
  have O1 := Lib.hid (O1.out.later hb)
  have F2 := Lib.hid (F2.out.later hb)
  have F3 := Lib.hid (F3.out.later hb)
  have yg4 : wd.heap.size ≤ g4 := by have := HB.out.size; omega
  have HB := Lib.hid (HB.out.trans (hb.mono HB.out.size))
  rw [← hV, ← hg4]
  clear hV hb hg4
  refine hK.out _ _ (HS.out _ (HB.out.mono (Nat.le_of_lt BZ.out.lt))) (fun hHeld => ?_)
  clear hK K
  exact cp6_1234_1 _ HOPS.out _ _ HPAN.out HQ.out R1.out l1 R2.out l2 R3.out l3 R4.out l4 HS.out BZ.out HB.out O1.out F2.out yg2 F3.out yg3 F4.out yg4 D12 D14 D23 D24 _ (by kernel_rfl)

set_option maxRecDepth 100000 in
set_option maxHeartbeats 4000000 in
theorem cp6_124_1 (ops : Array Oper) (hops : regionIn 1 Try.f77.body = some ops) (Q : Exit → Act → World → Prop) (S : World → Prop) {y : GCase} {A1 A2 A3 A4 : Option Addr} {c1 c2 c3 c4 : Nat} {m1 m2 m3 m4 : Option Nat} {wd v : World} {P Z : Nat} {u0 u3 u6 u10 u12 u13 u14 u16 u18 u20 u21 : Value} {g1 g2 g4 : Nat} {V1 : Value}
  (hpan : PanQ Q)
  (hQ : EndC Q y wd P Z u0)
  (R1 : Rows intC m1 wd wd.heap.size A1 y.marks) (l1 : y.marks.length ≤ 1000)
  (R2 : Rows itemC m2 wd wd.heap.size A2 y.busy) (l2 : y.busy.length ≤ 1000)
  (R3 : Rows intC m3 wd wd.heap.size A3 y.data) (l3 : y.data.length ≤ 1000)
  (R4 : Rows didC m4 wd wd.heap.size A4 y.did) (l4 : y.did.length ≤ 1000)
  (hS : ∀ V : World, Below Z wd V → S V) (BZ : Bk wd Z 43 #[.int .i64 0, .slice none 0 0, .slice none 0 0, .slice none 0 0, .slice none 0 0]) (HB : Below wd.heap.size wd v)
  (O1 : OwnC intC 3 v wd.heap.size V1 y.marks)
  (F2 : Bk v g2 111 #[]) (yg2 : wd.heap.size ≤ g2)
  (F4 : Bk v g4 53 #[]) (yg4 : wd.heap.size ≤ g4)
  (D12 : Value.ownBlock V1 ≠ Value.ownBlock (Value.slice (some ⟨g2, 0, none⟩) 0 0))
  (D14 : Value.ownBlock V1 ≠ Value.ownBlock (Value.slice (some ⟨g4, 0, none⟩) 0 0))
  (D24 : Value.ownBlock (Value.slice (some ⟨g2, 0, none⟩) 0 0) ≠ Value.ownBlock (Value.slice (some ⟨g4, 0, none⟩) 0 0))
  (listed : Array Bool) (hl : listed = #[true, true, true, true, true, true, true, true, true, false, false, true, true, false, true, true, true, false, false, false]) :
  wpAnyH Try.prog .any ops Q S 6 listed { tmps := List.toArray (u0 :: .pointer (some ⟨P, 0, none⟩) :: .pointer (some ⟨Z, 0, none⟩) :: u3 :: .int .i64 y.state :: .slice (some ⟨g1, 0, none⟩) 0 0 :: u6 :: .slice A1 y.marks.length c1 :: V1 :: .slice (some ⟨g2, 0, none⟩) 0 0 :: u10 :: .slice A2 y.busy.length c2 :: u12 :: u13 :: u14 :: .slice A3 y.data.length c3 :: u16 :: .slice (some ⟨g4, 0, none⟩) 0 0 :: u18 :: .slice A4 y.did.length c4 :: u20 :: u21 :: []), defers := [] } v := by
 obtain rfl := Option.some.inj (hops.symm.trans (rfl : regionIn 1 Try.f77.body = some _))
 have HOPS := Lib.hid hops
 have HQ := Lib.hid hQ
 have HPAN := Lib.hid hpan
 have BZ := Lib.hid BZ
 have HB := Lib.hid HB
 have HS := Lib.hid hS
 have R1 := Lib.hid R1
 have R2 := Lib.hid R2
 have R3 := Lib.hid R3
 have R4 := Lib.hid R4
 have O1 := Lib.hid O1
 have F2 := Lib.hid F2
 have F4 := Lib.hid F4
 clear hops hQ hpan hS
 subst hl
 have hHeld : S v := HS.out _ (HB.out.mono (Nat.le_of_lt BZ.out.lt))
 refine wpAnyH_ready (rs := [9, 10]) (by kernel_rfl) (by simp) ?_
 refine AllReadyH.cons rfl (fun K hK => ?_) (AllReadyH.cons rfl (fun K hK => ?_) AllReadyH.nil)
 ·
  refine step_lit (cells := GItem.cells) (hk := fun _ => rfl) rfl (.tmp 9) (.tmp 11) 40 rfl 111 _ 24 Try.underlying40 info_Item rfl (by decide) (by decide) (fun x u hu => by simp [GItem.cells] at hu; rcases hu with rfl | rfl | rfl <;> rfl) g2 wd.heap.size yg2 F2.out rfl A2 c2 wd.heap.size m2 y.busy rfl (R2.out.below HB.out) l2 ?_
  intro V2 v1 ho hb hw
  have D12 : Value.ownBlock V1 ≠ Value.ownBlock V2 := fun h => by
   have h := h.symm
   rcases hw with hw | hw
   ·
    rw [hw] at h
    exact D12 h.symm
   ·
    rw [hw] at h
    have := (O1.out.lt v.heap.size h.symm).2
    omega
  have D24 : Value.ownBlock V2 ≠ Value.ownBlock (Value.slice (some ⟨g4, 0, none⟩) 0 0) := fun h => by
   have h := h
   rcases hw with hw | hw
   ·
    rw [hw] at h
    exact D24 h
   ·
    rw [hw] at h
    have := F4.out.lt
    simp only [Value.ownBlock, Option.some.injEq] at h
    omega
  have O2 := Lib.hid ho
  have O1 := Lib.hid (O1.out.later hb)
  have F4 := Lib.hid (F4.out.later hb)
  have HB := Lib.hid (HB.out.trans (hb.mono HB.out.size))
  clear ho hb hw F2
  refine hK.out _ _ (HS.out _ (HB.out.mono (Nat.le_of_lt BZ.out.lt))) (fun hHeld => ?_)
  clear hK K
  exact cp6_124_2 _ HOPS.out _ _ HPAN.out HQ.out R1.out l1 R2.out l2 R3.out l3 R4.out l4 HS.out BZ.out HB.out O1.out O2.out F4.out yg4 D12 D14 D24 _ (by kernel_rfl)
 ·
  go_simp
  obtain ⟨v1, hV⟩ : ∃ V, V = World.alloc v (.cells #[] 3) := ⟨_, rfl⟩
  have hb : Below v.heap.size v v1 := by rw [hV]; exact (Below.refl _ _).alloc (Nat.le_refl _) _
  obtain ⟨g3, hg3⟩ : ∃ g, g = v.heap.size := ⟨_, rfl⟩
  have D23 : Value.ownBlock (Value.slice (some ⟨g2, 0, none⟩) 0 0) ≠ Value.ownBlock (Value.slice (some ⟨g3, 0, none⟩) 0 0) := fun h => by have := F2.out.lt; simp only [Value.ownBlock, Option.some.injEq] at h; omega
  have F3 : Hid (Bk v1 g3 3 #[]) := by show Bk _ _ _ _; rw [hV, hg3]; exact Bk.new rfl
  have O1 := Lib.hid (O1.out.later hb)
  have F2 := Lib.hid (F2.out.later hb)
  have F4 := Lib.hid (F4.out.later hb)
  have yg3 : wd.heap.size ≤ g3 := by have := HB.out.size; omega
  have HB := Lib.hid (HB.out.trans (hb.mono HB.out.size))
  rw [← hV, ← hg3]
  clear hV hb hg3
  refine hK.out _ _ (HS.out _ (HB.out.mono (Nat.le_of_lt BZ.out.lt))) (fun hHeld => ?_)
  clear hK K
  exact cp6_1234_1 _ HOPS.out _ _ HPAN.out HQ.out R1.out l1 R2.out l2 R3.out l3 R4.out l4 HS.out BZ.out HB.out O1.out F2.out yg2 F3.out yg3 F4.out yg4 D12 D14 D23 D24 _ (by kernel_rfl)

set_option maxRecDepth 100000 in
set_option maxHeartbeats 4000000 in
theorem cp6_134_1 (ops : Array Oper) (hops : regionIn 1 Try.f77.body = some ops) (Q : Exit → Act → World → Prop) (S : World → Prop) {y : GCase} {A1 A2 A3 A4 : Option Addr} {c1 c2 c3 c4 : Nat} {m1 m2 m3 m4 : Option Nat} {wd v : World} {P Z : Nat} {u0 u3 u6 u9 u10 u12 u14 u16 u18 u20 u21 : Value} {g1 g3 g4 : Nat} {V1 : Value}
  (hpan : PanQ Q)
  (hQ : EndC Q y wd P Z u0)
  (R1 : Rows intC m1 wd wd.heap.size A1 y.marks) (l1 : y.marks.length ≤ 1000)
  (R2 : Rows itemC m2 wd wd.heap.size A2 y.busy) (l2 : y.busy.length ≤ 1000)
  (R3 : Rows intC m3 wd wd.heap.size A3 y.data) (l3 : y.data.length ≤ 1000)
  (R4 : Rows didC m4 wd wd.heap.size A4 y.did) (l4 : y.did.length ≤ 1000)
  (hS : ∀ V : World, Below Z wd V → S V) (BZ : Bk wd Z 43 #[.int .i64 0, .slice none 0 0, .slice none 0 0, .slice none 0 0, .slice none 0 0]) (HB : Below wd.heap.size wd v)
  (O1 : OwnC intC 3 v wd.heap.size V1 y.marks)
  (F3 : Bk v g3 3 #[]) (yg3 : wd.heap.size ≤ g3)
  (F4 : Bk v g4 53 #[]) (yg4 : wd.heap.size ≤ g4)
  (D14 : Value.ownBlock V1 ≠ Value.ownBlock (Value.slice (some ⟨g4, 0, none⟩) 0 0))
  (listed : Array Bool) (hl : listed = #[true, true, true, true, true, true, false, true, true, false, true, true, true, false, true, true, true, false, false, false]) :
  wpAnyH Try.prog .any ops Q S 6 listed { tmps := List.toArray (u0 :: .pointer (some ⟨P, 0, none⟩) :: .pointer (some ⟨Z, 0, none⟩) :: u3 :: .int .i64 y.state :: .slice (some ⟨g1, 0, none⟩) 0 0 :: u6 :: .slice A1 y.marks.length c1 :: V1 :: u9 :: u10 :: .slice A2 y.busy.length c2 :: u12 :: .slice (some ⟨g3, 0, none⟩) 0 0 :: u14 :: .slice A3 y.data.length c3 :: u16 :: .slice (some ⟨g4, 0, none⟩) 0 0 :: u18 :: .slice A4 y.did.length c4 :: u20 :: u21 :: []), defers := [] } v := by
 obtain rfl := Option.some.inj (hops.symm.trans (rfl : regionIn 1 Try.f77.body = some _))
 have HOPS := Lib.hid hops
 have HQ := Lib.hid hQ
 have HPAN := Lib.hid hpan
 have BZ := Lib.hid BZ
 have HB := Lib.hid HB
 have HS := Lib.hid hS
 have R1 := Lib.hid R1
 have R2 := Lib.hid R2
 have R3 := Lib.hid R3
 have R4 := Lib.hid R4
 have O1 := Lib.hid O1
 have F3 := Lib.hid F3
 have F4 := Lib.hid F4
 clear hops hQ hpan hS
 subst hl
 have hHeld : S v := HS.out _ (HB.out.mono (Nat.le_of_lt BZ.out.lt))
 refine wpAnyH_ready (rs := [6]) (by kernel_rfl) (by simp) ?_
 refine AllReadyH.cons rfl (fun K hK => ?_) AllReadyH.nil
 ·
  go_simp
  obtain ⟨v1, hV⟩ : ∃ V, V = World.alloc v (.cells #[] 111) := ⟨_, rfl⟩
  have hb : Below v.heap.size v v1 := by rw [hV]; exact (Below.refl _ _).alloc (Nat.le_refl _) _
  obtain ⟨g2, hg2⟩ : ∃ g, g = v.heap.size := ⟨_, rfl⟩
  have D12 : Value.ownBlock V1 ≠ Value.ownBlock (Value.slice (some ⟨g2, 0, none⟩) 0 0) := fun h => by have := (O1.out.lt g2 (h)).2; omega
  have D23 : Value.ownBlock (Value.slice (some ⟨g2, 0, none⟩) 0 0) ≠ Value.ownBlock (Value.slice (some ⟨g3, 0, none⟩) 0 0) := fun h => by have := F3.out.lt; simp only [Value.ownBlock, Option.some.injEq] at h; omega
  have D24 : Value.ownBlock (Value.slice (some ⟨g2, 0, none⟩) 0 0) ≠ Value.ownBlock (Value.slice (some ⟨g4, 0, none⟩) 0 0) := fun h => by have := F4.out.lt; simp only [Value.ownBlock, Option.some.injEq] at h; omega
  have F2 : Hid (Bk v1 g2 111 #[]) := by show Bk _ _ _ _; rw [hV, hg2]; exact Bk.new rfl
  have O1 := Lib.hid (O1.out.later hb)
  have F3 := Lib.hid (F3.out.later hb)
  have F4 := Lib.hid (F4.out.later hb)
  have yg2 : wd.heap.size ≤ g2 := by have := HB.out.size; omega
  have HB := Lib.hid (HB.out.trans (hb.mono HB.out.size))
  rw [← hV, ← hg2]
  clear hV hb hg2
  refine hK.out _ _ (HS.out _ (HB.out.mono (Nat.le_of_lt BZ.out.lt))) (fun hHeld => ?_)
  clear hK K
  exact cp6_1234_1 _ HOPS.out _ _ HPAN.out HQ.out R1.out l1 R2.out l2 R3.out l3 R4.out l4 HS.out BZ.out HB.out O1.out F2.out yg2 F3.out yg3 F4.out yg4 D12 D14 D23 D24 _ (by kernel_rfl)

set_option maxRecDepth 100000 in
set_option maxHeartbeats 4000000 in
theorem cp6_1234_0 (ops : Array Oper) (hops : regionIn 1 Try.f77.body = some ops) (Q : Exit → Act → World → Prop) (S : World → Prop) {y : GCase} {A1 A2 A3 A4 : Option Addr} {c1 c2 c3 c4 : Nat} {m1 m2 m3 m4 : Option Nat} {wd v : World} {P Z : Nat} {u0 u3 u6 u8 u10 u12 u14 u16 u18 u20 u21 : Value} {g1 g2 g3 g4 : Nat}
  (hpan : PanQ Q)
  (hQ : EndC Q y wd P Z u0)
  (R1 : Rows intC m1 wd wd.heap.size A1 y.marks) (l1 : y.marks.length ≤ 1000)
  (R2 : Rows itemC m2 wd wd.heap.size A2 y.busy) (l2 : y.busy.length ≤ 1000)
  (R3 : Rows intC m3 wd wd.heap.size A3 y.data) (l3 : y.data.length ≤ 1000)
  (R4 : Rows didC m4 wd wd.heap.size A4 y.did) (l4 : y.did.length ≤ 1000)
  (hS : ∀ V : World, Below Z wd V → S V) (BZ : Bk wd Z 43 #[.int .i64 0, .slice none 0 0, .slice none 0 0, .slice none 0 0, .slice none 0 0]) (HB : Below wd.heap.size wd v)
  (F1 : Bk v g1 3 #[]) (yg1 : wd.heap.size ≤ g1)
  (F2 : Bk v g2 111 #[]) (yg2 : wd.heap.size ≤ g2)
  (F3 : Bk v g3 3 #[]) (yg3 : wd.heap.size ≤ g3)
  (F4 : Bk v g4 53 #[]) (yg4 : wd.heap.size ≤ g4)
  (D12 : Value.ownBlock (Value.slice (some ⟨g1, 0, none⟩) 0 0) ≠ Value.ownBlock (Value.slice (some ⟨g2, 0, none⟩) 0 0))
  (D14 : Value.ownBlock (Value.slice (some ⟨g1, 0, none⟩) 0 0) ≠ Value.ownBlock (Value.slice (some ⟨g4, 0, none⟩) 0 0))
  (D23 : Value.ownBlock (Value.slice (some ⟨g2, 0, none⟩) 0 0) ≠ Value.ownBlock (Value.slice (some ⟨g3, 0, none⟩) 0 0))
  (D24 : Value.ownBlock (Value.slice (some ⟨g2, 0, none⟩) 0 0) ≠ Value.ownBlock (Value.slice (some ⟨g4, 0, none⟩) 0 0))
  (listed : Array Bool) (hl : listed = #[true, true, true, true, true, false, true, true, true, false, true, true, true, false, true, true, true, false, false, false]) :
  wpAnyH Try.prog .any ops Q S 6 listed { tmps := List.toArray (u0 :: .pointer (some ⟨P, 0, none⟩) :: .pointer (some ⟨Z, 0, none⟩) :: u3 :: .int .i64 y.state :: .slice (some ⟨g1, 0, none⟩) 0 0 :: u6 :: .slice A1 y.marks.length c1 :: u8 :: .slice (some ⟨g2, 0, none⟩) 0 0 :: u10 :: .slice A2 y.busy.length c2 :: u12 :: .slice (some ⟨g3, 0, none⟩) 0 0 :: u14 :: .slice A3 y.data.length c3 :: u16 :: .slice (some ⟨g4, 0, none⟩) 0 0 :: u18 :: .slice A4 y.did.length c4 :: u20 :: u21 :: []), defers := [] } v := by
 obtain rfl := Option.some.inj (hops.symm.trans (rfl : regionIn 1 Try.f77.body = some _))
 have HOPS := Lib.hid hops
 have HQ := Lib.hid hQ
 have HPAN := Lib.hid hpan
 have BZ := Lib.hid BZ
 have HB := Lib.hid HB
 have HS := Lib.hid hS
 have R1 := Lib.hid R1
 have R2 := Lib.hid R2
 have R3 := Lib.hid R3
 have R4 := Lib.hid R4
 have F1 := Lib.hid F1
 have F2 := Lib.hid F2
 have F3 := Lib.hid F3
 have F4 := Lib.hid F4
 clear hops hQ hpan hS
 subst hl
 have hHeld : S v := HS.out _ (HB.out.mono (Nat.le_of_lt BZ.out.lt))
 refine wpAnyH_ready (rs := [5]) (by kernel_rfl) (by simp) ?_
 refine AllReadyH.cons rfl (fun K hK => ?_) AllReadyH.nil
 ·
  refine step_lit (cells := fun x : Int => [.int .i64 x]) (hk := fun _ => rfl) rfl (.tmp 5) (.tmp 7) 23 rfl 3 _ 8 Try.underlying23 info_int rfl (by decide) (by decide) (fun x u hu => by simp at hu; subst hu; rfl) g1 wd.heap.size yg1 F1.out rfl A1 c1 wd.heap.size m1 y.marks rfl (R1.out.below HB.out) l1 ?_
  intro V1 v1 ho hb hw
  have D12 : Value.ownBlock V1 ≠ Value.ownBlock (Value.slice (some ⟨g2, 0, none⟩) 0 0) := fun h => by
   have h := h
   rcases hw with hw | hw
   ·
    rw [hw] at h
    exact D12 h
   ·
    rw [hw] at h
    have := F2.out.lt
    simp only [Value.ownBlock, Option.some.injEq] at h
    omega
  have D14 : Value.ownBlock V1 ≠ Value.ownBlock (Value.slice (some ⟨g4, 0, none⟩) 0 0) := fun h => by
   have h := h
   rcases hw with hw | hw
   ·
    rw [hw] at h
    exact D14 h
   ·
    rw [hw] at h
    have := F4.out.lt
    simp only [Value.ownBlock, Option.some.injEq] at h
    omega
  have O1 := Lib.hid ho
  have F2 := Lib.hid (F2.out.later hb)
  have F3 := Lib.hid (F3.out.later hb)
  have F4 := Lib.hid (F4.out.later hb)
  have HB := Lib.hid (HB.out.trans (hb.mono HB.out.size))
  clear ho hb hw F1
  refine hK.out _ _ (HS.out _ (HB.out.mono (Nat.le_of_lt BZ.out.lt))) (fun hHeld => ?_)
  clear hK K
  exact cp6_1234_1 _ HOPS.out _ _ HPAN.out HQ.out R1.out l1 R2.out l2 R3.out l3 R4.out l4 HS.out BZ.out HB.out O1.out F2.out yg2 F3.out yg3 F4.out yg4 D12 D14 D23 D24 _ (by kernel_rfl)

set_option maxRecDepth 100000 in
set_option maxHeartbeats 4000000 in
theorem cp6_12_1 (ops : Array Oper) (hops : regionIn 1 Try.f77.body = some ops) (Q : Exit → Act → World → Prop) (S : World → Prop) {y : GCase} {A1 A2 A3 A4 : Option Addr} {c1 c2 c3 c4 : Nat} {m1 m2 m3 m4 : Option Nat} {wd v : World} {P Z : Nat} {u0 u3 u6 u10 u12 u13 u14 u16 u17 u18 u20 u21 : Value} {g1 g2 : Nat} {V1 : Value}
  (hpan : PanQ Q)
  (hQ : EndC Q y wd P Z u0)
  (R1 : Rows intC m1 wd wd.heap.size A1 y.marks) (l1 : y.marks.length ≤ 1000)
  (R2 : Rows itemC m2 wd wd.heap.size A2 y.busy) (l2 : y.busy.length ≤ 1000)
  (R3 : Rows intC m3 wd wd.heap.size A3 y.data) (l3 : y.data.length ≤ 1000)
  (R4 : Rows didC m4 wd wd.heap.size A4 y.did) (l4 : y.did.length ≤ 1000)
  (hS : ∀ V : World, Below Z wd V → S V) (BZ : Bk wd Z 43 #[.int .i64 0, .slice none 0 0, .slice none 0 0, .slice none 0 0, .slice none 0 0]) (HB : Below wd.heap.size wd v)
  (O1 : OwnC intC 3 v wd.heap.size V1 y.marks)
  (F2 : Bk v g2 111 #[]) (yg2 : wd.heap.size ≤ g2)
  (D12 : Value.ownBlock V1 ≠ Value.ownBlock (Value.slice (some ⟨g2, 0, none⟩) 0 0))
  (listed : Array Bool) (hl : listed = #[true, true, true, true, true, true, true, true, true, false, false, true, true, false, false, true, true, false, false, false]) :
  wpAnyH Try.prog .any ops Q S 7 listed { tmps := List.toArray (u0 :: .pointer (some ⟨P, 0, none⟩) :: .pointer (some ⟨Z, 0, none⟩) :: u3 :: .int .i64 y.state :: .slice (some ⟨g1, 0, none⟩) 0 0 :: u6 :: .slice A1 y.marks.length c1 :: V1 :: .slice (some ⟨g2, 0, none⟩) 0 0 :: u10 :: .slice A2 y.busy.length c2 :: u12 :: u13 :: u14 :: .slice A3 y.data.length c3 :: u16 :: u17 :: u18 :: .slice A4 y.did.length c4 :: u20 :: u21 :: []), defers := [] } v := by
 obtain rfl := Option.some.inj (hops.symm.trans (rfl : regionIn 1 Try.f77.body = some _))
 have HOPS := Lib.hid hops
 have HQ := Lib.hid hQ
 have HPAN := Lib.hid hpan
 have BZ := Lib.hid BZ
 have HB := Lib.hid HB
 have HS := Lib.hid hS
 have R1 := Lib.hid R1
 have R2 := Lib.hid R2
 have R3 := Lib.hid R3
 have R4 := Lib.hid R4
 have O1 := Lib.hid O1
 have F2 := Lib.hid F2
 clear hops hQ hpan hS
 subst hl
 have hHeld : S v := HS.out _ (HB.out.mono (Nat.le_of_lt BZ.out.lt))
 refine wpAnyH_ready (rs := [9, 10, 14]) (by kernel_rfl) (by simp) ?_
 refine AllReadyH.cons rfl (fun K hK => ?_) (AllReadyH.cons rfl (fun K hK => ?_) (AllReadyH.cons rfl (fun K hK => ?_) AllReadyH.nil))
 ·
  refine step_lit (cells := GItem.cells) (hk := fun _ => rfl) rfl (.tmp 9) (.tmp 11) 40 rfl 111 _ 24 Try.underlying40 info_Item rfl (by decide) (by decide) (fun x u hu => by simp [GItem.cells] at hu; rcases hu with rfl | rfl | rfl <;> rfl) g2 wd.heap.size yg2 F2.out rfl A2 c2 wd.heap.size m2 y.busy rfl (R2.out.below HB.out) l2 ?_
  intro V2 v1 ho hb hw
  have D12 : Value.ownBlock V1 ≠ Value.ownBlock V2 := fun h => by
   have h := h.symm
   rcases hw with hw | hw
   ·
    rw [hw] at h
    exact D12 h.symm
   ·
    rw [hw] at h
    have := (O1.out.lt v.heap.size h.symm).2
    omega
  have O2 := Lib.hid ho
  have O1 := Lib.hid (O1.out.later hb)
  have HB := Lib.hid (HB.out.trans (hb.mono HB.out.size))
  clear ho hb hw F2
  refine hK.out _ _ (HS.out _ (HB.out.mono (Nat.le_of_lt BZ.out.lt))) (fun hHeld => ?_)
  clear hK K
  exact cp6_12_2 _ HOPS.out _ _ HPAN.out HQ.out R1.out l1 R2.out l2 R3.out l3 R4.out l4 HS.out BZ.out HB.out O1.out O2.out D12 _ (by kernel_rfl)
 ·
  go_simp
  obtain ⟨v1, hV⟩ : ∃ V, V = World.alloc v (.cells #[] 3) := ⟨_, rfl⟩
  have hb : Below v.heap.size v v1 := by rw [hV]; exact (Below.refl _ _).alloc (Nat.le_refl _) _
  obtain ⟨g3, hg3⟩ : ∃ g, g = v.heap.size := ⟨_, rfl⟩
  have D23 : Value.ownBlock (Value.slice (some ⟨g2, 0, none⟩) 0 0) ≠ Value.ownBlock (Value.slice (some ⟨g3, 0, none⟩) 0 0) := fun h => by have := F2.out.lt; simp only [Value.ownBlock, Option.some.injEq] at h; omega
  have F3 : Hid (Bk v1 g3 3 #[]) := by show Bk _ _ _ _; rw [hV, hg3]; exact Bk.new rfl
  have O1 := Lib.hid (O1.out.later hb)
  have F2 := Lib.hid (F2.out.later hb)
  have yg3 : wd.heap.size ≤ g3 := by have := HB.out.size; omega
  have HB := Lib.hid (HB.out.trans (hb.mono HB.out.size))
  rw [← hV, ← hg3]
  clear hV hb hg3
  refine hK.out _ _ (HS.out _ (HB.out.mono (Nat.le_of_lt BZ.out.lt))) (fun hHeld => ?_)
  clear hK K
  exact cp6_123_1 _ HOPS.out _ _ HPAN.out HQ.out R1.out l1 R2.out l2 R3.out l3 R4.out l4 HS.out BZ.out HB.out O1.out F2.out yg2 F3.out yg3 D12 D23 _ (by kernel_rfl)
 ·
  go_simp
  obtain ⟨v1, hV⟩ : ∃ V, V = World.alloc v (.cells #[] 53) := ⟨_, rfl⟩
  have hb : Below v.heap.size v v1 := by rw [hV]; exact (Below.refl _ _).alloc (Nat.le_refl _) _
  obtain ⟨g4, hg4⟩ : ∃ g, g = v.heap.size := ⟨_, rfl⟩
  have D14 : Value.ownBlock V1 ≠ Value.ownBlock (Value.slice (some ⟨g4, 0, none⟩) 0 0) := fun h => by have := (O1.out.lt g4 (h)).2; omega
  have D24 : Value.ownBlock (Value.slice (some ⟨g2, 0, none⟩) 0 0) ≠ Value.ownBlock (Value.slice (some ⟨g4, 0, none⟩) 0 0) := fun h => by have := F2.out.lt; simp only [Value.ownBlock, Option.some.injEq] at h; omega
  have F4 : Hid (Bk v1 g4 53 #[]) := by show Bk _ _ _ _; rw [hV, hg4]; exact Bk.new rfl
  have O1 := Lib.hid (O1.out.later hb)
  have F2 := Lib.hid (F2.out.later hb)
  have yg4 : wd.heap.size ≤ g4 := by have := HB.out.size; omega
  have HB := Lib.hid (HB.out.trans (hb.mono HB.out.size))
  rw [← hV, ← hg4]
  clear hV hb hg4
  refine hK.out _ _ (HS.out _ (HB.out.mono (Nat.le_of_lt BZ.out.lt))) (fun hHeld => ?_)
  clear hK K
  exact cp6_124_1 _ HOPS.out _ _ HPAN.out HQ.out R1.out l1 R2.out l2 R3.out l3 R4.out l4 HS.out BZ.out HB.out O1.out F2.out yg2 F4.out yg4 D12 D14 D24 _ (by kernel_rfl)

set_option maxRecDepth 100000 in
set_option maxHeartbeats 4000000 in
theorem cp6_13_1 (ops : Array Oper) (hops : regionIn 1 Try.f77.body = some ops) (Q : Exit → Act → World → Prop) (S : World → Prop) {y : GCase} {A1 A2 A3 A4 : Option Addr} {c1 c2 c3 c4 : Nat} {m1 m2 m3 m4 : Option Nat} {wd v : World} {P Z : Nat} {u0 u3 u6 u9 u10 u12 u14 u16 u17 u18 u20 u21 : Value} {g1 g3 : Nat} {V1 : Value}
  (hpan : PanQ Q)
  (hQ : EndC Q y wd P Z u0)
  (R1 : Rows intC m1 wd wd.heap.size A1 y.marks) (l1 : y.marks.length ≤ 1000)
  (R2 : Rows itemC m2 wd wd.heap.size A2 y.busy) (l2 : y.busy.length ≤ 1000)
  (R3 : Rows intC m3 wd wd.heap.size A3 y.data) (l3 : y.data.length ≤ 1000)
  (R4 : Rows didC m4 wd wd.heap.size A4 y.did) (l4 : y.did.length ≤ 1000)
  (hS : ∀ V : World, Below Z wd V → S V) (BZ : Bk wd Z 43 #[.int .i64 0, .slice none 0 0, .slice none 0 0, .slice none 0 0, .slice none 0 0]) (HB : Below wd.heap.size wd v)
  (O1 : OwnC intC 3 v wd.heap.size V1 y.marks)
  (F3 : Bk v g3 3 #[]) (yg3 : wd.heap.size ≤ g3)
  (listed : Array Bool) (hl : listed = #[true, true, true, true, true, true, false, true, true, false, true, true, true, false, false, true, true, false, false, false]) :
  wpAnyH Try.prog .any ops Q S 7 listed { tmps := List.toArray (u0 :: .pointer (some ⟨P, 0, none⟩) :: .pointer (some ⟨Z, 0, none⟩) :: u3 :: .int .i64 y.state :: .slice (some ⟨g1, 0, none⟩) 0 0 :: u6 :: .slice A1 y.marks.length c1 :: V1 :: u9 :: u10 :: .slice A2 y.busy.length c2 :: u12 :: .slice (some ⟨g3, 0, none⟩) 0 0 :: u14 :: .slice A3 y.data.length c3 :: u16 :: u17 :: u18 :: .slice A4 y.did.length c4 :: u20 :: u21 :: []), defers := [] } v := by
 obtain rfl := Option.some.inj (hops.symm.trans (rfl : regionIn 1 Try.f77.body = some _))
 have HOPS := Lib.hid hops
 have HQ := Lib.hid hQ
 have HPAN := Lib.hid hpan
 have BZ := Lib.hid BZ
 have HB := Lib.hid HB
 have HS := Lib.hid hS
 have R1 := Lib.hid R1
 have R2 := Lib.hid R2
 have R3 := Lib.hid R3
 have R4 := Lib.hid R4
 have O1 := Lib.hid O1
 have F3 := Lib.hid F3
 clear hops hQ hpan hS
 subst hl
 have hHeld : S v := HS.out _ (HB.out.mono (Nat.le_of_lt BZ.out.lt))
 refine wpAnyH_ready (rs := [6, 14]) (by kernel_rfl) (by simp) ?_
 refine AllReadyH.cons rfl (fun K hK => ?_) (AllReadyH.cons rfl (fun K hK => ?_) AllReadyH.nil)
 ·
  go_simp
  obtain ⟨v1, hV⟩ : ∃ V, V = World.alloc v (.cells #[] 111) := ⟨_, rfl⟩
  have hb : Below v.heap.size v v1 := by rw [hV]; exact (Below.refl _ _).alloc (Nat.le_refl _) _
  obtain ⟨g2, hg2⟩ : ∃ g, g = v.heap.size := ⟨_, rfl⟩
  have D12 : Value.ownBlock V1 ≠ Value.ownBlock (Value.slice (some ⟨g2, 0, none⟩) 0 0) := fun h => by have := (O1.out.lt g2 (h)).2; omega
  have D23 : Value.ownBlock (Value.slice (some ⟨g2, 0, none⟩) 0 0) ≠ Value.ownBlock (Value.slice (some ⟨g3, 0, none⟩) 0 0) := fun h => by have := F3.out.lt; simp only [Value.ownBlock, Option.some.injEq] at h; omega
  have F2 : Hid (Bk v1 g2 111 #[]) := by show Bk _ _ _ _; rw [hV, hg2]; exact Bk.new rfl
  have O1 := Lib.hid (O1.out.later hb)
  have F3 := Lib.hid (F3.out.later hb)
  have yg2 : wd.heap.size ≤ g2 := by have := HB.out.size; omega
  have HB := Lib.hid (HB.out.trans (hb.mono HB.out.size))
  rw [← hV, ← hg2]
  clear hV hb hg2
  refine hK.out _ _ (HS.out _ (HB.out.mono (Nat.le_of_lt BZ.out.lt))) (fun hHeld => ?_)
  clear hK K
  exact cp6_123_1 _ HOPS.out _ _ HPAN.out HQ.out R1.out l1 R2.out l2 R3.out l3 R4.out l4 HS.out BZ.out HB.out O1.out F2.out yg2 F3.out yg3 D12 D23 _ (by kernel_rfl)
 ·
  go_simp
  obtain ⟨v1, hV⟩ : ∃ V, V = World.alloc v (.cells #[] 53) := ⟨_, rfl⟩
  have hb : Below v.heap.size v v1 := by rw [hV]; exact (Below.refl _ _).alloc (Nat.le_refl _) _
  obtain ⟨g4, hg4⟩ : ∃ g, g = v.heap.size := ⟨_, rfl⟩
  have D14 : Value.ownBlock V1 ≠ Value.ownBlock (Value.slice (some ⟨g4, 0, none⟩) 0 0) := fun h => by have := (O1.out.lt g4 (h)).2; omega
  have F4 : Hid (Bk v1 g4 53 #[]) := by show Bk _ _ _ _; rw [hV, hg4]; exact Bk.new rfl
  have O1 := Lib.hid (O1.out.later hb)
  have F3 := Lib.hid (F3.out.later hb)
  have yg4 : wd.heap.size ≤ g4 := by have := HB.out.size; omega
  have HB := Lib.hid (HB.out.trans (hb.mono HB.out.size))
  rw [← hV, ← hg4]
  clear hV hb hg4
  refine hK.out _ _ (HS.out _ (HB.out.mono (Nat.le_of_lt BZ.out.lt))) (fun hHeld => ?_)
  clear hK K
  exact cp6_134_1 _ HOPS.out _ _ HPAN.out HQ.out R1.out l1 R2.out l2 R3.out l3 R4.out l4 HS.out BZ.out HB.out O1.out F3.out yg3 F4.out yg4 D14 _ (by kernel_rfl)

set_option maxRecDepth 100000 in
set_option maxHeartbeats 4000000 in
theorem cp6_14_1 (ops : Array Oper) (hops : regionIn 1 Try.f77.body = some ops) (Q : Exit → Act → World → Prop) (S : World → Prop) {y : GCase} {A1 A2 A3 A4 : Option Addr} {c1 c2 c3 c4 : Nat} {m1 m2 m3 m4 : Option Nat} {wd v : World} {P Z : Nat} {u0 u3 u6 u9 u10 u12 u13 u14 u16 u18 u20 u21 : Value} {g1 g4 : Nat} {V1 : Value}
  (hpan : PanQ Q)
  (hQ : EndC Q y wd P Z u0)
  (R1 : Rows intC m1 wd wd.heap.size A1 y.marks) (l1 : y.marks.length ≤ 1000)
  (R2 : Rows itemC m2 wd wd.heap.size A2 y.busy) (l2 : y.busy.length ≤ 1000)
  (R3 : Rows intC m3 wd wd.heap.size A3 y.data) (l3 : y.data.length ≤ 1000)
  (R4 : Rows didC m4 wd wd.heap.size A4 y.did) (l4 : y.did.length ≤ 1000)
  (hS : ∀ V : World, Below Z wd V → S V) (BZ : Bk wd Z 43 #[.int .i64 0, .slice none 0 0, .slice none 0 0, .slice none 0 0, .slice none 0 0]) (HB : Below wd.heap.size wd v)
  (O1 : OwnC intC 3 v wd.heap.size V1 y.marks)
  (F4 : Bk v g4 53 #[]) (yg4 : wd.heap.size ≤ g4)
  (D14 : Value.ownBlock V1 ≠ Value.ownBlock (Value.slice (some ⟨g4, 0, none⟩) 0 0))
  (listed : Array Bool) (hl : listed = #[true, true, true, true, true, true, false, true, true, false, false, true, true, false, true, true, true, false, false, false]) :
  wpAnyH Try.prog .any ops Q S 7 listed { tmps := List.toArray (u0 :: .pointer (some ⟨P, 0, none⟩) :: .pointer (some ⟨Z, 0, none⟩) :: u3 :: .int .i64 y.state :: .slice (some ⟨g1, 0, none⟩) 0 0 :: u6 :: .slice A1 y.marks.length c1 :: V1 :: u9 :: u10 :: .slice A2 y.busy.length c2 :: u12 :: u13 :: u14 :: .slice A3 y.data.length c3 :: u16 :: .slice (some ⟨g4, 0, none⟩) 0 0 :: u18 :: .slice A4 y.did.length c4 :: u20 :: u21 :: []), defers := [] } v := by
 obtain rfl := Option.some.inj (hops.symm.trans (rfl : regionIn 1 Try.f77.body = some _))
 have HOPS := Lib.hid hops
 have HQ := Lib.hid hQ
 have HPAN := Lib.hid hpan
 have BZ := Lib.hid BZ
 have HB := Lib.hid HB
 have HS := Lib.hid hS
 have R1 := Lib.hid R1
 have R2 := Lib.hid R2
 have R3 := Lib.hid R3
 have R4 := Lib.hid R4
 have O1 := Lib.hid O1
 have F4 := Lib.hid F4
 clear hops hQ hpan hS
 subst hl
 have hHeld : S v := HS.out _ (HB.out.mono (Nat.le_of_lt BZ.out.lt))
 refine wpAnyH_ready (rs := [6, 10]) (by kernel_rfl) (by simp) ?_
 refine AllReadyH.cons rfl (fun K hK => ?_) (AllReadyH.cons rfl (fun K hK => ?_) AllReadyH.nil)
 ·
  go_simp
  obtain ⟨v1, hV⟩ : ∃ V, V = World.alloc v (.cells #[] 111) := ⟨_, rfl⟩
  have hb : Below v.heap.size v v1 := by rw [hV]; exact (Below.refl _ _).alloc (Nat.le_refl _) _
  obtain ⟨g2, hg2⟩ : ∃ g, g = v.heap.size := ⟨_, rfl⟩
  have D12 : Value.ownBlock V1 ≠ Value.ownBlock (Value.slice (some ⟨g2, 0, none⟩) 0 0) := fun h => by have := (O1.out.lt g2 (h)).2; omega
  have D24 : Value.ownBlock (Value.slice (some ⟨g2, 0, none⟩) 0 0) ≠ Value.ownBlock (Value.slice (some ⟨g4, 0, none⟩) 0 0) := fun h => by have := F4.out.lt; simp only [Value.ownBlock, Option.some.injEq] at h; omega
  have F2 : Hid (Bk v1 g2 111 #[]) := by show Bk _ _ _ _; rw [hV, hg2]; exact Bk.new rfl
  have O1 := Lib.hid (O1.out.later hb)
  have F4 := Lib.hid (F4.out.later hb)
  have yg2 : wd.heap.size ≤ g2 := by have := HB.out.size; omega
  have HB := Lib.hid (HB.out.trans (hb.mono HB.out.size))
  rw [← hV, ← hg2]
  clear hV hb hg2
  refine hK.out _ _ (HS.out _ (HB.out.mono (Nat.le_of_lt BZ.out.lt))) (fun hHeld => ?_)
  clear hK K
  exact cp6_124_1 _ HOPS.out _ _ HPAN.out HQ.out R1.out l1 R2.out l2 R3.out l3 R4.out l4 HS.out BZ.out HB.out O1.out F2.out yg2 F4.out yg4 D12 D14 D24 _ (by kernel_rfl)
 ·
  go_simp
  obtain ⟨v1, hV⟩ : ∃ V, V = World.alloc v (.cells #[] 3) := ⟨_, rfl⟩
  have hb : Below v.heap.size v v1 := by rw [hV]; exact (Below.refl _ _).alloc (Nat.le_refl _) _
  obtain ⟨g3, hg3⟩ : ∃ g, g = v.heap.size := ⟨_, rfl⟩
  have F3 : Hid (Bk v1 g3 3 #[]) := by show Bk _ _ _ _; rw [hV, hg3]; exact Bk.new rfl
  have O1 := Lib.hid (O1.out.later hb)
  have F4 := Lib.hid (F4.out.later hb)
  have yg3 : wd.heap.size ≤ g3 := by have := HB.out.size; omega
  have HB := Lib.hid (HB.out.trans (hb.mono HB.out.size))
  rw [← hV, ← hg3]
  clear hV hb hg3
  refine hK.out _ _ (HS.out _ (HB.out.mono (Nat.le_of_lt BZ.out.lt))) (fun hHeld => ?_)
  clear hK K
  exact cp6_134_1 _ HOPS.out _ _ HPAN.out HQ.out R1.out l1 R2.out l2 R3.out l3 R4.out l4 HS.out BZ.out HB.out O1.out F3.out yg3 F4.out yg4 D14 _ (by kernel_rfl)

set_option maxRecDepth 100000 in
set_option maxHeartbeats 4000000 in
theorem cp6_123_0 (ops : Array Oper) (hops : regionIn 1 Try.f77.body = some ops) (Q : Exit → Act → World → Prop) (S : World → Prop) {y : GCase} {A1 A2 A3 A4 : Option Addr} {c1 c2 c3 c4 : Nat} {m1 m2 m3 m4 : Option Nat} {wd v : World} {P Z : Nat} {u0 u3 u6 u8 u10 u12 u14 u16 u17 u18 u20 u21 : Value} {g1 g2 g3 : Nat}
  (hpan : PanQ Q)
  (hQ : EndC Q y wd P Z u0)
  (R1 : Rows intC m1 wd wd.heap.size A1 y.marks) (l1 : y.marks.length ≤ 1000)
  (R2 : Rows itemC m2 wd wd.heap.size A2 y.busy) (l2 : y.busy.length ≤ 1000)
  (R3 : Rows intC m3 wd wd.heap.size A3 y.data) (l3 : y.data.length ≤ 1000)
  (R4 : Rows didC m4 wd wd.heap.size A4 y.did) (l4 : y.did.length ≤ 1000)
  (hS : ∀ V : World, Below Z wd V → S V) (BZ : Bk wd Z 43 #[.int .i64 0, .slice none 0 0, .slice none 0 0, .slice none 0 0, .slice none 0 0]) (HB : Below wd.heap.size wd v)
  (F1 : Bk v g1 3 #[]) (yg1 : wd.heap.size ≤ g1)
  (F2 : Bk v g2 111 #[]) (yg2 : wd.heap.size ≤ g2)
  (F3 : Bk v g3 3 #[]) (yg3 : wd.heap.size ≤ g3)
  (D12 : Value.ownBlock (Value.slice (some ⟨g1, 0, none⟩) 0 0) ≠ Value.ownBlock (Value.slice (some ⟨g2, 0, none⟩) 0 0))
  (D23 : Value.ownBlock (Value.slice (some ⟨g2, 0, none⟩) 0 0) ≠ Value.ownBlock (Value.slice (some ⟨g3, 0, none⟩) 0 0))
  (listed : Array Bool) (hl : listed = #[true, true, true, true, true, false, true, true, true, false, true, true, true, false, false, true, true, false, false, false]) :
  wpAnyH Try.prog .any ops Q S 7 listed { tmps := List.toArray (u0 :: .pointer (some ⟨P, 0, none⟩) :: .pointer (some ⟨Z, 0, none⟩) :: u3 :: .int .i64 y.state :: .slice (some ⟨g1, 0, none⟩) 0 0 :: u6 :: .slice A1 y.marks.length c1 :: u8 :: .slice (some ⟨g2, 0, none⟩) 0 0 :: u10 :: .slice A2 y.busy.length c2 :: u12 :: .slice (some ⟨g3, 0, none⟩) 0 0 :: u14 :: .slice A3 y.data.length c3 :: u16 :: u17 :: u18 :: .slice A4 y.did.length c4 :: u20 :: u21 :: []), defers := [] } v := by
 obtain rfl := Option.some.inj (hops.symm.trans (rfl : regionIn 1 Try.f77.body = some _))
 have HOPS := Lib.hid hops
 have HQ := Lib.hid hQ
 have HPAN := Lib.hid hpan
 have BZ := Lib.hid BZ
 have HB := Lib.hid HB
 have HS := Lib.hid hS
 have R1 := Lib.hid R1
 have R2 := Lib.hid R2
 have R3 := Lib.hid R3
 have R4 := Lib.hid R4
 have F1 := Lib.hid F1
 have F2 := Lib.hid F2
 have F3 := Lib.hid F3
 clear hops hQ hpan hS
 subst hl
 have hHeld : S v := HS.out _ (HB.out.mono (Nat.le_of_lt BZ.out.lt))
 refine wpAnyH_ready (rs := [5, 14]) (by kernel_rfl) (by simp) ?_
 refine AllReadyH.cons rfl (fun K hK => ?_) (AllReadyH.cons rfl (fun K hK => ?_) AllReadyH.nil)
 ·
  refine step_lit (cells := fun x : Int => [.int .i64 x]) (hk := fun _ => rfl) rfl (.tmp 5) (.tmp 7) 23 rfl 3 _ 8 Try.underlying23 info_int rfl (by decide) (by decide) (fun x u hu => by simp at hu; subst hu; rfl) g1 wd.heap.size yg1 F1.out rfl A1 c1 wd.heap.size m1 y.marks rfl (R1.out.below HB.out) l1 ?_
  intro V1 v1 ho hb hw
  have D12 : Value.ownBlock V1 ≠ Value.ownBlock (Value.slice (some ⟨g2, 0, none⟩) 0 0) := fun h => by
   have h := h
   rcases hw with hw | hw
   ·
    rw [hw] at h
    exact D12 h
   ·
    rw [hw] at h
    have := F2.out.lt
    simp only [Value.ownBlock, Option.some.injEq] at h
    omega
  have O1 := Lib.hid ho
  have F2 := Lib.hid (F2.out.later hb)
  have F3 := Lib.hid (F3.out.later hb)
  have HB := Lib.hid (HB.out.trans (hb.mono HB.out.size))
  clear ho hb hw F1
  refine hK.out _ _ (HS.out _ (HB.out.mono (Nat.le_of_lt BZ.out.lt))) (fun hHeld => ?_)
  clear hK K
  exact cp6_123_1 _ HOPS.out _ _ HPAN.out HQ.out R1.out l1 R2.out l2 R3.out l3 R4.out l4 HS.out BZ.out HB.out O1.out F2.out yg2 F3.out yg3 D12 D23 _ (by kernel_rfl)
 ·
  go_simp
  obtain ⟨v1, hV⟩ : ∃ V, V = World.alloc v (.cells #[] 53) := ⟨_, rfl⟩
  have hb : Below v.heap.size v v1 := by rw [hV]; exact (Below.refl _ _).alloc (Nat.le_refl _) _
  obtain ⟨g4, hg4⟩ : ∃ g, g = v.heap.size := ⟨_, rfl⟩
  have D14 : Value.ownBlock (Value.slice (some ⟨g1, 0, none⟩) 0 0) ≠ Value.ownBlock (Value.slice (some ⟨g4, 0, none⟩) 0 0) := fun h => by have := F1.out.lt; simp only [Value.ownBlock, Option.some.injEq] at h; omega
  have D24 : Value.ownBlock (Value.slice (some ⟨g2, 0, none⟩) 0 0) ≠ Value.ownBlock (Value.slice (some ⟨g4, 0, none⟩) 0 0) := fun h => by have := F2.out.lt; simp only [Value.ownBlock, Option.some.injEq] at h; omega
  have F4 : Hid (Bk v1 g4 53 #[]) := by show Bk _ _ _ _; rw [hV, hg4]; exact Bk.new rfl
  have F1 := Lib.hid (F1.out.later hb)
  have F2 := Lib.hid (F2.out.later hb)
  have F3 := Lib.hid (F3.out.later hb)
  have yg4 : wd.heap.size ≤ g4 := by have := HB.out.size; omega
  have HB := Lib.hid (HB.out.trans (hb.mono HB.out.size))
  rw [← hV, ← hg4]
  clear hV hb hg4
  refine hK.out _ _ (HS.out _ (HB.out.mono (Nat.le_of_lt BZ.out.lt))) (fun hHeld => ?_)
  clear hK K
  exact cp6_1234_0 _ HOPS.out _ _ HPAN.out HQ.out R1.out l1 R2.out l2 R3.out l3 R4.out l4 HS.out BZ.out HB.out F1.out yg1 F2.out yg2 F3.out yg3 F4.out yg4 D12 D14 D23 D24 _ (by kernel_rfl)

set_option maxRecDepth 100000 in
set_option maxHeartbeats 4000000 in
theorem cp6_124_0 (ops : Array Oper) (hops : regionIn 1 Try.f77.body = some ops) (Q : Exit → Act → World → Prop) (S : World → Prop) {y : GCase} {A1 A2 A3 A4 : Option Addr} {c1 c2 c3 c4 : Nat} {m1 m2 m3 m4 : Option Nat} {wd v : World} {P Z : Nat} {u0 u3 u6 u8 u10 u12 u13 u14 u16 u18 u20 u21 : Value} {g1 g2 g4 : Nat}
  (hpan : PanQ Q)
  (hQ : EndC Q y wd P Z u0)
  (R1 : Rows intC m1 wd wd.heap.size A1 y.marks) (l1 : y.marks.length ≤ 1000)
  (R2 : Rows itemC m2 wd wd.heap.size A2 y.busy) (l2 : y.busy.length ≤ 1000)
  (R3 : Rows intC m3 wd wd.heap.size A3 y.data) (l3 : y.data.length ≤ 1000)
  (R4 : Rows didC m4 wd wd.heap.size A4 y.did) (l4 : y.did.length ≤ 1000)
  (hS : ∀ V : World, Below Z wd V → S V) (BZ : Bk wd Z 43 #[.int .i64 0, .slice none 0 0, .slice none 0 0, .slice none 0 0, .slice none 0 0]) (HB : Below wd.heap.size wd v)
  (F1 : Bk v g1 3 #[]) (yg1 : wd.heap.size ≤ g1)
  (F2 : Bk v g2 111 #[]) (yg2 : wd.heap.size ≤ g2)
  (F4 : Bk v g4 53 #[]) (yg4 : wd.heap.size ≤ g4)
  (D12 : Value.ownBlock (Value.slice (some ⟨g1, 0, none⟩) 0 0) ≠ Value.ownBlock (Value.slice (some ⟨g2, 0, none⟩) 0 0))
  (D14 : Value.ownBlock (Value.slice (some ⟨g1, 0, none⟩) 0 0) ≠ Value.ownBlock (Value.slice (some ⟨g4, 0, none⟩) 0 0))
  (D24 : Value.ownBlock (Value.slice (some ⟨g2, 0, none⟩) 0 0) ≠ Value.ownBlock (Value.slice (some ⟨g4, 0, none⟩) 0 0))
  (listed : Array Bool) (hl : listed = #[true, true, true, true, true, false, true, true, true, false, false, true, true, false, true, true, true, false, false, false]) :
  wpAnyH Try.prog .any ops Q S 7 listed { tmps := List.toArray (u0 :: .pointer (some ⟨P, 0, none⟩) :: .pointer (some ⟨Z, 0, none⟩) :: u3 :: .int .i64 y.state :: .slice (some ⟨g1, 0, none⟩) 0 0 :: u6 :: .slice A1 y.marks.length c1 :: u8 :: .slice (some ⟨g2, 0, none⟩) 0 0 :: u10 :: .slice A2 y.busy.length c2 :: u12 :: u13 :: u14 :: .slice A3 y.data.length c3 :: u16 :: .slice (some ⟨g4, 0, none⟩) 0 0 :: u18 :: .slice A4 y.did.length c4 :: u20 :: u21 :: []), defers := [] } v := by
 obtain rfl := Option.some.inj (hops.symm.trans (rfl : regionIn 1 Try.f77.body = some _))
 have HOPS := Lib.hid hops
 have HQ := Lib.hid hQ
 have HPAN := Lib.hid hpan
 have BZ := Lib.hid BZ
 have HB := Lib.hid HB
 have HS := Lib.hid hS
 have R1 := Lib.hid R1
 have R2 := Lib.hid R2
 have R3 := Lib.hid R3
 have R4 := Lib.hid R4
 have F1 := Lib.hid F1
 have F2 := Lib.hid F2
 have F4 := Lib.hid F4
 clear hops hQ hpan hS
 subst hl
 have hHeld : S v := HS.out _ (HB.out.mono (Nat.le_of_lt BZ.out.lt))
 refine wpAnyH_ready (rs := [5, 10]) (by kernel_rfl) (by simp) ?_
 refine AllReadyH.cons rfl (fun K hK => ?_) (AllReadyH.cons rfl (fun K hK => ?_) AllReadyH.nil)
 ·
  refine step_lit (cells := fun x : Int => [.int .i64 x]) (hk := fun _ => rfl) rfl (.tmp 5) (.tmp 7) 23 rfl 3 _ 8 Try.underlying23 info_int rfl (by decide) (by decide) (fun x u hu => by simp at hu; subst hu; rfl) g1 wd.heap.size yg1 F1.out rfl A1 c1 wd.heap.size m1 y.marks rfl (R1.out.below HB.out) l1 ?_
  intro V1 v1 ho hb hw
  have D12 : Value.ownBlock V1 ≠ Value.ownBlock (Value.slice (some ⟨g2, 0, none⟩) 0 0) := fun h => by
   have h := h
   rcases hw with hw | hw
   ·
    rw [hw] at h
    exact D12 h
   ·
    rw [hw] at h
    have := F2.out.lt
    simp only [Value.ownBlock, Option.some.injEq] at h
    omega
  have D14 : Value.ownBlock V1 ≠ Value.ownBlock (Value.slice (some ⟨g4, 0, none⟩) 0 0) := fun h => by
   have h := h
   rcases hw with hw | hw
   ·
    rw [hw] at h
    exact D14 h
   ·
    rw [hw] at h
    have := F4.out.lt
    simp only [Value.ownBlock, Option.some.injEq] at h
    omega
  have O1 := Lib.hid ho
  have F2 := Lib.hid (F2.out.later hb)
  have F4 := Lib.hid (F4.out.later hb)
  have HB := Lib.hid (HB.out.trans (hb.mono HB.out.size))
  clear ho hb hw F1
  refine hK.out _ _ (HS.out _ (HB.out.mono (Nat.le_of_lt BZ.out.lt))) (fun hHeld => ?_)
  clear hK K
  exact cp6_124_1 _ HOPS.out _ _ HPAN.out HQ.out R1.out l1 R2.out l2 R3.out l3 R4.out l4 HS.out BZ.out HB.out O1.out F2.out yg2 F4.out yg4 D12 D14 D24 _ (by kernel_rfl)
 ·
  go_simp
  obtain ⟨v1, hV⟩ : ∃ V, V = World.alloc v (.cells #[] 3) := ⟨_, rfl⟩
  have hb : Below v.heap.size v v1 := by rw [hV]; exact (Below.refl _ _).alloc (Nat.le_refl _) _
  obtain ⟨g3, hg3⟩ : ∃ g, g = v.heap.size := ⟨_, rfl⟩
  have D23 : Value.ownBlock (Value.slice (some ⟨g2, 0, none⟩) 0 0) ≠ Value.ownBlock (Value.slice (some ⟨g3, 0, none⟩) 0 0) := fun h => by have := F2.out.lt; simp only [Value.ownBlock, Option.some.injEq] at h; omega
  have F3 : Hid (Bk v1 g3 3 #[]) := by show Bk _ _ _ _; rw [hV, hg3]; exact Bk.new rfl
  have F1 := Lib.hid (F1.out.later hb)
  have F2 := Lib.hid (F2.out.later hb)
  have F4 := Lib.hid (F4.out.later hb)
  have yg3 : wd.heap.size ≤ g3 := by have := HB.out.size; omega
  have HB := Lib.hid (HB.out.trans (hb.mono HB.out.size))
  rw [← hV, ← hg3]
  clear hV hb hg3
  refine hK.out _ _ (HS.out _ (HB.out.mono (Nat.le_of_lt BZ.out.lt))) (fun hHeld => ?_)
  clear hK K
  exact cp6_1234_0 _ HOPS.out _ _ HPAN.out HQ.out R1.out l1 R2.out l2 R3.out l3 R4.out l4 HS.out BZ.out HB.out F1.out yg1 F2.out yg2 F3.out yg3 F4.out yg4 D12 D14 D23 D24 _ (by kernel_rfl)

set_option maxRecDepth 100000 in
set_option maxHeartbeats 4000000 in
theorem cp6_134_0 (ops : Array Oper) (hops : regionIn 1 Try.f77.body = some ops) (Q : Exit → Act → World → Prop) (S : World → Prop) {y : GCase} {A1 A2 A3 A4 : Option Addr} {c1 c2 c3 c4 : Nat} {m1 m2 m3 m4 : Option Nat} {wd v : World} {P Z : Nat} {u0 u3 u6 u8 u9 u10 u12 u14 u16 u18 u20 u21 : Value} {g1 g3 g4 : Nat}
  (hpan : PanQ Q)
  (hQ : EndC Q y wd P Z u0)
  (R1 : Rows intC m1 wd wd.heap.size A1 y.marks) (l1 : y.marks.length ≤ 1000)
  (R2 : Rows itemC m2 wd wd.heap.size A2 y.busy) (l2 : y.busy.length ≤ 1000)
  (R3 : Rows intC m3 wd wd.heap.size A3 y.data) (l3 : y.data.length ≤ 1000)
  (R4 : Rows didC m4 wd wd.heap.size A4 y.did) (l4 : y.did.length ≤ 1000)
  (hS : ∀ V : World, Below Z wd V → S V) (BZ : Bk wd Z 43 #[.int .i64 0, .slice none 0 0, .slice none 0 0, .slice none 0 0, .slice none 0 0]) (HB : Below wd.heap.size wd v)
  (F1 : Bk v g1 3 #[]) (yg1 : wd.heap.size ≤ g1)
  (F3 : Bk v g3 3 #[]) (yg3 : wd.heap.size ≤ g3)
  (F4 : Bk v g4 53 #[]) (yg4 : wd.heap.size ≤ g4)
  (D14 : Value.ownBlock (Value.slice (some ⟨g1, 0, none⟩) 0 0) ≠ Value.ownBlock (Value.slice (some ⟨g4, 0, none⟩) 0 0))
  (listed : Array Bool) (hl : listed = #[true, true, true, true, true, false, false, true, true, false, true, true, true, false, true, true, true, false, false, false]) :
  wpAnyH Try.prog .any ops Q S 7 listed { tmps := List.toArray (u0 :: .pointer (some ⟨P, 0, none⟩) :: .pointer (some ⟨Z, 0, none⟩) :: u3 :: .int .i64 y.state :: .slice (some ⟨g1, 0, none⟩) 0 0 :: u6 :: .slice A1 y.marks.length c1 :: u8 :: u9 :: u10 :: .slice A2 y.busy.length c2 :: u12 :: .slice (some ⟨g3, 0, none⟩) 0 0 :: u14 :: .slice A3 y.data.length c3 :: u16 :: .slice (some ⟨g4, 0, none⟩) 0 0 :: u18 :: .slice A4 y.did.length c4 :: u20 :: u21 :: []), defers := [] } v := by
 obtain rfl := Option.some.inj (hops.symm.trans (rfl : regionIn 1 Try.f77.body = some _))
 have HOPS := Lib.hid hops
 have HQ := Lib.hid hQ
 have HPAN := Lib.hid hpan
 have BZ := Lib.hid BZ
 have HB := Lib.hid HB
 have HS := Lib.hid hS
 have R1 := Lib.hid R1
 have R2 := Lib.hid R2
 have R3 := Lib.hid R3
 have R4 := Lib.hid R4
 have F1 := Lib.hid F1
 have F3 := Lib.hid F3
 have F4 := Lib.hid F4
 clear hops hQ hpan hS
 subst hl
 have hHeld : S v := HS.out _ (HB.out.mono (Nat.le_of_lt BZ.out.lt))
 refine wpAnyH_ready (rs := [5, 6]) (by kernel_rfl) (by simp) ?_
 refine AllReadyH.cons rfl (fun K hK => ?_) (AllReadyH.cons rfl (fun K hK => ?_) AllReadyH.nil)
 ·
  refine step_lit (cells := fun x : Int => [.int .i64 x]) (hk := fun _ => rfl) rfl (.tmp 5) (.tmp 7) 23 rfl 3 _ 8 Try.underlying23 info_int rfl (by decide) (by decide) (fun x u hu => by simp at hu; subst hu; rfl) g1 wd.heap.size yg1 F1.out rfl A1 c1 wd.heap.size m1 y.marks rfl (R1.out.below HB.out) l1 ?_
  intro V1 v1 ho hb hw
  have D14 : Value.ownBlock V1 ≠ Value.ownBlock (Value.slice (some ⟨g4, 0, none⟩) 0 0) := fun h => by
   have h := h
   rcases hw with hw | hw
   ·
    rw [hw] at h
    exact D14 h
   ·
    rw [hw] at h
    have := F4.out.lt
    simp only [Value.ownBlock, Option.some.injEq] at h
    omega
  have O1 := Lib.hid ho
  have F3 := Lib.hid (F3.out.later hb)
  have F4 := Lib.hid (F4.out.later hb)
  have HB := Lib.hid (HB.out.trans (hb.mono HB.out.size))
  clear ho hb hw F1
  refine hK.out _ _ (HS.out _ (HB.out.mono (Nat.le_of_lt BZ.out.lt))) (fun hHeld => ?_)
  clear hK K
  exact cp6_134_1 _ HOPS.out _ _ HPAN.out HQ.out R1.out l1 R2.out l2 R3.out l3 R4.out l4 HS.out BZ.out HB.out O1.out F3.out yg3 F4.out yg4 D14 _ (by kernel_rfl)
 ·
  go_simp
  obtain ⟨v1, hV⟩ : ∃ V, V = World.alloc v (.cells #[] 111) := ⟨_, rfl⟩
  have hb : Below v.heap.size v v1 := by rw [hV]; exact (Below.refl _ _).alloc (Nat.le_refl _) _
  obtain ⟨g2, hg2⟩ : ∃ g, g = v.heap.size := ⟨_, rfl⟩
  have D12 : Value.ownBlock (Value.slice (some ⟨g1, 0, none⟩) 0 0) ≠ Value.ownBlock (Value.slice (some ⟨g2, 0, none⟩) 0 0) := fun h => by have := F1.out.lt; simp only [Value.ownBlock, Option.some.injEq] at h; omega
  have D23 : Value.ownBlock (Value.slice (some ⟨g2, 0, none⟩) 0 0) ≠ Value.ownBlock (Value.slice (some ⟨g3, 0, none⟩) 0 0) := fun h => by have := F3.out.lt; simp only [Value.ownBlock, Option.some.injEq] at h; omega
  have D24 : Value.ownBlock (Value.slice (some ⟨g2, 0, none⟩) 0 0) ≠ Value.ownBlock (Value.slice (some ⟨g4, 0, none⟩) 0 0) := fun h => by have := F4.out.lt; simp only [Value.ownBlock, Option.some.injEq] at h; omega
  have F2 : Hid (Bk v1 g2 111 #[]) := by show Bk _ _ _ _; rw [hV, hg2]; exact Bk.new rfl
  have F1 := Lib.hid (F1.out.later hb)
  have F3 := Lib.hid (F3.out.later hb)
  have F4 := Lib.hid (F4.out.later hb)
  have yg2 : wd.heap.size ≤ g2 := by have := HB.out.size; omega
  have HB := Lib.hid (HB.out.trans (hb.mono HB.out.size))
  rw [← hV, ← hg2]
  clear hV hb hg2
  refine hK.out _ _ (HS.out _ (HB.out.mono (Nat.le_of_lt BZ.out.lt))) (fun hHeld => ?_)
  clear hK K
  exact cp6_1234_0 _ HOPS.out _ _ HPAN.out HQ.out R1.out l1 R2.out l2 R3.out l3 R4.out l4 HS.out BZ.out HB.out F1.out yg1 F2.out yg2 F3.out yg3 F4.out yg4 D12 D14 D23 D24 _ (by kernel_rfl)

set_option maxRecDepth 100000 in
set_option maxHeartbeats 4000000 in
theorem cp6_234_0 (ops : Array Oper) (hops : regionIn 1 Try.f77.body = some ops) (Q : Exit → Act → World → Prop) (S : World → Prop) {y : GCase} {A1 A2 A3 A4 : Option Addr} {c1 c2 c3 c4 : Nat} {m1 m2 m3 m4 : Option Nat} {wd v : World} {P Z : Nat} {u0 u3 u5 u6 u8 u10 u12 u14 u16 u18 u20 u21 : Value} {g2 g3 g4 : Nat}
  (hpan : PanQ Q)
  (hQ : EndC Q y wd P Z u0)
  (R1 : Rows intC m1 wd wd.heap.size A1 y.marks) (l1 : y.marks.length ≤ 1000)
  (R2 : Rows itemC m2 wd wd.heap.size A2 y.busy) (l2 : y.busy.length ≤ 1000)
  (R3 : Rows intC m3 wd wd.heap.size A3 y.data) (l3 : y.data.length ≤ 1000)
  (R4 : Rows didC m4 wd wd.heap.size A4 y.did) (l4 : y.did.length ≤ 1000)
  (hS : ∀ V : World, Below Z wd V → S V) (BZ : Bk wd Z 43 #[.int .i64 0, .slice none 0 0, .slice none 0 0, .slice none 0 0, .slice none 0 0]) (HB : Below wd.heap.size wd v)
  (F2 : Bk v g2 111 #[]) (yg2 : wd.heap.size ≤ g2)
  (F3 : Bk v g3 3 #[]) (yg3 : wd.heap.size ≤ g3)
  (F4 : Bk v g4 53 #[]) (yg4 : wd.heap.size ≤ g4)
  (D23 : Value.ownBlock (Value.slice (some ⟨g2, 0, none⟩) 0 0) ≠ Value.ownBlock (Value.slice (some ⟨g3, 0, none⟩) 0 0))
  (D24 : Value.ownBlock (Value.slice (some ⟨g2, 0, none⟩) 0 0) ≠ Value.ownBlock (Value.slice (some ⟨g4, 0, none⟩) 0 0))
  (listed : Array Bool) (hl : listed = #[true, true, false, true, true, false, true, true, true, false, true, true, true, false, true, true, true, false, false, false]) :
  wpAnyH Try.prog .any ops Q S 7 listed { tmps := List.toArray (u0 :: .pointer (some ⟨P, 0, none⟩) :: .pointer (some ⟨Z, 0, none⟩) :: u3 :: .int .i64 y.state :: u5 :: u6 :: .slice A1 y.marks.length c1 :: u8 :: .slice (some ⟨g2, 0, none⟩) 0 0 :: u10 :: .slice A2 y.busy.length c2 :: u12 :: .slice (some ⟨g3, 0, none⟩) 0 0 :: u14 :: .slice A3 y.data.length c3 :: u16 :: .slice (some ⟨g4, 0, none⟩) 0 0 :: u18 :: .slice A4 y.did.length c4 :: u20 :: u21 :: []), defers := [] } v := by
 obtain rfl := Option.some.inj (hops.symm.trans (rfl : regionIn 1 Try.f77.body = some _))
 have HOPS := Lib.hid hops
 have HQ := Lib.hid hQ
 have HPAN := Lib.hid hpan
 have BZ := Lib.hid BZ
 have HB := Lib.hid HB
 have HS := Lib.hid hS
 have R1 := Lib.hid R1
 have R2 := Lib.hid R2
 have R3 := Lib.hid R3
 have R4 := Lib.hid R4
 have F2 := Lib.hid F2
 have F3 := Lib.hid F3
 have F4 := Lib.hid F4
 clear hops hQ hpan hS
 subst hl
 have hHeld : S v := HS.out _ (HB.out.mono (Nat.le_of_lt BZ.out.lt))
 refine wpAnyH_ready (rs := [2]) (by kernel_rfl) (by simp) ?_
 refine AllReadyH.cons rfl (fun K hK => ?_) AllReadyH.nil
 ·
  go_simp
  obtain ⟨v1, hV⟩ : ∃ V, V = World.alloc v (.cells #[] 3) := ⟨_, rfl⟩
  have hb : Below v.heap.size v v1 := by rw [hV]; exact (Below.refl _ _).alloc (Nat.le_refl _) _
  obtain ⟨g1, hg1⟩ : ∃ g, g = v.heap.size := ⟨_, rfl⟩
  have D12 : Value.ownBlock (Value.slice (some ⟨g1, 0, none⟩) 0 0) ≠ Value.ownBlock (Value.slice (some ⟨g2, 0, none⟩) 0 0) := fun h => by have := F2.out.lt; simp only [Value.ownBlock, Option.some.injEq] at h; omega
  have D14 : Value.ownBlock (Value.slice (some ⟨g1, 0, none⟩) 0 0) ≠ Value.ownBlock (Value.slice (some ⟨g4, 0, none⟩) 0 0) := fun h => by have := F4.out.lt; simp only [Value.ownBlock, Option.some.injEq] at h; omega
  have F1 : Hid (Bk v1 g1 3 #[]) := by show Bk _ _ _ _; rw [hV, hg1]; exact Bk.new rfl
  have F2 := Lib.hid (F2.out.later hb)
  have F3 := Lib.hid (F3.out.later hb)
  have F4 := Lib.hid (F4.out.later hb)
  have yg1 : wd.heap.size ≤ g1 := by have := HB.out.size; omega
  have HB := Lib.hid (HB.out.trans (hb.mono HB.out.size))
  rw [← hV, ← hg1]
  clear hV hb hg1
  refine hK.out _ _ (HS.out _ (HB.out.mono (Nat.le_of_lt BZ.out.lt))) (fun hHeld => ?_)
  clear hK K
  exact cp6_1234_0 _ HOPS.out _ _ HPAN.out HQ.out R1.out l1 R2.out l2 R3.out l3 R4.out l4 HS.out BZ.out HB.out F1.out yg1 F2.out yg2 F3.out yg3 F4.out yg4 D12 D14 D23 D24 _ (by kernel_rfl)

set_option maxRecDepth 100000 in
set_option maxHeartbeats 4000000 in
theorem cp6_1_1 (ops : Array Oper) (hops : regionIn 1 Try.f77.body = some ops) (Q : Exit → Act → World → Prop) (S : World → Prop) {y : GCase} {A1 A2 A3 A4 : Option Addr} {c1 c2 c3 c4 : Nat} {m1 m2 m3 m4 : Option Nat} {wd v : World} {P Z : Nat} {u0 u3 u6 u9 u10 u12 u13 u14 u16 u17 u18 u20 u21 : Value} {g1 : Nat} {V1 : Value}
  (hpan : PanQ Q)
  (hQ : EndC Q y wd P Z u0)
  (R1 : Rows intC m1 wd wd.heap.size A1 y.marks) (l1 : y.marks.length ≤ 1000)
  (R2 : Rows itemC m2 wd wd.heap.size A2 y.busy) (l2 : y.busy.length ≤ 1000)
  (R3 : Rows intC m3 wd wd.heap.size A3 y.data) (l3 : y.data.length ≤ 1000)
  (R4 : Rows didC m4 wd wd.heap.size A4 y.did) (l4 : y.did.length ≤ 1000)
  (hS : ∀ V : World, Below Z wd V → S V) (BZ : Bk wd Z 43 #[.int .i64 0, .slice none 0 0, .slice none 0 0, .slice none 0 0, .slice none 0 0]) (HB : Below wd.heap.size wd v)
  (O1 : OwnC intC 3 v wd.heap.size V1 y.marks)
  (listed : Array Bool) (hl : listed = #[true, true, true, true, true, true, false, true, true, false, false, true, true, false, false, true, true, false, false, false]) :
  wpAnyH Try.prog .any ops Q S 8 listed { tmps := List.toArray (u0 :: .pointer (some ⟨P, 0, none⟩) :: .pointer (some ⟨Z, 0, none⟩) :: u3 :: .int .i64 y.state :: .slice (some ⟨g1, 0, none⟩) 0 0 :: u6 :: .slice A1 y.marks.length c1 :: V1 :: u9 :: u10 :: .slice A2 y.busy.length c2 :: u12 :: u13 :: u14 :: .slice A3 y.data.length c3 :: u16 :: u17 :: u18 :: .slice A4 y.did.length c4 :: u20 :: u21 :: []), defers := [] } v := by
 obtain rfl := Option.some.inj (hops.symm.trans (rfl : regionIn 1 Try.f77.body = some _))
 have HOPS := Lib.hid hops
 have HQ := Lib.hid hQ
 have HPAN := Lib.hid hpan
 have BZ := Lib.hid BZ
 have HB := Lib.hid HB
 have HS := Lib.hid hS
 have R1 := Lib.hid R1
 have R2 := Lib.hid R2
 have R3 := Lib.hid R3
 have R4 := Lib.hid R4
 have O1 := Lib.hid O1
 clear hops hQ hpan hS
 subst hl
 have hHeld : S v := HS.out _ (HB.out.mono (Nat.le_of_lt BZ.out.lt))
 refine wpAnyH_ready (rs := [6, 10, 14]) (by kernel_rfl) (by simp) ?_
 refine AllReadyH.cons rfl (fun K hK => ?_) (AllReadyH.cons rfl (fun K hK => ?_) (AllReadyH.cons rfl (fun K hK => ?_) AllReadyH.nil))
 ·
  go_simp
  obtain ⟨v1, hV⟩ : ∃ V, V = World.alloc v (.cells #[] 111) := ⟨_, rfl⟩
  have hb : Below v.heap.size v v1 := by rw [hV]; exact (Below.refl _ _).alloc (Nat.le_refl _) _
  obtain ⟨g2, hg2⟩ : ∃ g, g = v.heap.size := ⟨_, rfl⟩
  have D12 : Value.ownBlock V1 ≠ Value.ownBlock (Value.slice (some ⟨g2, 0, none⟩) 0 0) := fun h => by have := (O1.out.lt g2 (h)).2; omega
  have F2 : Hid (Bk v1 g2 111 #[]) := by show Bk _ _ _ _; rw [hV, hg2]; exact Bk.new rfl
  have O1 := Lib.hid (O1.out.later hb)
  have yg2 : wd.heap.size ≤ g2 := by have := HB.out.size; omega
  have HB := Lib.hid (HB.out.trans (hb.mono HB.out.size))
  rw [← hV, ← hg2]
  clear hV hb hg2
  refine hK.out _ _ (HS.out _ (HB.out.mono (Nat.le_of_lt BZ.out.lt))) (fun hHeld => ?_)
  clear hK K
  exact cp6_12_1 _ HOPS.out _ _ HPAN.out HQ.out R1.out l1 R2.out l2 R3.out l3 R4.out l4 HS.out BZ.out HB.out O1.out F2.out yg2 D12 _ (by kernel_rfl)
 ·
  go_simp
  obtain ⟨v1, hV⟩ : ∃ V, V = World.alloc v (.cells #[] 3) := ⟨_, rfl⟩
  have hb : Below v.heap.size v v1 := by rw [hV]; exact (Below.refl _ _).alloc (Nat.le_refl _) _
  obtain ⟨g3, hg3⟩ : ∃ g, g = v.heap.size := ⟨_, rfl⟩
  have F3 : Hid (Bk v1 g3 3 #[]) := by show Bk _ _ _ _; rw [hV, hg3]; exact Bk.new rfl
  have O1 := Lib.hid (O1.out.later hb)
  have yg3 : wd.heap.size ≤ g3 := by have := HB.out.size; omega
  have HB := Lib.hid (HB.out.trans (hb.mono HB.out.size))
  rw [← hV, ← hg3]
  clear hV hb hg3
  refine hK.out _ _ (HS.out _ (HB.out.mono (Nat.le_of_lt BZ.out.lt))) (fun hHeld => ?_)
  clear hK K
  exact cp6_13_1 _ HOPS.out _ _ HPAN.out HQ.out R1.out l1 R2.out l2 R3.out l3 R4.out l4 HS.out BZ.out HB.out O1.out F3.out yg3 _ (by kernel_rfl)
 ·
  go_simp
  obtain ⟨v1, hV⟩ : ∃ V, V = World.alloc v (.cells #[] 53) := ⟨_, rfl⟩
  have hb : Below v.heap.size v v1 := by rw [hV]; exact (Below.refl _ _).alloc (Nat.le_refl _) _
  obtain ⟨g4, hg4⟩ : ∃ g, g = v.heap.size := ⟨_, rfl⟩
  have D14 : Value.ownBlock V1 ≠ Value.ownBlock (Value.slice (some ⟨g4, 0, none⟩) 0 0) := fun h => by have := (O1.out.lt g4 (h)).2; omega
  have F4 : Hid (Bk v1 g4 53 #[]) := by show Bk _ _ _ _; rw [hV, hg4]; exact Bk.new rfl
  have O1 := Lib.hid (O1.out.later hb)
  have yg4 : wd.heap.size ≤ g4 := by have := HB.out.size; omega
  have HB := Lib.hid (HB.out.trans (hb.mono HB.out.size))
  rw [← hV, ← hg4]
  clear hV hb hg4
  refine hK.out _ _ (HS.out _ (HB.out.mono (Nat.le_of_lt BZ.out.lt))) (fun hHeld => ?_)
  clear hK K
  exact cp6_14_1 _ HOPS.out _ _ HPAN.out HQ.out R1.out l1 R2.out l2 R3.out l3 R4.out l4 HS.out BZ.out HB.out O1.out F4.out yg4 D14 _ (by kernel_rfl)

set_option maxRecDepth 100000 in
set_option maxHeartbeats 4000000 in
theorem cp6_12_0 (ops : Array Oper) (hops : regionIn 1 Try.f77.body = some ops) (Q : Exit → Act → World → Prop) (S : World → Prop) {y : GCase} {A1 A2 A3 A4 : Option Addr} {c1 c2 c3 c4 : Nat} {m1 m2 m3 m4 : Option Nat} {wd v : World} {P Z : Nat} {u0 u3 u6 u8 u10 u12 u13 u14 u16 u17 u18 u20 u21 : Value} {g1 g2 : Nat}
  (hpan : PanQ Q)
  (hQ : EndC Q y wd P Z u0)
  (R1 : Rows intC m1 wd wd.heap.size A1 y.marks) (l1 : y.marks.length ≤ 1000)
  (R2 : Rows itemC m2 wd wd.heap.size A2 y.busy) (l2 : y.busy.length ≤ 1000)
  (R3 : Rows intC m3 wd wd.heap.size A3 y.data) (l3 : y.data.length ≤ 1000)
  (R4 : Rows didC m4 wd wd.heap.size A4 y.did) (l4 : y.did.length ≤ 1000)
  (hS : ∀ V : World, Below Z wd V → S V) (BZ : Bk wd Z 43 #[.int .i64 0, .slice none 0 0, .slice none 0 0, .slice none 0 0, .slice none 0 0]) (HB : Below wd.heap.size wd v)
  (F1 : Bk v g1 3 #[]) (yg1 : wd.heap.size ≤ g1)
  (F2 : Bk v g2 111 #[]) (yg2 : wd.heap.size ≤ g2)
  (D12 : Value.ownBlock (Value.slice (some ⟨g1, 0, none⟩) 0 0) ≠ Value.ownBlock (Value.slice (some ⟨g2, 0, none⟩) 0 0))
  (listed : Array Bool) (hl : listed = #[true, true, true, true, true, false, true, true, true, false, false, true, true, false, false, true, true, false, false, false]) :
  wpAnyH Try.prog .any ops Q S 8 listed { tmps := List.toArray (u0 :: .pointer (some ⟨P, 0, none⟩) :: .pointer (some ⟨Z, 0, none⟩) :: u3 :: .int .i64 y.state :: .slice (some ⟨g1, 0, none⟩) 0 0 :: u6 :: .slice A1 y.marks.length c1 :: u8 :: .slice (some ⟨g2, 0, none⟩) 0 0 :: u10 :: .slice A2 y.busy.length c2 :: u12 :: u13 :: u14 :: .slice A3 y.data.length c3 :: u16 :: u17 :: u18 :: .slice A4 y.did.length c4 :: u20 :: u21 :: []), defers := [] } v := by
 obtain rfl := Option.some.inj (hops.symm.trans (rfl : regionIn 1 Try.f77.body = some _))
 have HOPS := Lib.hid hops
 have HQ := Lib.hid hQ
 have HPAN := Lib.hid hpan
 have BZ := Lib.hid BZ
 have HB := Lib.hid HB
 have HS := Lib.hid hS
 have R1 := Lib.hid R1
 have R2 := Lib.hid R2
 have R3 := Lib.hid R3
 have R4 := Lib.hid R4
 have F1 := Lib.hid F1
 have F2 := Lib.hid F2
 clear hops hQ hpan hS
 subst hl
 have hHeld : S v := HS.out _ (HB.out.mono (Nat.le_of_lt BZ.out.lt))
 refine wpAnyH_ready (rs := [5, 10, 14]) (by kernel_rfl) (by simp) ?_
 refine AllReadyH.cons rfl (fun K hK => ?_) (AllReadyH.cons rfl (fun K hK => ?_) (AllReadyH.cons rfl (fun K hK => ?_) AllReadyH.nil))
 ·
  refine step_lit (cells := fun x : Int => [.int .i64 x]) (hk := fun _ => rfl) rfl (.tmp 5) (.tmp 7) 23 rfl 3 _ 8 Try.underlying23 info_int rfl (by decide) (by decide) (fun x u hu => by simp at hu; subst hu; rfl) g1 wd.heap.size yg1 F1.out rfl A1 c1 wd.heap.size m1 y.marks rfl (R1.out.below HB.out) l1 ?_
  intro V1 v1 ho hb hw
  have D12 : Value.ownBlock V1 ≠ Value.ownBlock (Value.slice (some ⟨g2, 0, none⟩) 0 0) := fun h => by
   have h := h
   rcases hw with hw | hw
   ·
    rw [hw] at h
    exact D12 h
   ·
    rw [hw] at h
    have := F2.out.lt
    simp only [Value.ownBlock, Option.some.injEq] at h
    omega
  have O1 := Lib.hid ho
  have F2 := Lib.hid (F2.out.later hb)
  have HB := Lib.hid (HB.out.trans (hb.mono HB.out.size))
  clear ho hb hw F1
  refine hK.out _ _ (HS.out _ (HB.out.mono (Nat.le_of_lt BZ.out.lt))) (fun hHeld => ?_)
  clear hK K
  exact cp6_12_1 _ HOPS.out _ _ HPAN.out HQ.out R1.out l1 R2.out l2 R3.out l3 R4.out l4 HS.out BZ.out HB.out O1.out F2.out yg2 D12 _ (by kernel_rfl)
 ·
  go_simp
  obtain ⟨v1, hV⟩ : ∃ V, V = World.alloc v (.cells #[] 3) := ⟨_, rfl⟩
  have hb : Below v.heap.size v v1 := by rw [hV]; exact (Below.refl _ _).alloc (Nat.le_refl _) _
  obtain ⟨g3, hg3⟩ : ∃ g, g = v.heap.size := ⟨_, rfl⟩
  have D23 : Value.ownBlock (Value.slice (some ⟨g2, 0, none⟩) 0 0) ≠ Value.ownBlock (Value.slice (some ⟨g3, 0, none⟩) 0 0) := fun h => by have := F2.out.lt; simp only [Value.ownBlock, Option.some.injEq] at h; omega
  have F3 : Hid (Bk v1 g3 3 #[]) := by show Bk _ _ _ _; rw [hV, hg3]; exact Bk.new rfl
  have F1 := Lib.hid (F1.out.later hb)
  have F2 := Lib.hid (F2.out.later hb)
  have yg3 : wd.heap.size ≤ g3 := by have := HB.out.size; omega
  have HB := Lib.hid (HB.out.trans (hb.mono HB.out.size))
  rw [← hV, ← hg3]
  clear hV hb hg3
  refine hK.out _ _ (HS.out _ (HB.out.mono (Nat.le_of_lt BZ.out.lt))) (fun hHeld => ?_)
  clear hK K
  exact cp6_123_0 _ HOPS.out _ _ HPAN.out HQ.out R1.out l1 R2.out l2 R3.out l3 R4.out l4 HS.out BZ.out HB.out F1.out yg1 F2.out yg2 F3.out yg3 D12 D23 _ (by kernel_rfl)
 ·
  go_simp
  obtain ⟨v1, hV⟩ : ∃ V, V = World.alloc v (.cells #[] 53) := ⟨_, rfl⟩
  have hb : Below v.heap.size v v1 := by rw [hV]; exact (Below.refl _ _).alloc (Nat.le_refl _) _
  obtain ⟨g4, hg4⟩ : ∃ g, g = v.heap.size := ⟨_, rfl⟩
  have D14 : Value.ownBlock (Value.slice (some ⟨g1, 0, none⟩) 0 0) ≠ Value.ownBlock (Value.slice (some ⟨g4, 0, none⟩) 0 0) := fun h => by have := F1.out.lt; simp only [Value.ownBlock, Option.some.injEq] at h; omega
  have D24 : Value.ownBlock (Value.slice (some ⟨g2, 0, none⟩) 0 0) ≠ Value.ownBlock (Value.slice (some ⟨g4, 0, none⟩) 0 0) := fun h => by have := F2.out.lt; simp only [Value.ownBlock, Option.some.injEq] at h; omega
  have F4 : Hid (Bk v1 g4 53 #[]) := by show Bk _ _ _ _; rw [hV, hg4]; exact Bk.new rfl
  have F1 := Lib.hid (F1.out.later hb)
  have F2 := Lib.hid (F2.out.later hb)
  have yg4 : wd.heap.size ≤ g4 := by have := HB.out.size; omega
  have HB := Lib.hid (HB.out.trans (hb.mono HB.out.size))
  rw [← hV, ← hg4]
  clear hV hb hg4
  refine hK.out _ _ (HS.out _ (HB.out.mono (Nat.le_of_lt BZ.out.lt))) (fun hHeld => ?_)
  clear hK K
  exact cp6_124_0 _ HOPS.out _ _ HPAN.out HQ.out R1.out l1 R2.out l2 R3.out l3 R4.out l4 HS.out BZ.out HB.out F1.out yg1 F2.out yg2 F4.out yg4 D12 D14 D24 _ (by kernel_rfl)

set_option maxRecDepth 100000 in
set_option maxHeartbeats 4000000 in
theorem cp6_13_0 (ops : Array Oper) (hops : regionIn 1 Try.f77.body = some ops) (Q : Exit → Act → World → Prop) (S : World → Prop) {y : GCase} {A1 A2 A3 A4 : Option Addr} {c1 c2 c3 c4 : Nat} {m1 m2 m3 m4 : Option Nat} {wd v : World} {P Z : Nat} {u0 u3 u6 u8 u9 u10 u12 u14 u16 u17 u18 u20 u21 : Value} {g1 g3 : Nat}
  (hpan : PanQ Q)
  (hQ : EndC Q y wd P Z u0)
  (R1 : Rows intC m1 wd wd.heap.size A1 y.marks) (l1 : y.marks.length ≤ 1000)
  (R2 : Rows itemC m2 wd wd.heap.size A2 y.busy) (l2 : y.busy.length ≤ 1000)
  (R3 : Rows intC m3 wd wd.heap.size A3 y.data) (l3 : y.data.length ≤ 1000)
  (R4 : Rows didC m4 wd wd.heap.size A4 y.did) (l4 : y.did.length ≤ 1000)
  (hS : ∀ V : World, Below Z wd V → S V) (BZ : Bk wd Z 43 #[.int .i64 0, .slice none 0 0, .slice none 0 0, .slice none 0 0, .slice none 0 0]) (HB : Below wd.heap.size wd v)
  (F1 : Bk v g1 3 #[]) (yg1 : wd.heap.size ≤ g1)
  (F3 : Bk v g3 3 #[]) (yg3 : wd.heap.size ≤ g3)
  (listed : Array Bool) (hl : listed = #[true, true, true, true, true, false, false, true, true, false, true, true, true, false, false, true, true, false, false, false]) :
  wpAnyH Try.prog .any ops Q S 8 listed { tmps := List.toArray (u0 :: .pointer (some ⟨P, 0, none⟩) :: .pointer (some ⟨Z, 0, none⟩) :: u3 :: .int .i64 y.state :: .slice (some ⟨g1, 0, none⟩) 0 0 :: u6 :: .slice A1 y.marks.length c1 :: u8 :: u9 :: u10 :: .slice A2 y.busy.length c2 :: u12 :: .slice (some ⟨g3, 0, none⟩) 0 0 :: u14 :: .slice A3 y.data.length c3 :: u16 :: u17 :: u18 :: .slice A4 y.did.length c4 :: u20 :: u21 :: []), defers := [] } v := by
 obtain rfl := Option.some.inj (hops.symm.trans (rfl : regionIn 1 Try.f77.body = some _))
 have HOPS := Lib.hid hops
 have HQ := Lib.hid hQ
 have HPAN := Lib.hid hpan
 have BZ := Lib.hid BZ
 have HB := Lib.hid HB
 have HS := Lib.hid hS
 have R1 := Lib.hid R1
 have R2 := Lib.hid R2
 have R3 := Lib.hid R3
 have R4 := Lib.hid R4
 have F1 := Lib.hid F1
 have F3 := Lib.hid F3
 clear hops hQ hpan hS
 subst hl
 have hHeld : S v := HS.out _ (HB.out.mono (Nat.le_of_lt BZ.out.lt))
 refine wpAnyH_ready (rs := [5, 6, 14]) (by kernel_rfl) (by simp) ?_
 refine AllReadyH.cons rfl (fun K hK => ?_) (AllReadyH.cons rfl (fun K hK => ?_) (AllReadyH.cons rfl (fun K hK => ?_) AllReadyH.nil))
 ·
  refine step_lit (cells := fun x : Int => [.int .i64 x]) (hk := fun _ => rfl) rfl (.tmp 5) (.tmp 7) 23 rfl 3 _ 8 Try.underlying23 info_int rfl (by decide) (by decide) (fun x u hu => by simp at hu; subst hu; rfl) g1 wd.heap.size yg1 F1.out rfl A1 c1 wd.heap.size m1 y.marks rfl (R1.out.below HB.out) l1 ?_
  intro V1 v1 ho hb hw
  have O1 := Lib.hid ho
  have F3 := Lib.hid (F3.out.later hb)
  have HB := Lib.hid (HB.out.trans (hb.mono HB.out.size))
  clear ho hb hw F1
  refine hK.out _ _ (HS.out _ (HB.out.mono (Nat.le_of_lt BZ.out.lt))) (fun hHeld => ?_)
  clear hK K
  exact cp6_13_1 _ HOPS.out _ _ HPAN.out HQ.out R1.out l1 R2.out l2 R3.out l3 R4.out l4 HS.out BZ.out HB.out O1.out F3.out yg3 _ (by kernel_rfl)
 ·
  go_simp
  obtain ⟨v1, hV⟩ : ∃ V, V = World.alloc v (.cells #[] 111) := ⟨_, rfl⟩
  have hb : Below v.heap.size v v1 := by rw [hV]; exact (Below.refl _ _).alloc (Nat.le_refl _) _
  obtain ⟨g2, hg2⟩ : ∃ g, g = v.heap.size := ⟨_, rfl⟩
  have D12 : Value.ownBlock (Value.slice (some ⟨g1, 0, none⟩) 0 0) ≠ Value.ownBlock (Value.slice (some ⟨g2, 0, none⟩) 0 0) := fun h => by have := F1.out.lt; simp only [Value.ownBlock, Option.some.injEq] at h; omega
  have D23 : Value.ownBlock (Value.slice (some ⟨g2, 0, none⟩) 0 0) ≠ Value.ownBlock (Value.slice (some ⟨g3, 0, none⟩) 0 0) := fun h => by have := F3.out.lt; simp only [Value.ownBlock, Option.some.injEq] at h; omega
  have F2 : Hid (Bk v1 g2 111 #[]) := by show Bk _ _ _ _; rw [hV, hg2]; exact Bk.new rfl
  have F1 := Lib.hid (F1.out.later hb)
  have F3 := Lib.hid (F3.out.later hb)
  have yg2 : wd.heap.size ≤ g2 := by have := HB.out.size; omega
  have HB := Lib.hid (HB.out.trans (hb.mono HB.out.size))
  rw [← hV, ← hg2]
  clear hV hb hg2
  refine hK.out _ _ (HS.out _ (HB.out.mono (Nat.le_of_lt BZ.out.lt))) (fun hHeld => ?_)
  clear hK K
  exact cp6_123_0 _ HOPS.out _ _ HPAN.out HQ.out R1.out l1 R2.out l2 R3.out l3 R4.out l4 HS.out BZ.out HB.out F1.out yg1 F2.out yg2 F3.out yg3 D12 D23 _ (by kernel_rfl)
 ·
  go_simp
  obtain ⟨v1, hV⟩ : ∃ V, V = World.alloc v (.cells #[] 53) := ⟨_, rfl⟩
  have hb : Below v.heap.size v v1 := by rw [hV]; exact (Below.refl _ _).alloc (Nat.le_refl _) _
  obtain ⟨g4, hg4⟩ : ∃ g, g = v.heap.size := ⟨_, rfl⟩
  have D14 : Value.ownBlock (Value.slice (some ⟨g1, 0, none⟩) 0 0) ≠ Value.ownBlock (Value.slice (some ⟨g4, 0, none⟩) 0 0) := fun h => by have := F1.out.lt; simp only [Value.ownBlock, Option.some.injEq] at h; omega
  have F4 : Hid (Bk v1 g4 53 #[]) := by show Bk _ _ _ _; rw [hV, hg4]; exact Bk.new rfl
  have F1 := Lib.hid (F1.out.later hb)
  have F3 := Lib.hid (F3.out.later hb)
  have yg4 : wd.heap.size ≤ g4 := by have := HB.out.size; omega
  have HB := Lib.hid (HB.out.trans (hb.mono HB.out.size))
  rw [← hV, ← hg4]
  clear hV hb hg4
  refine hK.out _ _ (HS.out _ (HB.out.mono (Nat.le_of_lt BZ.out.lt))) (fun hHeld => ?_)
  clear hK K
  exact cp6_134_0 _ HOPS.out _ _ HPAN.out HQ.out R1.out l1 R2.out l2 R3.out l3 R4.out l4 HS.out BZ.out HB.out F1.out yg1 F3.out yg3 F4.out yg4 D14 _ (by kernel_rfl)

set_option maxRecDepth 100000 in
set_option maxHeartbeats 4000000 in
theorem cp6_14_0 (ops : Array Oper) (hops : regionIn 1 Try.f77.body = some ops) (Q : Exit → Act → World → Prop) (S : World → Prop) {y : GCase} {A1 A2 A3 A4 : Option Addr} {c1 c2 c3 c4 : Nat} {m1 m2 m3 m4 : Option Nat} {wd v : World} {P Z : Nat} {u0 u3 u6 u8 u9 u10 u12 u13 u14 u16 u18 u20 u21 : Value} {g1 g4 : Nat}
  (hpan : PanQ Q)
  (hQ : EndC Q y wd P Z u0)
  (R1 : Rows intC m1 wd wd.heap.size A1 y.marks) (l1 : y.marks.length ≤ 1000)
  (R2 : Rows itemC m2 wd wd.heap.size A2 y.busy) (l2 : y.busy.length ≤ 1000)
  (R3 : Rows intC m3 wd wd.heap.size A3 y.data) (l3 : y.data.length ≤ 1000)
  (R4 : Rows didC m4 wd wd.heap.size A4 y.did) (l4 : y.did.length ≤ 1000)
  (hS : ∀ V : World, Below Z wd V → S V) (BZ : Bk wd Z 43 #[.int .i64 0, .slice none 0 0, .slice none 0 0, .slice none 0 0, .slice none 0 0]) (HB : Below wd.heap.size wd v)
  (F1 : Bk v g1 3 #[]) (yg1 : wd.heap.size ≤ g1)
  (F4 : Bk v g4 53 #[]) (yg4 : wd.heap.size ≤ g4)
  (D14 : Value.ownBlock (Value.slice (some ⟨g1, 0, none⟩) 0 0) ≠ Value.ownBlock (Value.slice (some ⟨g4, 0, none⟩) 0 0))
  (listed : Array Bool) (hl : listed = #[true, true, true, true, true, false, false, true, true, false, false, true, true, false, true, true, true, false, false, false]) :
  wpAnyH Try.prog .any ops Q S 8 listed { tmps := List.toArray (u0 :: .pointer (some ⟨P, 0, none⟩) :: .pointer (some ⟨Z, 0, none⟩) :: u3 :: .int .i64 y.state :: .slice (some ⟨g1, 0, none⟩) 0 0 :: u6 :: .slice A1 y.marks.length c1 :: u8 :: u9 :: u10 :: .slice A2 y.busy.length c2 :: u12 :: u13 :: u14 :: .slice A3 y.data.length c3 :: u16 :: .slice (some ⟨g4, 0, none⟩) 0 0 :: u18 :: .slice A4 y.did.length c4 :: u20 :: u21 :: []), defers := [] } v := by
 obtain rfl := Option.some.inj (hops.symm.trans (rfl : regionIn 1 Try.f77.body = some _))
 have HOPS := Lib.hid hops
 have HQ := Lib.hid hQ
 have HPAN := Lib.hid hpan
 have BZ := Lib.hid BZ
 have HB := Lib.hid HB
 have HS := Lib.hid hS
 have R1 := Lib.hid R1
 have R2 := Lib.hid R2
 have R3 := Lib.hid R3
 have R4 := Lib.hid R4
 have F1 := Lib.hid F1
 have F4 := Lib.hid F4
 clear hops hQ hpan hS
 subst hl
 have hHeld : S v := HS.out _ (HB.out.mono (Nat.le_of_lt BZ.out.lt))
 refine wpAnyH_ready (rs := [5, 6, 10]) (by kernel_rfl) (by simp) ?_
 refine AllReadyH.cons rfl (fun K hK => ?_) (AllReadyH.cons rfl (fun K hK => ?_) (AllReadyH.cons rfl (fun K hK => ?_) AllReadyH.nil))
 ·
  refine step_lit (cells := fun x : Int => [.int .i64 x]) (hk := fun _ => rfl) rfl (.tmp 5) (.tmp 7) 23 rfl 3 _ 8 Try.underlying23 info_int rfl (by decide) (by decide) (fun x u hu => by simp at hu; subst hu; rfl) g1 wd.heap.size yg1 F1.out rfl A1 c1 wd.heap.size m1 y.marks rfl (R1.out.below HB.out) l1 ?_
  intro V1 v1 ho hb hw
  have D14 : Value.ownBlock V1 ≠ Value.ownBlock (Value.slice (some ⟨g4, 0, none⟩) 0 0) := fun h => by
   have h := h
   rcases hw with hw | hw
   ·
    rw [hw] at h
    exact D14 h
   ·
    rw [hw] at h
    have := F4.out.lt
    simp only [Value.ownBlock, Option.some.injEq] at h
    omega
  have O1 := Lib.hid ho
  have F4 := Lib.hid (F4.out.later hb)
  have HB := Lib.hid (HB.out.trans (hb.mono HB.out.size))
  clear ho hb hw F1
  refine hK.out _ _ (HS.out _ (HB.out.mono (Nat.le_of_lt BZ.out.lt))) (fun hHeld => ?_)
  clear hK K
  exact cp6_14_1 _ HOPS.out _ _ HPAN.out HQ.out R1.out l1 R2.out l2 R3.out l3 R4.out l4 HS.out BZ.out HB.out O1.out F4.out yg4 D14 _ (by kernel_rfl)
 ·
  go_simp
  obtain ⟨v1, hV⟩ : ∃ V, V = World.alloc v (.cells #[] 111) := ⟨_, rfl⟩
  have hb : Below v.heap.size v v1 := by rw [hV]; exact (Below.refl _ _).alloc (Nat.le_refl _) _
  obtain ⟨g2, hg2⟩ : ∃ g, g = v.heap.size := ⟨_, rfl⟩
  have D12 : Value.ownBlock (Value.slice (some ⟨g1, 0, none⟩) 0 0) ≠ Value.ownBlock (Value.slice (some ⟨g2, 0, none⟩) 0 0) := fun h => by have := F1.out.lt; simp only [Value.ownBlock, Option.some.injEq] at h; omega
  have D24 : Value.ownBlock (Value.slice (some ⟨g2, 0, none⟩) 0 0) ≠ Value.ownBlock (Value.slice (some ⟨g4, 0, none⟩) 0 0) := fun h => by have := F4.out.lt; simp only [Value.ownBlock, Option.some.injEq] at h; omega
  have F2 : Hid (Bk v1 g2 111 #[]) := by show Bk _ _ _ _; rw [hV, hg2]; exact Bk.new rfl
  have F1 := Lib.hid (F1.out.later hb)
  have F4 := Lib.hid (F4.out.later hb)
  have yg2 : wd.heap.size ≤ g2 := by have := HB.out.size; omega
  have HB := Lib.hid (HB.out.trans (hb.mono HB.out.size))
  rw [← hV, ← hg2]
  clear hV hb hg2
  refine hK.out _ _ (HS.out _ (HB.out.mono (Nat.le_of_lt BZ.out.lt))) (fun hHeld => ?_)
  clear hK K
  exact cp6_124_0 _ HOPS.out _ _ HPAN.out HQ.out R1.out l1 R2.out l2 R3.out l3 R4.out l4 HS.out BZ.out HB.out F1.out yg1 F2.out yg2 F4.out yg4 D12 D14 D24 _ (by kernel_rfl)
 ·
  go_simp
  obtain ⟨v1, hV⟩ : ∃ V, V = World.alloc v (.cells #[] 3) := ⟨_, rfl⟩
  have hb : Below v.heap.size v v1 := by rw [hV]; exact (Below.refl _ _).alloc (Nat.le_refl _) _
  obtain ⟨g3, hg3⟩ : ∃ g, g = v.heap.size := ⟨_, rfl⟩
  have F3 : Hid (Bk v1 g3 3 #[]) := by show Bk _ _ _ _; rw [hV, hg3]; exact Bk.new rfl
  have F1 := Lib.hid (F1.out.later hb)
  have F4 := Lib.hid (F4.out.later hb)
  have yg3 : wd.heap.size ≤ g3 := by have := HB.out.size; omega
  have HB := Lib.hid (HB.out.trans (hb.mono HB.out.size))
  rw [← hV, ← hg3]
  clear hV hb hg3
  refine hK.out _ _ (HS.out _ (HB.out.mono (Nat.le_of_lt BZ.out.lt))) (fun hHeld => ?_)
  clear hK K
  exact cp6_134_0 _ HOPS.out _ _ HPAN.out HQ.out R1.out l1 R2.out l2 R3.out l3 R4.out l4 HS.out BZ.out HB.out F1.out yg1 F3.out yg3 F4.out yg4 D14 _ (by kernel_rfl)

set_option maxRecDepth 100000 in
set_option maxHeartbeats 4000000 in
theorem cp6_23_0 (ops : Array Oper) (hops : regionIn 1 Try.f77.body = some ops) (Q : Exit → Act → World → Prop) (S : World → Prop) {y : GCase} {A1 A2 A3 A4 : Option Addr} {c1 c2 c3 c4 : Nat} {m1 m2 m3 m4 : Option Nat} {wd v : World} {P Z : Nat} {u0 u3 u5 u6 u8 u10 u12 u14 u16 u17 u18 u20 u21 : Value} {g2 g3 : Nat}
  (hpan : PanQ Q)
  (hQ : EndC Q y wd P Z u0)
  (R1 : Rows intC m1 wd wd.heap.size A1 y.marks) (l1 : y.marks.length ≤ 1000)
  (R2 : Rows itemC m2 wd wd.heap.size A2 y.busy) (l2 : y.busy.length ≤ 1000)
  (R3 : Rows intC m3 wd wd.heap.size A3 y.data) (l3 : y.data.length ≤ 1000)
  (R4 : Rows didC m4 wd wd.heap.size A4 y.did) (l4 : y.did.length ≤ 1000)
  (hS : ∀ V : World, Below Z wd V → S V) (BZ : Bk wd Z 43 #[.int .i64 0, .slice none 0 0, .slice none 0 0, .slice none 0 0, .slice none 0 0]) (HB : Below wd.heap.size wd v)
  (F2 : Bk v g2 111 #[]) (yg2 : wd.heap.size ≤ g2)
  (F3 : Bk v g3 3 #[]) (yg3 : wd.heap.size ≤ g3)
  (D23 : Value.ownBlock (Value.slice (some ⟨g2, 0, none⟩) 0 0) ≠ Value.ownBlock (Value.slice (some ⟨g3, 0, none⟩) 0 0))
  (listed : Array Bool) (hl : listed = #[true, true, false, true, true, false, true, true, true, false, true, true, true, false, false, true, true, false, false, false]) :
  wpAnyH Try.prog .any ops Q S 8 listed { tmps := List.toArray (u0 :: .pointer (some ⟨P, 0, none⟩) :: .pointer (some ⟨Z, 0, none⟩) :: u3 :: .int .i64 y.state :: u5 :: u6 :: .slice A1 y.marks.length c1 :: u8 :: .slice (some ⟨g2, 0, none⟩) 0 0 :: u10 :: .slice A2 y.busy.length c2 :: u12 :: .slice (some ⟨g3, 0, none⟩) 0 0 :: u14 :: .slice A3 y.data.length c3 :: u16 :: u17 :: u18 :: .slice A4 y.did.length c4 :: u20 :: u21 :: []), defers := [] } v := by
 obtain rfl := Option.some.inj (hops.symm.trans (rfl : regionIn 1 Try.f77.body = some _))
 have HOPS := Lib.hid hops
 have HQ := Lib.hid hQ
 have HPAN := Lib.hid hpan
 have BZ := Lib.hid BZ
 have HB := Lib.hid HB
 have HS := Lib.hid hS
 have R1 := Lib.hid R1
 have R2 := Lib.hid R2
 have R3 := Lib.hid R3
 have R4 := Lib.hid R4
 have F2 := Lib.hid F2
 have F3 := Lib.hid F3
 clear hops hQ hpan hS
 subst hl
 have hHeld : S v := HS.out _ (HB.out.mono (Nat.le_of_lt BZ.out.lt))
 refine wpAnyH_ready (rs := [2, 14]) (by kernel_rfl) (by simp) ?_
 refine AllReadyH.cons rfl (fun K hK => ?_) (AllReadyH.cons rfl (fun K hK => ?_) AllReadyH.nil)
 ·
  go_simp
  obtain ⟨v1, hV⟩ : ∃ V, V = World.alloc v (.cells #[] 3) := ⟨_, rfl⟩
  have hb : Below v.heap.size v v1 := by rw [hV]; exact (Below.refl _ _).alloc (Nat.le_refl _) _
  obtain ⟨g1, hg1⟩ : ∃ g, g = v.heap.size := ⟨_, rfl⟩
  have D12 : Value.ownBlock (Value.slice (some ⟨g1, 0, none⟩) 0 0) ≠ Value.ownBlock (Value.slice (some ⟨g2, 0, none⟩) 0 0) := fun h => by have := F2.out.lt; simp only [Value.ownBlock, Option.some.injEq] at h; omega
  have F1 : Hid (Bk v1 g1 3 #[]) := by show Bk _ _ _ _; rw [hV, hg1]; exact Bk.new rfl
  have F2 := Lib.hid (F2.out.later hb)
  have F3 := Lib.hid (F3.out.later hb)
  have yg1 : wd.heap.size ≤ g1 := by have := HB.out.size; omega
  have HB := Lib.hid (HB.out.trans (hb.mono HB.out.size))
  rw [← hV, ← hg1]
  clear hV hb hg1
  refine hK.out _ _ (HS.out _ (HB.out.mono (Nat.le_of_lt BZ.out.lt))) (fun hHeld => ?_)
  clear hK K
  exact cp6_123_0 _ HOPS.out _ _ HPAN.out HQ.out R1.out l1 R2.out l2 R3.out l3 R4.out l4 HS.out BZ.out HB.out F1.out yg1 F2.out yg2 F3.out yg3 D12 D23 _ (by kernel_rfl)
 ·
  go_simp
  obtain ⟨v1, hV⟩ : ∃ V, V = World.alloc v (.cells #[] 53) := ⟨_, rfl⟩
  have hb : Below v.heap.size v v1 := by rw [hV]; exact (Below.refl _ _).alloc (Nat.le_refl _) _
  obtain ⟨g4, hg4⟩ : ∃ g, g = v.heap.size := ⟨_, rfl⟩
  have D24 : Value.ownBlock (Value.slice (some ⟨g2, 0, none⟩) 0 0) ≠ Value.ownBlock (Value.slice (some ⟨g4, 0, none⟩) 0 0) := fun h => by have := F2.out.lt; simp only [Value.ownBlock, Option.some.injEq] at h; omega
  have F4 : Hid (Bk v1 g4 53 #[]) := by show Bk _ _ _ _; rw [hV, hg4]; exact Bk.new rfl
  have F2 := Lib.hid (F2.out.later hb)
  have F3 := Lib.hid (F3.out.later hb)
  have yg4 : wd.heap.size ≤ g4 := by have := HB.out.size; omega
  have HB := Lib.hid (HB.out.trans (hb.mono HB.out.size))
  rw [← hV, ← hg4]
  clear hV hb hg4
  refine hK.out _ _ (HS.out _ (HB.out.mono (Nat.le_of_lt BZ.out.lt))) (fun hHeld => ?_)
  clear hK K
  exact cp6_234_0 _ HOPS.out _ _ HPAN.out HQ.out R1.out l1 R2.out l2 R3.out l3 R4.out l4 HS.out BZ.out HB.out F2.out yg2 F3.out yg3 F4.out yg4 D23 D24 _ (by kernel_rfl)

set_option maxRecDepth 100000 in
set_option maxHeartbeats 4000000 in
theorem cp6_24_0 (ops : Array Oper) (hops : regionIn 1 Try.f77.body = some ops) (Q : Exit → Act → World → Prop) (S : World → Prop) {y : GCase} {A1 A2 A3 A4 : Option Addr} {c1 c2 c3 c4 : Nat} {m1 m2 m3 m4 : Option Nat} {wd v : World} {P Z : Nat} {u0 u3 u5 u6 u8 u10 u12 u13 u14 u16 u18 u20 u21 : Value} {g2 g4 : Nat}
  (hpan : PanQ Q)
  (hQ : EndC Q y wd P Z u0)
  (R1 : Rows intC m1 wd wd.heap.size A1 y.marks) (l1 : y.marks.length ≤ 1000)
  (R2 : Rows itemC m2 wd wd.heap.size A2 y.busy) (l2 : y.busy.length ≤ 1000)
  (R3 : Rows intC m3 wd wd.heap.size A3 y.data) (l3 : y.data.length ≤ 1000)
  (R4 : Rows didC m4 wd wd.heap.size A4 y.did) (l4 : y.did.length ≤ 1000)
  (hS : ∀ V : World, Below Z wd V → S V) (BZ : Bk wd Z 43 #[.int .i64 0, .slice none 0 0, .slice none 0 0, .slice none 0 0, .slice none 0 0]) (HB : Below wd.heap.size wd v)
  (F2 : Bk v g2 111 #[]) (yg2 : wd.heap.size ≤ g2)
  (F4 : Bk v g4 53 #[]) (yg4 : wd.heap.size ≤ g4)
  (D24 : Value.ownBlock (Value.slice (some ⟨g2, 0, none⟩) 0 0) ≠ Value.ownBlock (Value.slice (some ⟨g4, 0, none⟩) 0 0))
  (listed : Array Bool) (hl : listed = #[true, true, false, true, true, false, true, true, true, false, false, true, true, false, true, true, true, false, false, false]) :
  wpAnyH Try.prog .any ops Q S 8 listed { tmps := List.toArray (u0 :: .pointer (some ⟨P, 0, none⟩) :: .pointer (some ⟨Z, 0, none⟩) :: u3 :: .int .i64 y.state :: u5 :: u6 :: .slice A1 y.marks.length c1 :: u8 :: .slice (some ⟨g2, 0, none⟩) 0 0 :: u10 :: .slice A2 y.busy.length c2 :: u12 :: u13 :: u14 :: .slice A3 y.data.length c3 :: u16 :: .slice (some ⟨g4, 0, none⟩) 0 0 :: u18 :: .slice A4 y.did.length c4 :: u20 :: u21 :: []), defers := [] } v := by
 obtain rfl := Option.some.inj (hops.symm.trans (rfl : regionIn 1 Try.f77.body = some _))
 have HOPS := Lib.hid hops
 have HQ := Lib.hid hQ
 have HPAN := Lib.hid hpan
 have BZ := Lib.hid BZ
 have HB := Lib.hid HB
 have HS := Lib.hid hS
 have R1 := Lib.hid R1
 have R2 := Lib.hid R2
 have R3 := Lib.hid R3
 have R4 := Lib.hid R4
 have F2 := Lib.hid F2
 have F4 := Lib.hid F4
 clear hops hQ hpan hS
 subst hl
 have hHeld : S v := HS.out _ (HB.out.mono (Nat.le_of_lt BZ.out.lt))
 refine wpAnyH_ready (rs := [2, 10]) (by kernel_rfl) (by simp) ?_
 refine AllReadyH.cons rfl (fun K hK => ?_) (AllReadyH.cons rfl (fun K hK => ?_) AllReadyH.nil)
 ·
  go_simp
  obtain ⟨v1, hV⟩ : ∃ V, V = World.alloc v (.cells #[] 3) := ⟨_, rfl⟩
  have hb : Below v.heap.size v v1 := by rw [hV]; exact (Below.refl _ _).alloc (Nat.le_refl _) _
  obtain ⟨g1, hg1⟩ : ∃ g, g = v.heap.size := ⟨_, rfl⟩
  have D12 : Value.ownBlock (Value.slice (some ⟨g1, 0, none⟩) 0 0) ≠ Value.ownBlock (Value.slice (some ⟨g2, 0, none⟩) 0 0) := fun h => by have := F2.out.lt; simp only [Value.ownBlock, Option.some.injEq] at h; omega
  have D14 : Value.ownBlock (Value.slice (some ⟨g1, 0, none⟩) 0 0) ≠ Value.ownBlock (Value.slice (some ⟨g4, 0, none⟩) 0 0) := fun h => by have := F4.out.lt; simp only [Value.ownBlock, Option.some.injEq] at h; omega
  have F1 : Hid (Bk v1 g1 3 #[]) := by show Bk _ _ _ _; rw [hV, hg1]; exact Bk.new rfl
  have F2 := Lib.hid (F2.out.later hb)
  have F4 := Lib.hid (F4.out.later hb)
  have yg1 : wd.heap.size ≤ g1 := by have := HB.out.size; omega
  have HB := Lib.hid (HB.out.trans (hb.mono HB.out.size))
  rw [← hV, ← hg1]
  clear hV hb hg1
  refine hK.out _ _ (HS.out _ (HB.out.mono (Nat.le_of_lt BZ.out.lt))) (fun hHeld => ?_)
  clear hK K
  exact cp6_124_0 _ HOPS.out _ _ HPAN.out HQ.out R1.out l1 R2.out l2 R3.out l3 R4.out l4 HS.out BZ.out HB.out F1.out yg1 F2.out yg2 F4.out yg4 D12 D14 D24 _ (by kernel_rfl)
 ·
  go_simp
  obtain ⟨v1, hV⟩ : ∃ V, V = World.alloc v (.cells #[] 3) := ⟨_, rfl⟩
  have hb : Below v.heap.size v v1 := by rw [hV]; exact (Below.refl _ _).alloc (Nat.le_refl _) _
  obtain ⟨g3, hg3⟩ : ∃ g, g = v.heap.size := ⟨_, rfl⟩
  have D23 : Value.ownBlock (Value.slice (some ⟨g2, 0, none⟩) 0 0) ≠ Value.ownBlock (Value.slice (some ⟨g3, 0, none⟩) 0 0) := fun h => by have := F2.out.lt; simp only [Value.ownBlock, Option.some.injEq] at h; omega
  have F3 : Hid (Bk v1 g3 3 #[]) := by show Bk _ _ _ _; rw [hV, hg3]; exact Bk.new rfl
  have F2 := Lib.hid (F2.out.later hb)
  have F4 := Lib.hid (F4.out.later hb)
  have yg3 : wd.heap.size ≤ g3 := by have := HB.out.size; omega
  have HB := Lib.hid (HB.out.trans (hb.mono HB.out.size))
  rw [← hV, ← hg3]
  clear hV hb hg3
  refine hK.out _ _ (HS.out _ (HB.out.mono (Nat.le_of_lt BZ.out.lt))) (fun hHeld => ?_)
  clear hK K
  exact cp6_234_0 _ HOPS.out _ _ HPAN.out HQ.out R1.out l1 R2.out l2 R3.out l3 R4.out l4 HS.out BZ.out HB.out F2.out yg2 F3.out yg3 F4.out yg4 D23 D24 _ (by kernel_rfl)

set_option maxRecDepth 100000 in
set_option maxHeartbeats 4000000 in
theorem cp6_34_0 (ops : Array Oper) (hops : regionIn 1 Try.f77.body = some ops) (Q : Exit → Act → World → Prop) (S : World → Prop) {y : GCase} {A1 A2 A3 A4 : Option Addr} {c1 c2 c3 c4 : Nat} {m1 m2 m3 m4 : Option Nat} {wd v : World} {P Z : Nat} {u0 u3 u5 u6 u8 u9 u10 u12 u14 u16 u18 u20 u21 : Value} {g3 g4 : Nat}
  (hpan : PanQ Q)
  (hQ : EndC Q y wd P Z u0)
  (R1 : Rows intC m1 wd wd.heap.size A1 y.marks) (l1 : y.marks.length ≤ 1000)
  (R2 : Rows itemC m2 wd wd.heap.size A2 y.busy) (l2 : y.busy.length ≤ 1000)
  (R3 : Rows intC m3 wd wd.heap.size A3 y.data) (l3 : y.data.length ≤ 1000)
  (R4 : Rows didC m4 wd wd.heap.size A4 y.did) (l4 : y.did.length ≤ 1000)
  (hS : ∀ V : World, Below Z wd V → S V) (BZ : Bk wd Z 43 #[.int .i64 0, .slice none 0 0, .slice none 0 0, .slice none 0 0, .slice none 0 0]) (HB : Below wd.heap.size wd v)
  (F3 : Bk v g3 3 #[]) (yg3 : wd.heap.size ≤ g3)
  (F4 : Bk v g4 53 #[]) (yg4 : wd.heap.size ≤ g4)
  (listed : Array Bool) (hl : listed = #[true, true, false, true, true, false, false, true, true, false, true, true, true, false, true, true, true, false, false, false]) :
  wpAnyH Try.prog .any ops Q S 8 listed { tmps := List.toArray (u0 :: .pointer (some ⟨P, 0, none⟩) :: .pointer (some ⟨Z, 0, none⟩) :: u3 :: .int .i64 y.state :: u5 :: u6 :: .slice A1 y.marks.length c1 :: u8 :: u9 :: u10 :: .slice A2 y.busy.length c2 :: u12 :: .slice (some ⟨g3, 0, none⟩) 0 0 :: u14 :: .slice A3 y.data.length c3 :: u16 :: .slice (some ⟨g4, 0, none⟩) 0 0 :: u18 :: .slice A4 y.did.length c4 :: u20 :: u21 :: []), defers := [] } v := by
 obtain rfl := Option.some.inj (hops.symm.trans (rfl : regionIn 1 Try.f77.body = some _))
 have HOPS := Lib.hid hops
 have HQ := Lib.hid hQ
 have HPAN := Lib.hid hpan
 have BZ := Lib.hid BZ
 have HB := Lib.hid HB
 have HS := Lib.hid hS
 have R1 := Lib.hid R1
 have R2 := Lib.hid R2
 have R3 := Lib.hid R3
 have R4 := Lib.hid R4
 have F3 := Lib.hid F3
 have F4 := Lib.hid F4
 clear hops hQ hpan hS
 subst hl
 have hHeld : S v := HS.out _ (HB.out.mono (Nat.le_of_lt BZ.out.lt))
 refine wpAnyH_ready (rs := [2, 6]) (by kernel_rfl) (by simp) ?_
 refine AllReadyH.cons rfl (fun K hK => ?_) (AllReadyH.cons rfl (fun K hK => ?_) AllReadyH.nil)
 ·
  go_simp
  obtain ⟨v1, hV⟩ : ∃ V, V = World.alloc v (.cells #[] 3) := ⟨_, rfl⟩
  have hb : Below v.heap.size v v1 := by rw [hV]; exact (Below.refl _ _).alloc (Nat.le_refl _) _
  obtain ⟨g1, hg1⟩ : ∃ g, g = v.heap.size := ⟨_, rfl⟩
  have D14 : Value.ownBlock (Value.slice (some ⟨g1, 0, none⟩) 0 0) ≠ Value.ownBlock (Value.slice (some ⟨g4, 0, none⟩) 0 0) := fun h => by have := F4.out.lt; simp only [Value.ownBlock, Option.some.injEq] at h; omega
  have F1 : Hid (Bk v1 g1 3 #[]) := by show Bk _ _ _ _; rw [hV, hg1]; exact Bk.new rfl
  have F3 := Lib.hid (F3.out.later hb)
  have F4 := Lib.hid (F4.out.later hb)
  have yg1 : wd.heap.size ≤ g1 := by have := HB.out.size; omega
  have HB := Lib.hid (HB.out.trans (hb.mono HB.out.size))
  rw [← hV, ← hg1]
  clear hV hb hg1
  refine hK.out _ _ (HS.out _ (HB.out.mono (Nat.le_of_lt BZ.out.lt))) (fun hHeld => ?_)
  clear hK K
  exact cp6_134_0 _ HOPS.out _ _ HPAN.out HQ.out R1.out l1 R2.out l2 R3.out l3 R4.out l4 HS.out BZ.out HB.out F1.out yg1 F3.out yg3 F4.out yg4 D14 _ (by kernel_rfl)
 ·
  go_simp
  obtain ⟨v1, hV⟩ : ∃ V, V = World.alloc v (.cells #[] 111) := ⟨_, rfl⟩
  have hb : Below v.heap.size v v1 := by rw [hV]; exact (Below.refl _ _).alloc (Nat.le_refl _) _
  obtain ⟨g2, hg2⟩ : ∃ g, g = v.heap.size := ⟨_, rfl⟩
  have D23 : Value.ownBlock (Value.slice (some ⟨g2, 0, none⟩) 0 0) ≠ Value.ownBlock (Value.slice (some ⟨g3, 0, none⟩) 0 0) := fun h => by have := F3.out.lt; simp only [Value.ownBlock, Option.some.injEq] at h; omega
  have D24 : Value.ownBlock (Value.slice (some ⟨g2, 0, none⟩) 0 0) ≠ Value.ownBlock (Value.slice (some ⟨g4, 0, none⟩) 0 0) := fun h => by have := F4.out.lt; simp only [Value.ownBlock, Option.some.injEq] at h; omega
  have F2 : Hid (Bk v1 g2 111 #[]) := by show Bk _ _ _ _; rw [hV, hg2]; exact Bk.new rfl
  have F3 := Lib.hid (F3.out.later hb)
  have F4 := Lib.hid (F4.out.later hb)
  have yg2 : wd.heap.size ≤ g2 := by have := HB.out.size; omega
  have HB := Lib.hid (HB.out.trans (hb.mono HB.out.size))
  rw [← hV, ← hg2]
  clear hV hb hg2
  refine hK.out _ _ (HS.out _ (HB.out.mono (Nat.le_of_lt BZ.out.lt))) (fun hHeld => ?_)
  clear hK K
  exact cp6_234_0 _ HOPS.out _ _ HPAN.out HQ.out R1.out l1 R2.out l2 R3.out l3 R4.out l4 HS.out BZ.out HB.out F2.out yg2 F3.out yg3 F4.out yg4 D23 D24 _ (by kernel_rfl)

set_option maxRecDepth 100000 in
set_option maxHeartbeats 4000000 in
theorem cp6_1_0 (ops : Array Oper) (hops : regionIn 1 Try.f77.body = some ops) (Q : Exit → Act → World → Prop) (S : World → Prop) {y : GCase} {A1 A2 A3 A4 : Option Addr} {c1 c2 c3 c4 : Nat} {m1 m2 m3 m4 : Option Nat} {wd v : World} {P Z : Nat} {u0 u3 u6 u8 u9 u10 u12 u13 u14 u16 u17 u18 u20 u21 : Value} {g1 : Nat}
  (hpan : PanQ Q)
  (hQ : EndC Q y wd P Z u0)
  (R1 : Rows intC m1 wd wd.heap.size A1 y.marks) (l1 : y.marks.length ≤ 1000)
  (R2 : Rows itemC m2 wd wd.heap.size A2 y.busy) (l2 : y.busy.length ≤ 1000)
  (R3 : Rows intC m3 wd wd.heap.size A3 y.data) (l3 : y.data.length ≤ 1000)
  (R4 : Rows didC m4 wd wd.heap.size A4 y.did) (l4 : y.did.length ≤ 1000)
  (hS : ∀ V : World, Below Z wd V → S V) (BZ : Bk wd Z 43 #[.int .i64 0, .slice none 0 0, .slice none 0 0, .slice none 0 0, .slice none 0 0]) (HB : Below wd.heap.size wd v)
  (F1 : Bk v g1 3 #[]) (yg1 : wd.heap.size ≤ g1)
  (listed : Array Bool) (hl : listed = #[true, true, true, true, true, false, false, true, true, false, false, true, true, false, false, true, true, false, false, false]) :
  wpAnyH Try.prog .any ops Q S 9 listed { tmps := List.toArray (u0 :: .pointer (some ⟨P, 0, none⟩) :: .pointer (some ⟨Z, 0, none⟩) :: u3 :: .int .i64 y.state :: .slice (some ⟨g1, 0, none⟩) 0 0 :: u6 :: .slice A1 y.marks.length c1 :: u8 :: u9 :: u10 :: .slice A2 y.busy.length c2 :: u12 :: u13 :: u14 :: .slice A3 y.data.length c3 :: u16 :: u17 :: u18 :: .slice A4 y.did.length c4 :: u20 :: u21 :: []), defers := [] } v := by
 obtain rfl := Option.some.inj (hops.symm.trans (rfl : regionIn 1 Try.f77.body = some _))
 have HOPS := Lib.hid hops
 have HQ := Lib.hid hQ
 have HPAN := Lib.hid hpan
 have BZ := Lib.hid BZ
 have HB := Lib.hid HB
 have HS := Lib.hid hS
 have R1 := Lib.hid R1
 have R2 := Lib.hid R2
 have R3 := Lib.hid R3
 have R4 := Lib.hid R4
 have F1 := Lib.hid F1
 clear hops hQ hpan hS
 subst hl
 have hHeld : S v := HS.out _ (HB.out.mono (Nat.le_of_lt BZ.out.lt))
 refine wpAnyH_ready (rs := [5, 6, 10, 14]) (by kernel_rfl) (by simp) ?_
 refine AllReadyH.cons rfl (fun K hK => ?_) (AllReadyH.cons rfl (fun K hK => ?_) (AllReadyH.cons rfl (fun K hK => ?_) (AllReadyH.cons rfl (fun K hK => ?_) AllReadyH.nil)))
 ·
  refine step_lit (cells := fun x : Int => [.int .i64 x]) (hk := fun _ => rfl) rfl (.tmp 5) (.tmp 7) 23 rfl 3 _ 8 Try.underlying23 info_int rfl (by decide) (by decide) (fun x u hu => by simp at hu; subst hu; rfl) g1 wd.heap.size yg1 F1.out rfl A1 c1 wd.heap.size m1 y.marks rfl (R1.out.below HB.out) l1 ?_
  intro V1 v1 ho hb hw
  have O1 := Lib.hid ho
  have HB := Lib.hid (HB.out.trans (hb.mono HB.out.size))
  clear ho hb hw F1
  refine hK.out _ _ (HS.out _ (HB.out.mono (Nat.le_of_lt BZ.out.lt))) (fun hHeld => ?_)
  clear hK K
  exact cp6_1_1 _ HOPS.out _ _ HPAN.out HQ.out R1.out l1 R2.out l2 R3.out l3 R4.out l4 HS.out BZ.out HB.out O1.out _ (by kernel_rfl)
 ·
  go_simp
  obtain ⟨v1, hV⟩ : ∃ V, V = World.alloc v (.cells #[] 111) := ⟨_, rfl⟩
  have hb : Below v.heap.size v v1 := by rw [hV]; exact (Below.refl _ _).alloc (Nat.le_refl _) _
  obtain ⟨g2, hg2⟩ : ∃ g, g = v.heap.size := ⟨_, rfl⟩
  have D12 : Value.ownBlock (Value.slice (some ⟨g1, 0, none⟩) 0 0) ≠ Value.ownBlock (Value.slice (some ⟨g2, 0, none⟩) 0 0) := fun h => by have := F1.out.lt; simp only [Value.ownBlock, Option.some.injEq] at h; omega
  have F2 : Hid (Bk v1 g2 111 #[]) := by show Bk _ _ _ _; rw [hV, hg2]; exact Bk.new rfl
  have F1 := Lib.hid (F1.out.later hb)
  have yg2 : wd.heap.size ≤ g2 := by have := HB.out.size; omega
  have HB := Lib.hid (HB.out.trans (hb.mono HB.out.size))
  rw [← hV, ← hg2]
  clear hV hb hg2
  refine hK.out _ _ (HS.out _ (HB.out.mono (Nat.le_of_lt BZ.out.lt))) (fun hHeld => ?_)
  clear hK K
  exact cp6_12_0 _ HOPS.out _ _ HPAN.out HQ.out R1.out l1 R2.out l2 R3.out l3 R4.out l4 HS.out BZ.out HB.out F1.out yg1 F2.out yg2 D12 _ (by kernel_rfl)
 ·
  go_simp
  obtain ⟨v1, hV⟩ : ∃ V, V = World.alloc v (.cells #[] 3) := ⟨_, rfl⟩
  have hb : Below v.heap.size v v1 := by rw [hV]; exact (Below.refl _ _).alloc (Nat.le_refl _) _
  obtain ⟨g3, hg3⟩ : ∃ g, g = v.heap.size := ⟨_, rfl⟩
  have F3 : Hid (Bk v1 g3 3 #[]) := by show Bk _ _ _ _; rw [hV, hg3]; exact Bk.new rfl
  have F1 := Lib.hid (F1.out.later hb)
  have yg3 : wd.heap.size ≤ g3 := by have := HB.out.size; omega
  have HB := Lib.hid (HB.out.trans (hb.mono HB.out.size))
  rw [← hV, ← hg3]
  clear hV hb hg3
  refine hK.out _ _ (HS.out _ (HB.out.mono (Nat.le_of_lt BZ.out.lt))) (fun hHeld => ?_)
  clear hK K
  exact cp6_13_0 _ HOPS.out _ _ HPAN.out HQ.out R1.out l1 R2.out l2 R3.out l3 R4.out l4 HS.out BZ.out HB.out F1.out yg1 F3.out yg3 _ (by kernel_rfl)
 ·
  go_simp
  obtain ⟨v1, hV⟩ : ∃ V, V = World.alloc v (.cells #[] 53) := ⟨_, rfl⟩
  have hb : Below v.heap.size v v1 := by rw [hV]; exact (Below.refl _ _).alloc (Nat.le_refl _) _
  obtain ⟨g4, hg4⟩ : ∃ g, g = v.heap.size := ⟨_, rfl⟩
  have D14 : Value.ownBlock (Value.slice (some ⟨g1, 0, none⟩) 0 0) ≠ Value.ownBlock (Value.slice (some ⟨g4, 0, none⟩) 0 0) := fun h => by have := F1.out.lt; simp only [Value.ownBlock, Option.some.injEq] at h; omega
  have F4 : Hid (Bk v1 g4 53 #[]) := by show Bk _ _ _ _; rw [hV, hg4]; exact Bk.new rfl
  have F1 := Lib.hid (F1.out.later hb)
  have yg4 : wd.heap.size ≤ g4 := by have := HB.out.size; omega
  have HB := Lib.hid (HB.out.trans (hb.mono HB.out.size))
  rw [← hV, ← hg4]
  clear hV hb hg4
  refine hK.out _ _ (HS.out _ (HB.out.mono (Nat.le_of_lt BZ.out.lt))) (fun hHeld => ?_)
  clear hK K
  exact cp6_14_0 _ HOPS.out _ _ HPAN.out HQ.out R1.out l1 R2.out l2 R3.out l3 R4.out l4 HS.out BZ.out HB.out F1.out yg1 F4.out yg4 D14 _ (by kernel_rfl)

set_option maxRecDepth 100000 in
set_option maxHeartbeats 4000000 in
theorem cp6_2_0 (ops : Array Oper) (hops : regionIn 1 Try.f77.body = some ops) (Q : Exit → Act → World → Prop) (S : World → Prop) {y : GCase} {A1 A2 A3 A4 : Option Addr} {c1 c2 c3 c4 : Nat} {m1 m2 m3 m4 : Option Nat} {wd v : World} {P Z : Nat} {u0 u3 u5 u6 u8 u10 u12 u13 u14 u16 u17 u18 u20 u21 : Value} {g2 : Nat}
  (hpan : PanQ Q)
  (hQ : EndC Q y wd P Z u0)
  (R1 : Rows intC m1 wd wd.heap.size A1 y.marks) (l1 : y.marks.length ≤ 1000)
  (R2 : Rows itemC m2 wd wd.heap.size A2 y.busy) (l2 : y.busy.length ≤ 1000)
  (R3 : Rows intC m3 wd wd.heap.size A3 y.data) (l3 : y.data.length ≤ 1000)
  (R4 : Rows didC m4 wd wd.heap.size A4 y.did) (l4 : y.did.length ≤ 1000)
  (hS : ∀ V : World, Below Z wd V → S V) (BZ : Bk wd Z 43 #[.int .i64 0, .slice none 0 0, .slice none 0 0, .slice none 0 0, .slice none 0 0]) (HB : Below wd.heap.size wd v)
  (F2 : Bk v g2 111 #[]) (yg2 : wd.heap.size ≤ g2)
  (listed : Array Bool) (hl : listed = #[true, true, false, true, true, false, true, true, true, false, false, true, true, false, false, true, true, false, false, false]) :
  wpAnyH Try.prog .any ops Q S 9 listed { tmps := List.toArray (u0 :: .pointer (some ⟨P, 0, none⟩) :: .pointer (some ⟨Z, 0, none⟩) :: u3 :: .int .i64 y.state :: u5 :: u6 :: .slice A1 y.marks.length c1 :: u8 :: .slice (some ⟨g2, 0, none⟩) 0 0 :: u10 :: .slice A2 y.busy.length c2 :: u12 :: u13 :: u14 :: .slice A3 y.data.length c3 :: u16 :: u17 :: u18 :: .slice A4 y.did.length c4 :: u20 :: u21 :: []), defers := [] } v := by
 obtain rfl := Option.some.inj (hops.symm.trans (rfl : regionIn 1 Try.f77.body = some _))
 have HOPS := Lib.hid hops
 have HQ := Lib.hid hQ
 have HPAN := Lib.hid hpan
 have BZ := Lib.hid BZ
 have HB := Lib.hid HB
 have HS := Lib.hid hS
 have R1 := Lib.hid R1
 have R2 := Lib.hid R2
 have R3 := Lib.hid R3
 have R4 := Lib.hid R4
 have F2 := Lib.hid F2
 clear hops hQ hpan hS
 subst hl
 have hHeld : S v := HS.out _ (HB.out.mono (Nat.le_of_lt BZ.out.lt))
 refine wpAnyH_ready (rs := [2, 10, 14]) (by kernel_rfl) (by simp) ?_
 refine AllReadyH.cons rfl (fun K hK => ?_) (AllReadyH.cons rfl (fun K hK => ?_) (AllReadyH.cons rfl (fun K hK => ?_) AllReadyH.nil))
 ·
  go_simp
  obtain ⟨v1, hV⟩ : ∃ V, V = World.alloc v (.cells #[] 3) := ⟨_, rfl⟩
  have hb : Below v.heap.size v v1 := by rw [hV]; exact (Below.refl _ _).alloc (Nat.le_refl _) _
  obtain ⟨g1, hg1⟩ : ∃ g, g = v.heap.size := ⟨_, rfl⟩
  have D12 : Value.ownBlock (Value.slice (some ⟨g1, 0, none⟩) 0 0) ≠ Value.ownBlock (Value.slice (some ⟨g2, 0, none⟩) 0 0) := fun h => by have := F2.out.lt; simp only [Value.ownBlock, Option.some.injEq] at h; omega
  have F1 : Hid (Bk v1 g1 3 #[]) := by show Bk _ _ _ _; rw [hV, hg1]; exact Bk.new rfl
  have F2 := Lib.hid (F2.out.later hb)
  have yg1 : wd.heap.size ≤ g1 := by have := HB.out.size; omega
  have HB := Lib.hid (HB.out.trans (hb.mono HB.out.size))
  rw [← hV, ← hg1]
  clear hV hb hg1
  refine hK.out _ _ (HS.out _ (HB.out.mono (Nat.le_of_lt BZ.out.lt))) (fun hHeld => ?_)
  clear hK K
  exact cp6_12_0 _ HOPS.out _ _ HPAN.out HQ.out R1.out l1 R2.out l2 R3.out l3 R4.out l4 HS.out BZ.out HB.out F1.out yg1 F2.out yg2 D12 _ (by kernel_rfl)
 ·
  go_simp
  obtain ⟨v1, hV⟩ : ∃ V, V = World.alloc v (.cells #[] 3) := ⟨_, rfl⟩
  have hb : Below v.heap.size v v1 := by rw [hV]; exact (Below.refl _ _).alloc (Nat.le_refl _) _
  obtain ⟨g3, hg3⟩ : ∃ g, g = v.heap.size := ⟨_, rfl⟩
  have D23 : Value.ownBlock (Value.slice (some ⟨g2, 0, none⟩) 0 0) ≠ Value.ownBlock (Value.slice (some ⟨g3, 0, none⟩) 0 0) := fun h => by have := F2.out.lt; simp only [Value.ownBlock, Option.some.injEq] at h; omega
  have F3 : Hid (Bk v1 g3 3 #[]) := by show Bk _ _ _ _; rw [hV, hg3]; exact Bk.new rfl
  have F2 := Lib.hid (F2.out.later hb)
  have yg3 : wd.heap.size ≤ g3 := by have := HB.out.size; omega
  have HB := Lib.hid (HB.out.trans (hb.mono HB.out.size))
  rw [← hV, ← hg3]
  clear hV hb hg3
  refine hK.out _ _ (HS.out _ (HB.out.mono (Nat.le_of_lt BZ.out.lt))) (fun hHeld => ?_)
  clear hK K
  exact cp6_23_0 _ HOPS.out _ _ HPAN.out HQ.out R1.out l1 R2.out l2 R3.out l3 R4.out l4 HS.out BZ.out HB.out F2.out yg2 F3.out yg3 D23 _ (by kernel_rfl)
 ·
  go_simp
  obtain ⟨v1, hV⟩ : ∃ V, V = World.alloc v (.cells #[] 53) := ⟨_, rfl⟩
  have hb : Below v.heap.size v v1 := by rw [hV]; exact (Below.refl _ _).alloc (Nat.le_refl _) _
  obtain ⟨g4, hg4⟩ : ∃ g, g = v.heap.size := ⟨_, rfl⟩
  have D24 : Value.ownBlock (Value.slice (some ⟨g2, 0, none⟩) 0 0) ≠ Value.ownBlock (Value.slice (some ⟨g4, 0, none⟩) 0 0) := fun h => by have := F2.out.lt; simp only [Value.ownBlock, Option.some.injEq] at h; omega
  have F4 : Hid (Bk v1 g4 53 #[]) := by show Bk _ _ _ _; rw [hV, hg4]; exact Bk.new rfl
  have F2 := Lib.hid (F2.out.later hb)
  have yg4 : wd.heap.size ≤ g4 := by have := HB.out.size; omega
  have HB := Lib.hid (HB.out.trans (hb.mono HB.out.size))
  rw [← hV, ← hg4]
  clear hV hb hg4
  refine hK.out _ _ (HS.out _ (HB.out.mono (Nat.le_of_lt BZ.out.lt))) (fun hHeld => ?_)
  clear hK K
  exact cp6_24_0 _ HOPS.out _ _ HPAN.out HQ.out R1.out l1 R2.out l2 R3.out l3 R4.out l4 HS.out BZ.out HB.out F2.out yg2 F4.out yg4 D24 _ (by kernel_rfl)

set_option maxRecDepth 100000 in
set_option maxHeartbeats 4000000 in
theorem cp6_3_0 (ops : Array Oper) (hops : regionIn 1 Try.f77.body = some ops) (Q : Exit → Act → World → Prop) (S : World → Prop) {y : GCase} {A1 A2 A3 A4 : Option Addr} {c1 c2 c3 c4 : Nat} {m1 m2 m3 m4 : Option Nat} {wd v : World} {P Z : Nat} {u0 u3 u5 u6 u8 u9 u10 u12 u14 u16 u17 u18 u20 u21 : Value} {g3 : Nat}
  (hpan : PanQ Q)
  (hQ : EndC Q y wd P Z u0)
  (R1 : Rows intC m1 wd wd.heap.size A1 y.marks) (l1 : y.marks.length ≤ 1000)
  (R2 : Rows itemC m2 wd wd.heap.size A2 y.busy) (l2 : y.busy.length ≤ 1000)
  (R3 : Rows intC m3 wd wd.heap.size A3 y.data) (l3 : y.data.length ≤ 1000)
  (R4 : Rows didC m4 wd wd.heap.size A4 y.did) (l4 : y.did.length ≤ 1000)
  (hS : ∀ V : World, Below Z wd V → S V) (BZ : Bk wd Z 43 #[.int .i64 0, .slice none 0 0, .slice none 0 0, .slice none 0 0, .slice none 0 0]) (HB : Below wd.heap.size wd v)
  (F3 : Bk v g3 3 #[]) (yg3 : wd.heap.size ≤ g3)
  (listed : Array Bool) (hl : listed = #[true, true, false, true, true, false, false, true, true, false, true, true, true, false, false, true, true, false, false, false]) :
  wpAnyH Try.prog .any ops Q S 9 listed { tmps := List.toArray (u0 :: .pointer (some ⟨P, 0, none⟩) :: .pointer (some ⟨Z, 0, none⟩) :: u3 :: .int .i64 y.state :: u5 :: u6 :: .slice A1 y.marks.length c1 :: u8 :: u9 :: u10 :: .slice A2 y.busy.length c2 :: u12 :: .slice (some ⟨g3, 0, none⟩) 0 0 :: u14 :: .slice A3 y.data.length c3 :: u16 :: u17 :: u18 :: .slice A4 y.did.length c4 :: u20 :: u21 :: []), defers := [] } v := by
 obtain rfl := Option.some.inj (hops.symm.trans (rfl : regionIn 1 Try.f77.body = some _))
 have HOPS := Lib.hid hops
 have HQ := Lib.hid hQ
 have HPAN := Lib.hid hpan
 have BZ := Lib.hid BZ
 have HB := Lib.hid HB
 have HS := Lib.hid hS
 have R1 := Lib.hid R1
 have R2 := Lib.hid R2
 have R3 := Lib.hid R3
 have R4 := Lib.hid R4
 have F3 := Lib.hid F3
 clear hops hQ hpan hS
 subst hl
 have hHeld : S v := HS.out _ (HB.out.mono (Nat.le_of_lt BZ.out.lt))
 refine wpAnyH_ready (rs := [2, 6, 14]) (by kernel_rfl) (by simp) ?_
 refine AllReadyH.cons rfl (fun K hK => ?_) (AllReadyH.cons rfl (fun K hK => ?_) (AllReadyH.cons rfl (fun K hK => ?_) AllReadyH.nil))
 ·
  go_simp
  obtain ⟨v1, hV⟩ : ∃ V, V = World.alloc v (.cells #[] 3) := ⟨_, rfl⟩
  have hb : Below v.heap.size v v1 := by rw [hV]; exact (Below.refl _ _).alloc (Nat.le_refl _) _
  obtain ⟨g1, hg1⟩ : ∃ g, g = v.heap.size := ⟨_, rfl⟩
  have F1 : Hid (Bk v1 g1 3 #[]) := by show Bk _ _ _ _; rw [hV, hg1]; exact Bk.new rfl
  have F3 := Lib.hid (F3.out.later hb)
  have yg1 : wd.heap.size ≤ g1 := by have := HB.out.size; omega
  have HB := Lib.hid (HB.out.trans (hb.mono HB.out.size))
  rw [← hV, ← hg1]
  clear hV hb hg1
  refine hK.out _ _ (HS.out _ (HB.out.mono (Nat.le_of_lt BZ.out.lt))) (fun hHeld => ?_)
  clear hK K
  exact cp6_13_0 _ HOPS.out _ _ HPAN.out HQ.out R1.out l1 R2.out l2 R3.out l3 R4.out l4 HS.out BZ.out HB.out F1.out yg1 F3.out yg3 _ (by kernel_rfl)
 ·
  go_simp
  obtain ⟨v1, hV⟩ : ∃ V, V = World.alloc v (.cells #[] 111) := ⟨_, rfl⟩
  have hb : Below v.heap.size v v1 := by rw [hV]; exact (Below.refl _ _).alloc (Nat.le_refl _) _
  obtain ⟨g2, hg2⟩ : ∃ g, g = v.heap.size := ⟨_, rfl⟩
  have D23 : Value.ownBlock (Value.slice (some ⟨g2, 0, none⟩) 0 0) ≠ Value.ownBlock (Value.slice (some ⟨g3, 0, none⟩) 0 0) := fun h => by have := F3.out.lt; simp only [Value.ownBlock, Option.some.injEq] at h; omega
  have F2 : Hid (Bk v1 g2 111 #[]) := by show Bk _ _ _ _; rw [hV, hg2]; exact Bk.new rfl
  have F3 := Lib.hid (F3.out.later hb)
  have yg2 : wd.heap.size ≤ g2 := by have := HB.out.size; omega
  have HB := Lib.hid (HB.out.trans (hb.mono HB.out.size))
  rw [← hV, ← hg2]
  clear hV hb hg2
  refine hK.out _ _ (HS.out _ (HB.out.mono (Nat.le_of_lt BZ.out.lt))) (fun hHeld => ?_)
  clear hK K
  exact cp6_23_0 _ HOPS.out _ _ HPAN.out HQ.out R1.out l1 R2.out l2 R3.out l3 R4.out l4 HS.out BZ.out HB.out F2.out yg2 F3.out yg3 D23 _ (by kernel_rfl)
 ·
  go_simp
  obtain ⟨v1, hV⟩ : ∃ V, V = World.alloc v (.cells #[] 53) := ⟨_, rfl⟩
  have hb : Below v.heap.size v v1 := by rw [hV]; exact (Below.refl _ _).alloc (Nat.le_refl _) _
  obtain ⟨g4, hg4⟩ : ∃ g, g = v.heap.size := ⟨_, rfl⟩
  have F4 : Hid (Bk v1 g4 53 #[]) := by show Bk _ _ _ _; rw [hV, hg4]; exact Bk.new rfl
  have F3 := Lib.hid (F3.out.later hb)
  have yg4 : wd.heap.size ≤ g4 := by have := HB.out.size; omega
  have HB := Lib.hid (HB.out.trans (hb.mono HB.out.size))
  rw [← hV, ← hg4]
  clear hV hb hg4
  refine hK.out _ _ (HS.out _ (HB.out.mono (Nat.le_of_lt BZ.out.lt))) (fun hHeld => ?_)
  clear hK K
  exact cp6_34_0 _ HOPS.out _ _ HPAN.out HQ.out R1.out l1 R2.out l2 R3.out l3 R4.out l4 HS.out BZ.out HB.out F3.out yg3 F4.out yg4 _ (by kernel_rfl)

set_option maxRecDepth 100000 in
set_option maxHeartbeats 4000000 in
theorem cp6_4_0 (ops : Array Oper) (hops : regionIn 1 Try.f77.body = some ops) (Q : Exit → Act → World → Prop) (S : World → Prop) {y : GCase} {A1 A2 A3 A4 : Option Addr} {c1 c2 c3 c4 : Nat} {m1 m2 m3 m4 : Option Nat} {wd v : World} {P Z : Nat} {u0 u3 u5 u6 u8 u9 u10 u12 u13 u14 u16 u18 u20 u21 : Value} {g4 : Nat}
  (hpan : PanQ Q)
  (hQ : EndC Q y wd P Z u0)
  (R1 : Rows intC m1 wd wd.heap.size A1 y.marks) (l1 : y.marks.length ≤ 1000)
  (R2 : Rows itemC m2 wd wd.heap.size A2 y.busy) (l2 : y.busy.length ≤ 1000)
  (R3 : Rows intC m3 wd wd.heap.size A3 y.data) (l3 : y.data.length ≤ 1000)
  (R4 : Rows didC m4 wd wd.heap.size A4 y.did) (l4 : y.did.length ≤ 1000)
  (hS : ∀ V : World, Below Z wd V → S V) (BZ : Bk wd Z 43 #[.int .i64 0, .slice none 0 0, .slice none 0 0, .slice none 0 0, .slice none 0 0]) (HB : Below wd.heap.size wd v)
  (F4 : Bk v g4 53 #[]) (yg4 : wd.heap.size ≤ g4)
  (listed : Array Bool) (hl : listed = #[true, true, false, true, true, false, false, true, true, false, false, true, true, false, true, true, true, false, false, false]) :
  wpAnyH Try.prog .any ops Q S 9 listed { tmps := List.toArray (u0 :: .pointer (some ⟨P, 0, none⟩) :: .pointer (some ⟨Z, 0, none⟩) :: u3 :: .int .i64 y.state :: u5 :: u6 :: .slice A1 y.marks.length c1 :: u8 :: u9 :: u10 :: .slice A2 y.busy.length c2 :: u12 :: u13 :: u14 :: .slice A3 y.data.length c3 :: u16 :: .slice (some ⟨g4, 0, none⟩) 0 0 :: u18 :: .slice A4 y.did.length c4 :: u20 :: u21 :: []), defers := [] } v := by
 obtain rfl := Option.some.inj (hops.symm.trans (rfl : regionIn 1 Try.f77.body = some _))
 have HOPS := Lib.hid hops
 have HQ := Lib.hid hQ
 have HPAN := Lib.hid hpan
 have BZ := Lib.hid BZ
 have HB := Lib.hid HB
 have HS := Lib.hid hS
 have R1 := Lib.hid R1
 have R2 := Lib.hid R2
 have R3 := Lib.hid R3
 have R4 := Lib.hid R4
 have F4 := Lib.hid F4
 clear hops hQ hpan hS
 subst hl
 have hHeld : S v := HS.out _ (HB.out.mono (Nat.le_of_lt BZ.out.lt))
 refine wpAnyH_ready (rs := [2, 6, 10]) (by kernel_rfl) (by simp) ?_
 refine AllReadyH.cons rfl (fun K hK => ?_) (AllReadyH.cons rfl (fun K hK => ?_) (AllReadyH.cons rfl (fun K hK => ?_) AllReadyH.nil))
 ·
  go_simp
  obtain ⟨v1, hV⟩ : ∃ V, V = World.alloc v (.cells #[] 3) := ⟨_, rfl⟩
  have hb : Below v.heap.size v v1 := by rw [hV]; exact (Below.refl _ _).alloc (Nat.le_refl _) _
  obtain ⟨g1, hg1⟩ : ∃ g, g = v.heap.size := ⟨_, rfl⟩
  have D14 : Value.ownBlock (Value.slice (some ⟨g1, 0, none⟩) 0 0) ≠ Value.ownBlock (Value.slice (some ⟨g4, 0, none⟩) 0 0) := fun h => by have := F4.out.lt; simp only [Value.ownBlock, Option.some.injEq] at h; omega
  have F1 : Hid (Bk v1 g1 3 #[]) := by show Bk _ _ _ _; rw [hV, hg1]; exact Bk.new rfl
  have F4 := Lib.hid (F4.out.later hb)
  have yg1 : wd.heap.size ≤ g1 := by have := HB.out.size; omega
  have HB := Lib.hid (HB.out.trans (hb.mono HB.out.size))
  rw [← hV, ← hg1]
  clear hV hb hg1
  refine hK.out _ _ (HS.out _ (HB.out.mono (Nat.le_of_lt BZ.out.lt))) (fun hHeld => ?_)
  clear hK K
  exact cp6_14_0 _ HOPS.out _ _ HPAN.out HQ.out R1.out l1 R2.out l2 R3.out l3 R4.out l4 HS.out BZ.out HB.out F1.out yg1 F4.out yg4 D14 _ (by kernel_rfl)
 ·
  go_simp
  obtain ⟨v1, hV⟩ : ∃ V, V = World.alloc v (.cells #[] 111) := ⟨_, rfl⟩
  have hb : Below v.heap.size v v1 := by rw [hV]; exact (Below.refl _ _).alloc (Nat.le_refl _) _
  obtain ⟨g2, hg2⟩ : ∃ g, g = v.heap.size := ⟨_, rfl⟩
  have D24 : Value.ownBlock (Value.slice (some ⟨g2, 0, none⟩) 0 0) ≠ Value.ownBlock (Value.slice (some ⟨g4, 0, none⟩) 0 0) := fun h => by have := F4.out.lt; simp only [Value.ownBlock, Option.some.injEq] at h; omega
  have F2 : Hid (Bk v1 g2 111 #[]) := by show Bk _ _ _ _; rw [hV, hg2]; exact Bk.new rfl
  have F4 := Lib.hid (F4.out.later hb)
  have yg2 : wd.heap.size ≤ g2 := by have := HB.out.size; omega
  have HB := Lib.hid (HB.out.trans (hb.mono HB.out.size))
  rw [← hV, ← hg2]
  clear hV hb hg2
  refine hK.out _ _ (HS.out _ (HB.out.mono (Nat.le_of_lt BZ.out.lt))) (fun hHeld => ?_)
  clear hK K
  exact cp6_24_0 _ HOPS.out _ _ HPAN.out HQ.out R1.out l1 R2.out l2 R3.out l3 R4.out l4 HS.out BZ.out HB.out F2.out yg2 F4.out yg4 D24 _ (by kernel_rfl)
 ·
  go_simp
  obtain ⟨v1, hV⟩ : ∃ V, V = World.alloc v (.cells #[] 3) := ⟨_, rfl⟩
  have hb : Below v.heap.size v v1 := by rw [hV]; exact (Below.refl _ _).alloc (Nat.le_refl _) _
  obtain ⟨g3, hg3⟩ : ∃ g, g = v.heap.size := ⟨_, rfl⟩
  have F3 : Hid (Bk v1 g3 3 #[]) := by show Bk _ _ _ _; rw [hV, hg3]; exact Bk.new rfl
  have F4 := Lib.hid (F4.out.later hb)
  have yg3 : wd.heap.size ≤ g3 := by have := HB.out.size; omega
  have HB := Lib.hid (HB.out.trans (hb.mono HB.out.size))
  rw [← hV, ← hg3]
  clear hV hb hg3
  refine hK.out _ _ (HS.out _ (HB.out.mono (Nat.le_of_lt BZ.out.lt))) (fun hHeld => ?_)
  clear hK K
  exact cp6_34_0 _ HOPS.out _ _ HPAN.out HQ.out R1.out l1 R2.out l2 R3.out l3 R4.out l4 HS.out BZ.out HB.out F3.out yg3 F4.out yg4 _ (by kernel_rfl)

set_option maxRecDepth 100000 in
set_option maxHeartbeats 4000000 in
theorem cp6_0_0 (ops : Array Oper) (hops : regionIn 1 Try.f77.body = some ops) (Q : Exit → Act → World → Prop) (S : World → Prop) {y : GCase} {A1 A2 A3 A4 : Option Addr} {c1 c2 c3 c4 : Nat} {m1 m2 m3 m4 : Option Nat} {wd v : World} {P Z : Nat} {u0 u3 u5 u6 u8 u9 u10 u12 u13 u14 u16 u17 u18 u20 u21 : Value}
  (hpan : PanQ Q)
  (hQ : EndC Q y wd P Z u0)
  (R1 : Rows intC m1 wd wd.heap.size A1 y.marks) (l1 : y.marks.length ≤ 1000)
  (R2 : Rows itemC m2 wd wd.heap.size A2 y.busy) (l2 : y.busy.length ≤ 1000)
  (R3 : Rows intC m3 wd wd.heap.size A3 y.data) (l3 : y.data.length ≤ 1000)
  (R4 : Rows didC m4 wd wd.heap.size A4 y.did) (l4 : y.did.length ≤ 1000)
  (hS : ∀ V : World, Below Z wd V → S V) (BZ : Bk wd Z 43 #[.int .i64 0, .slice none 0 0, .slice none 0 0, .slice none 0 0, .slice none 0 0]) (HB : Below wd.heap.size wd v)
  (listed : Array Bool) (hl : listed = #[true, true, false, true, true, false, false, true, true, false, false, true, true, false, false, true, true, false, false, false]) :
  wpAnyH Try.prog .any ops Q S 10 listed { tmps := List.toArray (u0 :: .pointer (some ⟨P, 0, none⟩) :: .pointer (some ⟨Z, 0, none⟩) :: u3 :: .int .i64 y.state :: u5 :: u6 :: .slice A1 y.marks.length c1 :: u8 :: u9 :: u10 :: .slice A2 y.busy.length c2 :: u12 :: u13 :: u14 :: .slice A3 y.data.length c3 :: u16 :: u17 :: u18 :: .slice A4 y.did.length c4 :: u20 :: u21 :: []), defers := [] } v := by
 obtain rfl := Option.some.inj (hops.symm.trans (rfl : regionIn 1 Try.f77.body = some _))
 have HOPS := Lib.hid hops
 have HQ := Lib.hid hQ
 have HPAN := Lib.hid hpan
 have BZ := Lib.hid BZ
 have HB := Lib.hid HB
 have HS := Lib.hid hS
 have R1 := Lib.hid R1
 have R2 := Lib.hid R2
 have R3 := Lib.hid R3
 have R4 := Lib.hid R4
 clear hops hQ hpan hS
 subst hl
 have hHeld : S v := HS.out _ (HB.out.mono (Nat.le_of_lt BZ.out.lt))
 refine wpAnyH_ready (rs := [2, 6, 10, 14]) (by kernel_rfl) (by simp) ?_
 refine AllReadyH.cons rfl (fun K hK => ?_) (AllReadyH.cons rfl (fun K hK => ?_) (AllReadyH.cons rfl (fun K hK => ?_) (AllReadyH.cons rfl (fun K hK => ?_) AllReadyH.nil)))
 ·
  go_simp
  obtain ⟨v1, hV⟩ : ∃ V, V = World.alloc v (.cells #[] 3) := ⟨_, rfl⟩
  have hb : Below v.heap.size v v1 := by rw [hV]; exact (Below.refl _ _).alloc (Nat.le_refl _) _
  obtain ⟨g1, hg1⟩ : ∃ g, g = v.heap.size := ⟨_, rfl⟩
  have F1 : Hid (Bk v1 g1 3 #[]) := by show Bk _ _ _ _; rw [hV, hg1]; exact Bk.new rfl
  have yg1 : wd.heap.size ≤ g1 := by have := HB.out.size; omega
  have HB := Lib.hid (HB.out.trans (hb.mono HB.out.size))
  rw [← hV, ← hg1]
  clear hV hb hg1
  refine hK.out _ _ (HS.out _ (HB.out.mono (Nat.le_of_lt BZ.out.lt))) (fun hHeld => ?_)
  clear hK K
  exact cp6_1_0 _ HOPS.out _ _ HPAN.out HQ.out R1.out l1 R2.out l2 R3.out l3 R4.out l4 HS.out BZ.out HB.out F1.out yg1 _ (by kernel_rfl)
 ·
  go_simp
  obtain ⟨v1, hV⟩ : ∃ V, V = World.alloc v (.cells #[] 111) := ⟨_, rfl⟩
  have hb : Below v.heap.size v v1 := by rw [hV]; exact (Below.refl _ _).alloc (Nat.le_refl _) _
  obtain ⟨g2, hg2⟩ : ∃ g, g = v.heap.size := ⟨_, rfl⟩
  have F2 : Hid (Bk v1 g2 111 #[]) := by show Bk _ _ _ _; rw [hV, hg2]; exact Bk.new rfl
  have yg2 : wd.heap.size ≤ g2 := by have := HB.out.size; omega
  have HB := Lib.hid (HB.out.trans (hb.mono HB.out.size))
  rw [← hV, ← hg2]
  clear hV hb hg2
  refine hK.out _ _ (HS.out _ (HB.out.mono (Nat.le_of_lt BZ.out.lt))) (fun hHeld => ?_)
  clear hK K
  exact cp6_2_0 _ HOPS.out _ _ HPAN.out HQ.out R1.out l1 R2.out l2 R3.out l3 R4.out l4 HS.out BZ.out HB.out F2.out yg2 _ (by kernel_rfl)
 ·
  go_simp
  obtain ⟨v1, hV⟩ : ∃ V, V = World.alloc v (.cells #[] 3) := ⟨_, rfl⟩
  have hb : Below v.heap.size v v1 := by rw [hV]; exact (Below.refl _ _).alloc (Nat.le_refl _) _
  obtain ⟨g3, hg3⟩ : ∃ g, g = v.heap.size := ⟨_, rfl⟩
  have F3 : Hid (Bk v1 g3 3 #[]) := by show Bk _ _ _ _; rw [hV, hg3]; exact Bk.new rfl
  have yg3 : wd.heap.size ≤ g3 := by have := HB.out.size; omega
  have HB := Lib.hid (HB.out.trans (hb.mono HB.out.size))
  rw [← hV, ← hg3]
  clear hV hb hg3
  refine hK.out _ _ (HS.out _ (HB.out.mono (Nat.le_of_lt BZ.out.lt))) (fun hHeld => ?_)
  clear hK K
  exact cp6_3_0 _ HOPS.out _ _ HPAN.out HQ.out R1.out l1 R2.out l2 R3.out l3 R4.out l4 HS.out BZ.out HB.out F3.out yg3 _ (by kernel_rfl)
 ·
  go_simp
  obtain ⟨v1, hV⟩ : ∃ V, V = World.alloc v (.cells #[] 53) := ⟨_, rfl⟩
  have hb : Below v.heap.size v v1 := by rw [hV]; exact (Below.refl _ _).alloc (Nat.le_refl _) _
  obtain ⟨g4, hg4⟩ : ∃ g, g = v.heap.size := ⟨_, rfl⟩
  have F4 : Hid (Bk v1 g4 53 #[]) := by show Bk _ _ _ _; rw [hV, hg4]; exact Bk.new rfl
  have yg4 : wd.heap.size ≤ g4 := by have := HB.out.size; omega
  have HB := Lib.hid (HB.out.trans (hb.mono HB.out.size))
  rw [← hV, ← hg4]
  clear hV hb hg4
  refine hK.out _ _ (HS.out _ (HB.out.mono (Nat.le_of_lt BZ.out.lt))) (fun hHeld => ?_)
  clear hK K
  exact cp6_4_0 _ HOPS.out _ _ HPAN.out HQ.out R1.out l1 R2.out l2 R3.out l3 R4.out l4 HS.out BZ.out HB.out F4.out yg4 _ (by kernel_rfl)

end Go.Proofs.Ytjieilicjdoaaaa
