/- CasCase: how its struct reads, its copies, its comparison. -/
import Derived.Test.YtkoaaagmcjjimaaGreatCopyDid
import Derived.Test.YtkoaaagmcjjimaaGreatCopyItem
namespace Go.Proofs.YtkoaaagmcjjimaaGreat
open Go.RowKit

structure GCase where
  state : Int
  marks : List Int
  busy : List GItem
  data : List Int
  did : List GDid

/-- The cells of a CasCase. -/
def CaseR (m : Option Nat) (w : World) (B : Nat) (x : GCase) (cs : List Value) : Prop :=
  ∃ A1 c1 A2 c2 A3 c3 A4 c4, cs = [.int .i64 x.state, .slice A1 x.marks.length c1, .slice A2 x.busy.length c2, .slice A3 x.data.length c3, .slice A4 x.did.length c4] ∧
    Rows intC m w B A1 x.marks ∧ Rows itemC m w B A2 x.busy ∧ Rows intC m w B A3 x.data ∧ Rows didC m w B A4 x.did

def caseC : Cod GCase :=
  { k := 5, R := CaseR,
    keep := fun h ha => by
      obtain ⟨A1, c1, A2, c2, A3, c3, A4, c4, rfl, h1, h2, h3, h4⟩ := h
      exact ⟨A1, c1, A2, c2, A3, c3, A4, c4, rfl, h1.keep ha, h2.keep ha, h3.keep ha, h4.keep ha⟩,
    more := fun h hB => by
      obtain ⟨A1, c1, A2, c2, A3, c3, A4, c4, rfl, h1, h2, h3, h4⟩ := h
      exact ⟨A1, c1, A2, c2, A3, c3, A4, c4, rfl, h1.more hB, h2.more hB, h3.more hB, h4.more hB⟩,
    weak := fun h hm => by
      obtain ⟨A1, c1, A2, c2, A3, c3, A4, c4, rfl, h1, h2, h3, h4⟩ := h
      exact ⟨A1, c1, A2, c2, A3, c3, A4, c4, rfl, h1.weak hm, h2.weak hm, h3.weak hm, h4.weak hm⟩,
    len := fun h => by
      obtain ⟨A1, c1, A2, c2, A3, c3, A4, c4, rfl, _, _, _, _⟩ := h
      rfl }

set_option maxHeartbeats 1000000 in
theorem laws_toCasCase (x : GCase) (A1 A2 A3 A4 : Option Addr) (c1 c2 c3 c4 : Nat) (m : Option Nat) (w : World)
    (h1 : Rows intC m w w.heap.size A1 x.marks) (h2 : Rows itemC m w w.heap.size A2 x.busy) (h3 : Rows intC m w w.heap.size A3 x.data) (h4 : Rows didC m w w.heap.size A4 x.did)
    (l1 : x.marks.length ≤ 1048576) (l2 : x.busy.length ≤ 1048576) (l3 : x.data.length ≤ 1048576) (l4 : x.did.length ≤ 1048576) :
    Calls Tryz.prog 9 #[.agg #[.int .i64 x.state, .slice A1 x.marks.length c1, .slice A2 x.busy.length c2, .slice A3 x.data.length c3, .slice A4 x.did.length c4]] w (MadeR caseC x w) := by
  have H1 := Lib.hid h1.ints
  have H2 := Lib.hid h2
  have H3 := Lib.hid h3.ints
  have H4 := Lib.hid h4
  clear h1 h2 h3 h4
  go_enter Tryz.func9, Tryz.ntmps9
  go_wp2_with fail
  refine callsAt fun W0 hW0 => ?_
  have b0 : Bk W0 w.heap.size 29 #[.int .i64 x.state, .slice A1 x.marks.length c1, .slice A2 x.busy.length c2, .slice A3 x.data.length c3, .slice A4 x.did.length c4] := by rw [hW0]; exact ((Bk.new rfl).alloc _).alloc _
  have b1 : Bk W0 (w.heap.size + 1) 41 #[.int .i64 0, .slice none 0 0, .slice none 0 0, .slice none 0 0, .slice none 0 0] := by rw [hW0]; exact (Bk.new (by simp)).alloc _
  have b2 : Bk W0 (w.heap.size + 1 + 1) 41 #[.int .i64 x.state, .slice none 0 0, .slice none 0 0, .slice none 0 0, .slice none 0 0] := by rw [hW0]; exact Bk.new (by simp)
  have hB : Below w.heap.size w W0 := by rw [hW0]; go_grown
  have hz : w.heap.size + 3 ≤ W0.heap.size := by rw [hW0]; simp only [World.size_alloc]; omega
  clear hW0
  refine (laws_toIntS _ _ x.marks _ w.heap.size (by omega) (H1.out.below hB) l1).mono ?_
  rintro e w0 ⟨rfl, hw, hb⟩
  have R1 := Lib.hid (hw.rows (lo := w.heap.size + 3) (by omega) hz hw.lt)
  have HBw := Lib.hid (hB.trans (hb.mono (by omega)))
  have hzw : w.heap.size + 3 ≤ w0.heap.size := by have := hb.size; omega
  have b0 := b0.later hb
  have b1 := b1.later hb
  have b2 := b2.later hb
  have k0 := fun i => b0.cell i
  have k1 := fun i => b1.cell i
  have k2 := fun i => b2.cell i
  have f1 := fun i => b1.frozen i
  have f2 := fun i => b2.frozen i
  have B0 := Lib.hid b0
  have B1 := Lib.hid b1
  have B2 := Lib.hid b2
  clear hw hb hB hz b0 b1 b2
  go_wp2_with fail
  refine callsAt fun W1 hW1 => ?_
  have b0 : Bk W1 w.heap.size 29 #[.int .i64 x.state, .slice A1 x.marks.length c1, .slice A2 x.busy.length c2, .slice A3 x.data.length c3, .slice A4 x.did.length c4] := by rw [hW1]; exact (B0.out.far (show w.heap.size ≠ w.heap.size + 1 + 1 by omega) _)
  have b1 : Bk W1 (w.heap.size + 1) 41 #[.int .i64 0, .slice none 0 0, .slice none 0 0, .slice none 0 0, .slice none 0 0] := by rw [hW1]; exact (B1.out.far (show w.heap.size + 1 ≠ w.heap.size + 1 + 1 by omega) _)
  have b2 : Bk W1 (w.heap.size + 1 + 1) 41 #[.int .i64 x.state, .slice (some ⟨W0.heap.size, 0, none⟩) x.marks.length x.marks.length, .slice none 0 0, .slice none 0 0, .slice none 0 0] := by rw [hW1]; exact (B2.out.set 1 _)
  have hag : Agree (some (w.heap.size + 3)) w0.heap.size w0 W1 := by rw [hW1]; exact ((Agree.refl _ _ _).set (show w.heap.size + 1 + 1 < w.heap.size + 3 by omega) _)
  have hsz : w0.heap.size = W1.heap.size := by rw [hW1]; simp
  have hB : Below w.heap.size w W1 := by rw [hW1]; exact (HBw.out.setCell (show w.heap.size ≤ w.heap.size + 1 + 1 by omega) _)
  have hz : w.heap.size + 3 ≤ W1.heap.size := by omega
  have R1 := Lib.hid ((R1.out.keep hag).more (Nat.le_of_eq hsz))
  clear hW1 hag hsz HBw hzw B0 B1 B2 k0 k1 k2 f1 f2
  refine (laws_toCasItemS _ _ x.busy m _ w.heap.size (by omega) (H2.out.below hB) l2).mono ?_
  rintro e w1 ⟨g2, hg2, rfl, hw, hb⟩
  have R2 := Lib.hid (hw.weak (Weaker.some (lo' := w.heap.size + 3) hz))
  have R1 := Lib.hid (R1.out.later hb)
  have HBw := Lib.hid (hB.trans (hb.mono (by omega)))
  have hzw : w.heap.size + 3 ≤ w1.heap.size := by have := hb.size; omega
  have b0 := b0.later hb
  have b1 := b1.later hb
  have b2 := b2.later hb
  have k0 := fun i => b0.cell i
  have k1 := fun i => b1.cell i
  have k2 := fun i => b2.cell i
  have f1 := fun i => b1.frozen i
  have f2 := fun i => b2.frozen i
  have B0 := Lib.hid b0
  have B1 := Lib.hid b1
  have B2 := Lib.hid b2
  clear hw hg2 hb hB hz b0 b1 b2
  go_wp2_with fail
  refine callsAt fun W2 hW2 => ?_
  have b0 : Bk W2 w.heap.size 29 #[.int .i64 x.state, .slice A1 x.marks.length c1, .slice A2 x.busy.length c2, .slice A3 x.data.length c3, .slice A4 x.did.length c4] := by rw [hW2]; exact (B0.out.far (show w.heap.size ≠ w.heap.size + 1 + 1 by omega) _)
  have b1 : Bk W2 (w.heap.size + 1) 41 #[.int .i64 0, .slice none 0 0, .slice none 0 0, .slice none 0 0, .slice none 0 0] := by rw [hW2]; exact (B1.out.far (show w.heap.size + 1 ≠ w.heap.size + 1 + 1 by omega) _)
  have b2 : Bk W2 (w.heap.size + 1 + 1) 41 #[.int .i64 x.state, .slice (some ⟨W0.heap.size, 0, none⟩) x.marks.length x.marks.length, .slice (some ⟨g2, 0, none⟩) x.busy.length x.busy.length, .slice none 0 0, .slice none 0 0] := by rw [hW2]; exact (B2.out.set 2 _)
  have hag : Agree (some (w.heap.size + 3)) w1.heap.size w1 W2 := by rw [hW2]; exact ((Agree.refl _ _ _).set (show w.heap.size + 1 + 1 < w.heap.size + 3 by omega) _)
  have hsz : w1.heap.size = W2.heap.size := by rw [hW2]; simp
  have hB : Below w.heap.size w W2 := by rw [hW2]; exact (HBw.out.setCell (show w.heap.size ≤ w.heap.size + 1 + 1 by omega) _)
  have hz : w.heap.size + 3 ≤ W2.heap.size := by omega
  have R1 := Lib.hid ((R1.out.keep hag).more (Nat.le_of_eq hsz))
  have R2 := Lib.hid ((R2.out.keep hag).more (Nat.le_of_eq hsz))
  clear hW2 hag hsz HBw hzw B0 B1 B2 k0 k1 k2 f1 f2
  refine (laws_toIntS _ _ x.data _ w.heap.size (by omega) (H3.out.below hB) l3).mono ?_
  rintro e w2 ⟨rfl, hw, hb⟩
  have R3 := Lib.hid (hw.rows (lo := w.heap.size + 3) (by omega) hz hw.lt)
  have R1 := Lib.hid (R1.out.later hb)
  have R2 := Lib.hid (R2.out.later hb)
  have HBw := Lib.hid (hB.trans (hb.mono (by omega)))
  have hzw : w.heap.size + 3 ≤ w2.heap.size := by have := hb.size; omega
  have b0 := b0.later hb
  have b1 := b1.later hb
  have b2 := b2.later hb
  have k0 := fun i => b0.cell i
  have k1 := fun i => b1.cell i
  have k2 := fun i => b2.cell i
  have f1 := fun i => b1.frozen i
  have f2 := fun i => b2.frozen i
  have B0 := Lib.hid b0
  have B1 := Lib.hid b1
  have B2 := Lib.hid b2
  clear hw hb hB hz b0 b1 b2
  go_wp2_with fail
  refine callsAt fun W3 hW3 => ?_
  have b0 : Bk W3 w.heap.size 29 #[.int .i64 x.state, .slice A1 x.marks.length c1, .slice A2 x.busy.length c2, .slice A3 x.data.length c3, .slice A4 x.did.length c4] := by rw [hW3]; exact (B0.out.far (show w.heap.size ≠ w.heap.size + 1 + 1 by omega) _)
  have b1 : Bk W3 (w.heap.size + 1) 41 #[.int .i64 0, .slice none 0 0, .slice none 0 0, .slice none 0 0, .slice none 0 0] := by rw [hW3]; exact (B1.out.far (show w.heap.size + 1 ≠ w.heap.size + 1 + 1 by omega) _)
  have b2 : Bk W3 (w.heap.size + 1 + 1) 41 #[.int .i64 x.state, .slice (some ⟨W0.heap.size, 0, none⟩) x.marks.length x.marks.length, .slice (some ⟨g2, 0, none⟩) x.busy.length x.busy.length, .slice (some ⟨W2.heap.size, 0, none⟩) x.data.length x.data.length, .slice none 0 0] := by rw [hW3]; exact (B2.out.set 3 _)
  have hag : Agree (some (w.heap.size + 3)) w2.heap.size w2 W3 := by rw [hW3]; exact ((Agree.refl _ _ _).set (show w.heap.size + 1 + 1 < w.heap.size + 3 by omega) _)
  have hsz : w2.heap.size = W3.heap.size := by rw [hW3]; simp
  have hB : Below w.heap.size w W3 := by rw [hW3]; exact (HBw.out.setCell (show w.heap.size ≤ w.heap.size + 1 + 1 by omega) _)
  have hz : w.heap.size + 3 ≤ W3.heap.size := by omega
  have R1 := Lib.hid ((R1.out.keep hag).more (Nat.le_of_eq hsz))
  have R2 := Lib.hid ((R2.out.keep hag).more (Nat.le_of_eq hsz))
  have R3 := Lib.hid ((R3.out.keep hag).more (Nat.le_of_eq hsz))
  clear hW3 hag hsz HBw hzw B0 B1 B2 k0 k1 k2 f1 f2
  refine (laws_toCasDidS _ _ x.did m _ w.heap.size (by omega) (H4.out.below hB) l4).mono ?_
  rintro e w3 ⟨g4, hg4, rfl, hw, hb⟩
  have R4 := Lib.hid (hw.weak (Weaker.some (lo' := w.heap.size + 3) hz))
  have R1 := Lib.hid (R1.out.later hb)
  have R2 := Lib.hid (R2.out.later hb)
  have R3 := Lib.hid (R3.out.later hb)
  have HBw := Lib.hid (hB.trans (hb.mono (by omega)))
  have hzw : w.heap.size + 3 ≤ w3.heap.size := by have := hb.size; omega
  have b0 := b0.later hb
  have b1 := b1.later hb
  have b2 := b2.later hb
  have k0 := fun i => b0.cell i
  have k1 := fun i => b1.cell i
  have k2 := fun i => b2.cell i
  have f1 := fun i => b1.frozen i
  have f2 := fun i => b2.frozen i
  have B0 := Lib.hid b0
  have B1 := Lib.hid b1
  have B2 := Lib.hid b2
  clear hw hg4 hb hB hz b0 b1 b2
  go_wp2
  refine bodyPost_ret (v := .agg #[.int .i64 x.state, .slice (some ⟨W0.heap.size, 0, none⟩) x.marks.length x.marks.length, .slice (some ⟨g2, 0, none⟩) x.busy.length x.busy.length, .slice (some ⟨W2.heap.size, 0, none⟩) x.data.length x.data.length, .slice (some ⟨g4, 0, none⟩) x.did.length x.did.length]) (by simp [results, Tryz.results9, go_sem, k1]) rfl ?_
  refine madeAt fun W hW => ?_
  have hag : Agree (some (w.heap.size + 3)) w3.heap.size w3 W := by rw [hW]; exact (((((((Agree.refl _ _ _).set (p := ⟨w.heap.size + 1 + 1, 4, none⟩) (show w.heap.size + 1 + 1 < w.heap.size + 3 by omega) _).set (p := ⟨w.heap.size + 1, 0, none⟩) (show w.heap.size + 1 < w.heap.size + 3 by omega) _).set (p := ⟨w.heap.size + 1, 1, none⟩) (show w.heap.size + 1 < w.heap.size + 3 by omega) _).set (p := ⟨w.heap.size + 1, 2, none⟩) (show w.heap.size + 1 < w.heap.size + 3 by omega) _).set (p := ⟨w.heap.size + 1, 3, none⟩) (show w.heap.size + 1 < w.heap.size + 3 by omega) _).set (p := ⟨w.heap.size + 1, 4, none⟩) (show w.heap.size + 1 < w.heap.size + 3 by omega) _)
  have hsz : w3.heap.size = W.heap.size := by rw [hW]; simp only [World.size_setCell]
  have hBf : Below w.heap.size w W := by rw [hW]; exact ((((((HBw.out.setCell (p := ⟨w.heap.size + 1 + 1, 4, none⟩) (show w.heap.size ≤ w.heap.size + 1 + 1 by omega) _).setCell (p := ⟨w.heap.size + 1, 0, none⟩) (show w.heap.size ≤ w.heap.size + 1 by omega) _).setCell (p := ⟨w.heap.size + 1, 1, none⟩) (show w.heap.size ≤ w.heap.size + 1 by omega) _).setCell (p := ⟨w.heap.size + 1, 2, none⟩) (show w.heap.size ≤ w.heap.size + 1 by omega) _).setCell (p := ⟨w.heap.size + 1, 3, none⟩) (show w.heap.size ≤ w.heap.size + 1 by omega) _).setCell (p := ⟨w.heap.size + 1, 4, none⟩) (show w.heap.size ≤ w.heap.size + 1 by omega) _)
  clear hW
  exact ⟨_, rfl, ⟨_, _, _, _, _, _, _, _, rfl, ((R1.out.keep hag).more (Nat.le_of_eq hsz)).weak (Weaker.some (by omega)), ((R2.out.keep hag).more (Nat.le_of_eq hsz)).weak (Weaker.some (by omega)), ((R3.out.keep hag).more (Nat.le_of_eq hsz)).weak (Weaker.some (by omega)), ((R4.out.keep hag).more (Nat.le_of_eq hsz)).weak (Weaker.some (by omega))⟩, hBf⟩

set_option maxHeartbeats 1000000 in
theorem laws_eqCasCase (x : GCase) (A1 A1' A2 A2' A3 A3' A4 A4' : Option Addr) (c1 c1' c2 c2' c3 c3' c4 c4' : Nat) (m m' : Option Nat) (w : World)
    (h1 : Rows intC m w w.heap.size A1 x.marks) (h1' : Rows intC m' w w.heap.size A1' x.marks) (h2 : Rows itemC m w w.heap.size A2 x.busy) (h2' : Rows itemC m' w w.heap.size A2' x.busy) (h3 : Rows intC m w w.heap.size A3 x.data) (h3' : Rows intC m' w w.heap.size A3' x.data) (h4 : Rows didC m w w.heap.size A4 x.did) (h4' : Rows didC m' w w.heap.size A4' x.did) :
    Calls Tryz.prog 14 #[.agg #[.int .i64 x.state, .slice A1 x.marks.length c1, .slice A2 x.busy.length c2, .slice A3 x.data.length c3, .slice A4 x.did.length c4], .agg #[.int .i64 x.state, .slice A1' x.marks.length c1', .slice A2' x.busy.length c2', .slice A3' x.data.length c3', .slice A4' x.did.length c4']] w fun e w' => e = .returned (.bool true) ∧ Below w.heap.size w w' := by
  have H1 := Lib.hid h1
  have H1' := Lib.hid h1'
  have H2 := Lib.hid h2
  have H2' := Lib.hid h2'
  have H3 := Lib.hid h3
  have H3' := Lib.hid h3'
  have H4 := Lib.hid h4
  have H4' := Lib.hid h4'
  clear h1 h1' h2 h2' h3 h3' h4 h4'
  go_enter Tryz.func14, Tryz.ntmps14
  go_wp2_with fail
  refine callsAt fun W0 hW0 => ?_
  have b0 : Bk W0 w.heap.size 41 #[.int .i64 x.state, .slice A1 x.marks.length c1, .slice A2 x.busy.length c2, .slice A3 x.data.length c3, .slice A4 x.did.length c4] := by rw [hW0]; exact (Bk.new rfl).alloc _
  have b1 : Bk W0 (w.heap.size + 1) 41 #[.int .i64 x.state, .slice A1' x.marks.length c1', .slice A2' x.busy.length c2', .slice A3' x.data.length c3', .slice A4' x.did.length c4'] := by rw [hW0]; exact Bk.new (by simp)
  have hB : Below w.heap.size w W0 := by rw [hW0]; go_grown
  clear hW0
  refine (laws_eqIntS _ _ _ _ x.marks x.marks _ w.heap.size (H1.out.below hB).ints (H1'.out.below hB).ints).mono ?_
  rintro e w0 ⟨rfl, n1, hn⟩
  have hb : Below W0.heap.size W0 w0 := by rw [hn]; exact bdN (Below.refl _ _) _
  clear hn
  have HBw := Lib.hid (hB.trans (hb.mono hB.size))
  have b0 := b0.later hb
  have b1 := b1.later hb
  have k0 := fun i => b0.cell i
  have k1 := fun i => b1.cell i
  have B0 := Lib.hid b0
  have B1 := Lib.hid b1
  clear hb hB b0 b1
  go_wp2_with fail
  refine callsAt fun W1 hW1 => ?_
  have b0 : Bk W1 w.heap.size 41 #[.int .i64 x.state, .slice A1 x.marks.length c1, .slice A2 x.busy.length c2, .slice A3 x.data.length c3, .slice A4 x.did.length c4] := by rw [hW1]; exact B0.out
  have b1 : Bk W1 (w.heap.size + 1) 41 #[.int .i64 x.state, .slice A1' x.marks.length c1', .slice A2' x.busy.length c2', .slice A3' x.data.length c3', .slice A4' x.did.length c4'] := by rw [hW1]; exact B1.out
  have hB : Below w.heap.size w W1 := by rw [hW1]; exact HBw.out
  clear hW1 HBw B0 B1 k0 k1
  refine (laws_eqCasItemS _ _ _ _ x.busy m m' _ ((H2.out.below hB).more hB.size) ((H2'.out.below hB).more hB.size)).mono ?_
  rintro e w1 ⟨rfl, hb⟩
  have HBw := Lib.hid (hB.trans (hb.mono hB.size))
  have b0 := b0.later hb
  have b1 := b1.later hb
  have k0 := fun i => b0.cell i
  have k1 := fun i => b1.cell i
  have B0 := Lib.hid b0
  have B1 := Lib.hid b1
  clear hb hB b0 b1
  go_wp2_with fail
  refine callsAt fun W2 hW2 => ?_
  have b0 : Bk W2 w.heap.size 41 #[.int .i64 x.state, .slice A1 x.marks.length c1, .slice A2 x.busy.length c2, .slice A3 x.data.length c3, .slice A4 x.did.length c4] := by rw [hW2]; exact B0.out
  have b1 : Bk W2 (w.heap.size + 1) 41 #[.int .i64 x.state, .slice A1' x.marks.length c1', .slice A2' x.busy.length c2', .slice A3' x.data.length c3', .slice A4' x.did.length c4'] := by rw [hW2]; exact B1.out
  have hB : Below w.heap.size w W2 := by rw [hW2]; exact HBw.out
  clear hW2 HBw B0 B1 k0 k1
  refine (laws_eqIntS _ _ _ _ x.data x.data _ w.heap.size (H3.out.below hB).ints (H3'.out.below hB).ints).mono ?_
  rintro e w2 ⟨rfl, n3, hn⟩
  have hb : Below W2.heap.size W2 w2 := by rw [hn]; exact bdN (Below.refl _ _) _
  clear hn
  have HBw := Lib.hid (hB.trans (hb.mono hB.size))
  have b0 := b0.later hb
  have b1 := b1.later hb
  have k0 := fun i => b0.cell i
  have k1 := fun i => b1.cell i
  have B0 := Lib.hid b0
  have B1 := Lib.hid b1
  clear hb hB b0 b1
  go_wp2_with fail
  refine callsAt fun W3 hW3 => ?_
  have b0 : Bk W3 w.heap.size 41 #[.int .i64 x.state, .slice A1 x.marks.length c1, .slice A2 x.busy.length c2, .slice A3 x.data.length c3, .slice A4 x.did.length c4] := by rw [hW3]; exact B0.out
  have b1 : Bk W3 (w.heap.size + 1) 41 #[.int .i64 x.state, .slice A1' x.marks.length c1', .slice A2' x.busy.length c2', .slice A3' x.data.length c3', .slice A4' x.did.length c4'] := by rw [hW3]; exact B1.out
  have hB : Below w.heap.size w W3 := by rw [hW3]; exact HBw.out
  clear hW3 HBw B0 B1 k0 k1
  refine (laws_eqCasDidS _ _ _ _ x.did m m' _ ((H4.out.below hB).more hB.size) ((H4'.out.below hB).more hB.size)).mono ?_
  rintro e w3 ⟨rfl, hb⟩
  have HBw := Lib.hid (hB.trans (hb.mono hB.size))
  have b0 := b0.later hb
  have b1 := b1.later hb
  have k0 := fun i => b0.cell i
  have k1 := fun i => b1.cell i
  have B0 := Lib.hid b0
  have B1 := Lib.hid b1
  clear hb hB b0 b1
  go_wp2
  go_returns
  exact ⟨rfl, HBw.out⟩
end Go.Proofs.YtkoaaagmcjjimaaGreat
