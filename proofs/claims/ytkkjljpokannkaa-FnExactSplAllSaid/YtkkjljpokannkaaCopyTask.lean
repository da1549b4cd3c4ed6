/- NetTask: how its struct reads, its copies, its comparison. -/
import Derived.Test.YtkkjljpokannkaaCopyFlow
import Derived.Test.YtkkjljpokannkaaSz
namespace Go.Proofs.Ytkkjljpokannkaa
open Go.RowKit

set_option maxRecDepth 100000 in
set_option maxHeartbeats 8000000 in
theorem laws_toNetTask (x : GTask) (A2 A3 A4 : Option Addr) (c2 c3 c4 : Nat) (m : Option Nat) (w : World)
    (h2 : Rows intC m w w.heap.size A2 x.inn) (h3 : Rows flowC m w w.heap.size A3 x.out) (h4 : Rows intC m w w.heap.size A4 x.clear)
    (l2 : x.inn.length ≤ 1048576) (l3 : x.out.length ≤ 1048576) (l4 : x.clear.length ≤ 1048576) :
    Calls Try.prog 30 #[.agg #[.int .i64 x.join, .int .i64 x.split, .slice A2 x.inn.length c2, .slice A3 x.out.length c3, .slice A4 x.clear.length c4, .int .i64 x.role, .int .i64 x.apart, .int .i64 x.all, .int .i64 x.need]] w (MadeR taskC x w) := by
  have H2 := Lib.hid h2.ints
  have H3 := Lib.hid h3
  have H4 := Lib.hid h4.ints
  clear h2 h3 h4
  go_enter Try.func30, Try.ntmps30
  go_wp2_with fail
  refine callsAt fun W0 hW0 => ?_
  have b0 : Bk W0 w.heap.size 45 #[.int .i64 x.join, .int .i64 x.split, .slice A2 x.inn.length c2, .slice A3 x.out.length c3, .slice A4 x.clear.length c4, .int .i64 x.role, .int .i64 x.apart, .int .i64 x.all, .int .i64 x.need] := by rw [hW0]; exact ((Bk.new rfl).alloc _).alloc _
  have b1 : Bk W0 (w.heap.size + 1) 42 #[.int .i64 0, .int .i64 0, .slice none 0 0, .slice none 0 0, .slice none 0 0, .int .i64 0, .int .i64 0, .int .i64 0, .int .i64 0] := by rw [hW0]; exact (Bk.new (by simp)).alloc _
  have b2 : Bk W0 (w.heap.size + 1 + 1) 42 #[.int .i64 x.join, .int .i64 x.split, .slice none 0 0, .slice none 0 0, .slice none 0 0, .int .i64 0, .int .i64 0, .int .i64 0, .int .i64 0] := by rw [hW0]; exact Bk.new (by simp)
  have hB : Below w.heap.size w W0 := by rw [hW0]; go_grown
  have hz : w.heap.size + 3 ≤ W0.heap.size := by rw [hW0]; simp only [World.size_alloc]; omega
  clear hW0
  refine (laws_toIntS _ _ x.inn _ w.heap.size (by omega) (H2.out.below hB) l2).mono ?_
  rintro e w0 ⟨rfl, hw, hb⟩
  have R2 := Lib.hid (hw.rows (lo := w.heap.size + 3) (by omega) hz hw.lt)
  have HBw := Lib.hid (hB.trans (hb.mono (by omega)))
  have hzw : w.heap.size + 3 ≤ w0.heap.size := by have := hb.size; omega
  have b0 := b0.later hb
  have b1 := b1.later hb
  have b2 := b2.later hb
  have k0 := fun i => b0.cell i
  have k1 := fun i => b1.cell i
  have k2 := fun i => b2.cell i
  have f1 := fun i => b1.frozen i
  have f2 := fun i => b2.frozen i
  have B0 := Lib.hid b0
  have B1 := Lib.hid b1
  have B2 := Lib.hid b2
  clear hw hb hB hz b0 b1 b2
  go_wp2_with fail
  refine callsAt fun W1 hW1 => ?_
  have b0 : Bk W1 w.heap.size 45 #[.int .i64 x.join, .int .i64 x.split, .slice A2 x.inn.length c2, .slice A3 x.out.length c3, .slice A4 x.clear.length c4, .int .i64 x.role, .int .i64 x.apart, .int .i64 x.all, .int .i64 x.need] := by rw [hW1]; exact (B0.out.far (show w.heap.size ≠ w.heap.size + 1 + 1 by omega) _)
  have b1 : Bk W1 (w.heap.size + 1) 42 #[.int .i64 0, .int .i64 0, .slice none 0 0, .slice none 0 0, .slice none 0 0, .int .i64 0, .int .i64 0, .int .i64 0, .int .i64 0] := by rw [hW1]; exact (B1.out.far (show w.heap.size + 1 ≠ w.heap.size + 1 + 1 by omega) _)
  have b2 : Bk W1 (w.heap.size + 1 + 1) 42 #[.int .i64 x.join, .int .i64 x.split, .slice (some ⟨W0.heap.size, 0, none⟩) x.inn.length x.inn.length, .slice none 0 0, .slice none 0 0, .int .i64 0, .int .i64 0, .int .i64 0, .int .i64 0] := by rw [hW1]; exact (B2.out.set 2 _)
  have hag : Agree (some (w.heap.size + 3)) w0.heap.size w0 W1 := by rw [hW1]; exact ((Agree.refl _ _ _).set (show w.heap.size + 1 + 1 < w.heap.size + 3 by omega) _)
  have hsz : w0.heap.size = W1.heap.size := by rw [hW1]; simp
  have hB : Below w.heap.size w W1 := by rw [hW1]; exact (HBw.out.setCell (show w.heap.size ≤ w.heap.size + 1 + 1 by omega) _)
  have hz : w.heap.size + 3 ≤ W1.heap.size := by omega
  have R2 := Lib.hid ((R2.out.keep hag).more (Nat.le_of_eq hsz))
  clear hW1 hag hsz HBw hzw B0 B1 B2 k0 k1 k2 f1 f2
  refine (laws_toNetFlowS _ _ x.out m _ w.heap.size (by omega) (H3.out.below hB) l3).mono ?_
  rintro e w1 ⟨g3, hg3, rfl, hw, hb⟩
  have R3 := Lib.hid (hw.weak (Weaker.some (lo' := w.heap.size + 3) hz))
  have R2 := Lib.hid (R2.out.later hb)
  have HBw := Lib.hid (hB.trans (hb.mono (by omega)))
  have hzw : w.heap.size + 3 ≤ w1.heap.size := by have := hb.size; omega
  have b0 := b0.later hb
  have b1 := b1.later hb
  have b2 := b2.later hb
  have k0 := fun i => b0.cell i
  have k1 := fun i => b1.cell i
  have k2 := fun i => b2.cell i
  have f1 := fun i => b1.frozen i
  have f2 := fun i => b2.frozen i
  have B0 := Lib.hid b0
  have B1 := Lib.hid b1
  have B2 := Lib.hid b2
  clear hw hg3 hb hB hz b0 b1 b2
  go_wp2_with fail
  refine callsAt fun W2 hW2 => ?_
  have b0 : Bk W2 w.heap.size 45 #[.int .i64 x.join, .int .i64 x.split, .slice A2 x.inn.length c2, .slice A3 x.out.length c3, .slice A4 x.clear.length c4, .int .i64 x.role, .int .i64 x.apart, .int .i64 x.all, .int .i64 x.need] := by rw [hW2]; exact (B0.out.far (show w.heap.size ≠ w.heap.size + 1 + 1 by omega) _)
  have b1 : Bk W2 (w.heap.size + 1) 42 #[.int .i64 0, .int .i64 0, .slice none 0 0, .slice none 0 0, .slice none 0 0, .int .i64 0, .int .i64 0, .int .i64 0, .int .i64 0] := by rw [hW2]; exact (B1.out.far (show w.heap.size + 1 ≠ w.heap.size + 1 + 1 by omega) _)
  have b2 : Bk W2 (w.heap.size + 1 + 1) 42 #[.int .i64 x.join, .int .i64 x.split, .slice (some ⟨W0.heap.size, 0, none⟩) x.inn.length x.inn.length, .slice (some ⟨g3, 0, none⟩) x.out.length x.out.length, .slice none 0 0, .int .i64 0, .int .i64 0, .int .i64 0, .int .i64 0] := by rw [hW2]; exact (B2.out.set 3 _)
  have hag : Agree (some (w.heap.size + 3)) w1.heap.size w1 W2 := by rw [hW2]; exact ((Agree.refl _ _ _).set (show w.heap.size + 1 + 1 < w.heap.size + 3 by omega) _)
  have hsz : w1.heap.size = W2.heap.size := by rw [hW2]; simp
  have hB : Below w.heap.size w W2 := by rw [hW2]; exact (HBw.out.setCell (show w.heap.size ≤ w.heap.size + 1 + 1 by omega) _)
  have hz : w.heap.size + 3 ≤ W2.heap.size := by omega
  have R2 := Lib.hid ((R2.out.keep hag).more (Nat.le_of_eq hsz))
  have R3 := Lib.hid ((R3.out.keep hag).more (Nat.le_of_eq hsz))
  clear hW2 hag hsz HBw hzw B0 B1 B2 k0 k1 k2 f1 f2
  refine (laws_toIntS _ _ x.clear _ w.heap.size (by omega) (H4.out.below hB) l4).mono ?_
  rintro e w2 ⟨rfl, hw, hb⟩
  have R4 := Lib.hid (hw.rows (lo := w.heap.size + 3) (by omega) hz hw.lt)
  have R2 := Lib.hid (R2.out.later hb)
  have R3 := Lib.hid (R3.out.later hb)
  have HBw := Lib.hid (hB.trans (hb.mono (by omega)))
  have hzw : w.heap.size + 3 ≤ w2.heap.size := by have := hb.size; omega
  have b0 := b0.later hb
  have b1 := b1.later hb
  have b2 := b2.later hb
  have k0 := fun i => b0.cell i
  have k1 := fun i => b1.cell i
  have k2 := fun i => b2.cell i
  have f1 := fun i => b1.frozen i
  have f2 := fun i => b2.frozen i
  have B0 := Lib.hid b0
  have B1 := Lib.hid b1
  have B2 := Lib.hid b2
  clear hw hb hB hz b0 b1 b2
  go_wp2
  refine bodyPost_ret (v := .agg #[.int .i64 x.join, .int .i64 x.split, .slice (some ⟨W0.heap.size, 0, none⟩) x.inn.length x.inn.length, .slice (some ⟨g3, 0, none⟩) x.out.length x.out.length, .slice (some ⟨W2.heap.size, 0, none⟩) x.clear.length x.clear.length, .int .i64 x.role, .int .i64 x.apart, .int .i64 x.all, .int .i64 x.need]) (by simp [results, Try.results30, go_sem, k1]) rfl ?_
  refine madeAt fun W hW => ?_
  have hag : Agree (some (w.heap.size + 3)) w2.heap.size w2 W := by rw [hW]; exact (((((((((((((((Agree.refl _ _ _).set (p := ⟨w.heap.size + 1 + 1, 4, none⟩) (show w.heap.size + 1 + 1 < w.heap.size + 3 by omega) _).set (p := ⟨w.heap.size + 1 + 1, 5, none⟩) (show w.heap.size + 1 + 1 < w.heap.size + 3 by omega) _).set (p := ⟨w.heap.size + 1 + 1, 6, none⟩) (show w.heap.size + 1 + 1 < w.heap.size + 3 by omega) _).set (p := ⟨w.heap.size + 1 + 1, 7, none⟩) (show w.heap.size + 1 + 1 < w.heap.size + 3 by omega) _).set (p := ⟨w.heap.size + 1 + 1, 8, none⟩) (show w.heap.size + 1 + 1 < w.heap.size + 3 by omega) _).set (p := ⟨w.heap.size + 1, 0, none⟩) (show w.heap.size + 1 < w.heap.size + 3 by omega) _).set (p := ⟨w.heap.size + 1, 1, none⟩) (show w.heap.size + 1 < w.heap.size + 3 by omega) _).set (p := ⟨w.heap.size + 1, 2, none⟩) (show w.heap.size + 1 < w.heap.size + 3 by omega) _).set (p := ⟨w.heap.size + 1, 3, none⟩) (show w.heap.size + 1 < w.heap.size + 3 by omega) _).set (p := ⟨w.heap.size + 1, 4, none⟩) (show w.heap.size + 1 < w.heap.size + 3 by omega) _).set (p := ⟨w.heap.size + 1, 5, none⟩) (show w.heap.size + 1 < w.heap.size + 3 by omega) _).set (p := ⟨w.heap.size + 1, 6, none⟩) (show w.heap.size + 1 < w.heap.size + 3 by omega) _).set (p := ⟨w.heap.size + 1, 7, none⟩) (show w.heap.size + 1 < w.heap.size + 3 by omega) _).set (p := ⟨w.heap.size + 1, 8, none⟩) (show w.heap.size + 1 < w.heap.size + 3 by omega) _)
  have hsz : w2.heap.size = W.heap.size := by rw [hW]; simp only [World.size_setCell]
  have hBf : Below w.heap.size w W := by rw [hW]; exact ((((((((((((((HBw.out.setCell (p := ⟨w.heap.size + 1 + 1, 4, none⟩) (show w.heap.size ≤ w.heap.size + 1 + 1 by omega) _).setCell (p := ⟨w.heap.size + 1 + 1, 5, none⟩) (show w.heap.size ≤ w.heap.size + 1 + 1 by omega) _).setCell (p := ⟨w.heap.size + 1 + 1, 6, none⟩) (show w.heap.size ≤ w.heap.size + 1 + 1 by omega) _).setCell (p := ⟨w.heap.size + 1 + 1, 7, none⟩) (show w.heap.size ≤ w.heap.size + 1 + 1 by omega) _).setCell (p := ⟨w.heap.size + 1 + 1, 8, none⟩) (show w.heap.size ≤ w.heap.size + 1 + 1 by omega) _).setCell (p := ⟨w.heap.size + 1, 0, none⟩) (show w.heap.size ≤ w.heap.size + 1 by omega) _).setCell (p := ⟨w.heap.size + 1, 1, none⟩) (show w.heap.size ≤ w.heap.size + 1 by omega) _).setCell (p := ⟨w.heap.size + 1, 2, none⟩) (show w.heap.size ≤ w.heap.size + 1 by omega) _).setCell (p := ⟨w.heap.size + 1, 3, none⟩) (show w.heap.size ≤ w.heap.size + 1 by omega) _).setCell (p := ⟨w.heap.size + 1, 4, none⟩) (show w.heap.size ≤ w.heap.size + 1 by omega) _).setCell (p := ⟨w.heap.size + 1, 5, none⟩) (show w.heap.size ≤ w.heap.size + 1 by omega) _).setCell (p := ⟨w.heap.size + 1, 6, none⟩) (show w.heap.size ≤ w.heap.size + 1 by omega) _).setCell (p := ⟨w.heap.size + 1, 7, none⟩) (show w.heap.size ≤ w.heap.size + 1 by omega) _).setCell (p := ⟨w.heap.size + 1, 8, none⟩) (show w.heap.size ≤ w.heap.size + 1 by omega) _)
  clear hW
  exact ⟨_, rfl, ⟨_, _, _, _, _, _, rfl, ((R2.out.keep hag).more (Nat.le_of_eq hsz)).weak (Weaker.some (by omega)), ((R3.out.keep hag).more (Nat.le_of_eq hsz)).weak (Weaker.some (by omega)), ((R4.out.keep hag).more (Nat.le_of_eq hsz)).weak (Weaker.some (by omega))⟩, hBf⟩

set_option maxHeartbeats 4000000 in
theorem laws_eqNetTask (x : GTask) (A2 A2' A3 A3' A4 A4' : Option Addr) (c2 c2' c3 c3' c4 c4' : Nat) (m m' : Option Nat) (w : World)
    (h2 : Rows intC m w w.heap.size A2 x.inn) (h2' : Rows intC m' w w.heap.size A2' x.inn) (h3 : Rows flowC m w w.heap.size A3 x.out) (h3' : Rows flowC m' w w.heap.size A3' x.out) (h4 : Rows intC m w w.heap.size A4 x.clear) (h4' : Rows intC m' w w.heap.size A4' x.clear) :
    Calls Try.prog 33 #[.agg #[.int .i64 x.join, .int .i64 x.split, .slice A2 x.inn.length c2, .slice A3 x.out.length c3, .slice A4 x.clear.length c4, .int .i64 x.role, .int .i64 x.apart, .int .i64 x.all, .int .i64 x.need], .agg #[.int .i64 x.join, .int .i64 x.split, .slice A2' x.inn.length c2', .slice A3' x.out.length c3', .slice A4' x.clear.length c4', .int .i64 x.role, .int .i64 x.apart, .int .i64 x.all, .int .i64 x.need]] w fun e w' => e = .returned (.bool true) ∧ Below w.heap.size w w' := by
  have H2 := Lib.hid h2
  have H2' := Lib.hid h2'
  have H3 := Lib.hid h3
  have H3' := Lib.hid h3'
  have H4 := Lib.hid h4
  have H4' := Lib.hid h4'
  clear h2 h2' h3 h3' h4 h4'
  go_enter Try.func33, Try.ntmps33
  go_wp2_with fail
  refine callsAt fun W0 hW0 => ?_
  have b0 : Bk W0 w.heap.size 42 #[.int .i64 x.join, .int .i64 x.split, .slice A2 x.inn.length c2, .slice A3 x.out.length c3, .slice A4 x.clear.length c4, .int .i64 x.role, .int .i64 x.apart, .int .i64 x.all, .int .i64 x.need] := by rw [hW0]; exact (Bk.new rfl).alloc _
  have b1 : Bk W0 (w.heap.size + 1) 42 #[.int .i64 x.join, .int .i64 x.split, .slice A2' x.inn.length c2', .slice A3' x.out.length c3', .slice A4' x.clear.length c4', .int .i64 x.role, .int .i64 x.apart, .int .i64 x.all, .int .i64 x.need] := by rw [hW0]; exact Bk.new (by simp)
  have hB : Below w.heap.size w W0 := by rw [hW0]; go_grown
  clear hW0
  refine (laws_eqIntS _ _ _ _ x.inn x.inn _ w.heap.size (H2.out.below hB).ints (H2'.out.below hB).ints).mono ?_
  rintro e w0 ⟨rfl, n2, hn⟩
  have hb : Below W0.heap.size W0 w0 := by rw [hn]; exact bdN (Below.refl _ _) _
  clear hn
  have HBw := Lib.hid (hB.trans (hb.mono hB.size))
  have b0 := b0.later hb
  have b1 := b1.later hb
  have k0 := fun i => b0.cell i
  have k1 := fun i => b1.cell i
  have B0 := Lib.hid b0
  have B1 := Lib.hid b1
  clear hb hB b0 b1
  go_wp2_with fail
  refine callsAt fun W1 hW1 => ?_
  have b0 : Bk W1 w.heap.size 42 #[.int .i64 x.join, .int .i64 x.split, .slice A2 x.inn.length c2, .slice A3 x.out.length c3, .slice A4 x.clear.length c4, .int .i64 x.role, .int .i64 x.apart, .int .i64 x.all, .int .i64 x.need] := by rw [hW1]; exact B0.out
  have b1 : Bk W1 (w.heap.size + 1) 42 #[.int .i64 x.join, .int .i64 x.split, .slice A2' x.inn.length c2', .slice A3' x.out.length c3', .slice A4' x.clear.length c4', .int .i64 x.role, .int .i64 x.apart, .int .i64 x.all, .int .i64 x.need] := by rw [hW1]; exact B1.out
  have hB : Below w.heap.size w W1 := by rw [hW1]; exact HBw.out
  clear hW1 HBw B0 B1 k0 k1
  refine (laws_eqNetFlowS _ _ _ _ x.out m m' _ ((H3.out.below hB).more hB.size) ((H3'.out.below hB).more hB.size)).mono ?_
  rintro e w1 ⟨rfl, hb⟩
  have HBw := Lib.hid (hB.trans (hb.mono hB.size))
  have b0 := b0.later hb
  have b1 := b1.later hb
  have k0 := fun i => b0.cell i
  have k1 := fun i => b1.cell i
  have B0 := Lib.hid b0
  have B1 := Lib.hid b1
  clear hb hB b0 b1
  go_wp2_with fail
  refine callsAt fun W2 hW2 => ?_
  have b0 : Bk W2 w.heap.size 42 #[.int .i64 x.join, .int .i64 x.split, .slice A2 x.inn.length c2, .slice A3 x.out.length c3, .slice A4 x.clear.length c4, .int .i64 x.role, .int .i64 x.apart, .int .i64 x.all, .int .i64 x.need] := by rw [hW2]; exact B0.out
  have b1 : Bk W2 (w.heap.size + 1) 42 #[.int .i64 x.join, .int .i64 x.split, .slice A2' x.inn.length c2', .slice A3' x.out.length c3', .slice A4' x.clear.length c4', .int .i64 x.role, .int .i64 x.apart, .int .i64 x.all, .int .i64 x.need] := by rw [hW2]; exact B1.out
  have hB : Below w.heap.size w W2 := by rw [hW2]; exact HBw.out
  clear hW2 HBw B0 B1 k0 k1
  refine (laws_eqIntS _ _ _ _ x.clear x.clear _ w.heap.size (H4.out.below hB).ints (H4'.out.below hB).ints).mono ?_
  rintro e w2 ⟨rfl, n4, hn⟩
  have hb : Below W2.heap.size W2 w2 := by rw [hn]; exact bdN (Below.refl _ _) _
  clear hn
  have HBw := Lib.hid (hB.trans (hb.mono hB.size))
  have b0 := b0.later hb
  have b1 := b1.later hb
  have k0 := fun i => b0.cell i
  have k1 := fun i => b1.cell i
  have B0 := Lib.hid b0
  have B1 := Lib.hid b1
  clear hb hB b0 b1
  go_wp2
  go_returns
  exact ⟨rfl, HBw.out⟩

theorem info_Task : (Try.prog.info? 42).map (fun i => (i.zero, i.size, i.bytes)) = some (some (.agg #[.int .i64 0, .int .i64 0, .slice none 0 0, .slice none 0 0, .slice none 0 0, .int .i64 0, .int .i64 0, .int .i64 0, .int .i64 0]), 9, 120) := by kernel_rfl

def taskFit (x : GTask) : Prop := x.inn.length ≤ 1048576 ∧ x.out.length ≤ 1048576 ∧ x.clear.length ≤ 1048576
/-- What copying tasks leaves: a row of them in block g, each of them with its slices behind it. -/
def MadeTs (xs : List GTask) (w : World) (e : Ending) (w' : World) : Prop :=
  ∃ g, w.heap.size ≤ g ∧ e = .returned (.slice (some ⟨g, 0, none⟩) xs.length xs.length) ∧ Filled taskC w' g 42 [.int .i64 0, .int .i64 0, .slice none 0 0, .slice none 0 0, .slice none 0 0, .int .i64 0, .int .i64 0, .int .i64 0, .int .i64 0] xs xs.length ∧ Below w.heap.size w w'

set_option maxHeartbeats 1000000 in
theorem laws_toNetTaskS (A : Option Addr) (c : Nat) (xs : List GTask) (m : Option Nat) (w : World) (hx : Rows taskC m w w.heap.size A xs) (hl : xs.length ≤ 1048576) (hs : ∀ x ∈ xs, taskFit x) :
    Calls Try.prog 146 #[.slice A xs.length c] w (MadeTs xs w) := by
  have hmk := run_make_rowN 35 42 _ _ _ Try.underlying35 info_Task xs.length (by omega) (by omega)
  have HX := Lib.hid hx
  have HS := Lib.hid hs
  clear hx hs
  go_enter Try.func146, Try.ntmps146
  go_wp2
  clear hmk
  go_loopw [4] (fun s4 wr => ∃ k : Nat, k ≤ xs.length ∧ s4 = .int .i64 k ∧ Aside (Below w.heap.size w wr) ∧ Aside (Filled taskC wr w.heap.size 42 [.int .i64 0, .int .i64 0, .slice none 0 0, .slice none 0 0, .slice none 0 0, .int .i64 0, .int .i64 0, .int .i64 0, .int .i64 0] xs k)) (fun s4 _ => xs.length - (intOf s4).toNat)
  case atStart =>
    refine ⟨0, Nat.zero_le _, rfl, (Below.refl _ w).alloc (Nat.le_refl _) _, ?_⟩
    have h := Wr.new w 42 (madeCells (Value.agg #[.int .i64 0, .int .i64 0, .slice none 0 0, .slice none 0 0, .slice none 0 0, .int .i64 0, .int .i64 0, .int .i64 0, .int .i64 0]).cells (xs.length * 9))
    rw [toList_madeCells _ 9 _ rfl (by omega)] at h
    exact Filled.start h
  case round =>
    obtain ⟨k, hk, rfl, BW, WW⟩ := hrel
    by_cases hlt : k < xs.length
    · have hltz : (k : Int) < (xs.length : Int) := by omega
      obtain ⟨b, off, A2, c2, A3, c3, A4, c4, rfl, hb, ⟨hr2, hr3, hr4⟩, hc0, hc1, hc2, hc3, hc4, hc5, hc6, hc7, hc8⟩ := task_at HX.out hlt
      have hd0 := (BW.out.cell (p := ⟨b, off + k * 9, none⟩) (by show b < w.heap.size; omega)).trans hc0
      have hd1 := (BW.out.cell (p := ⟨b, off + k * 9 + 1, none⟩) (by show b < w.heap.size; omega)).trans hc1
      have hd2 := (BW.out.cell (p := ⟨b, off + k * 9 + 2, none⟩) (by show b < w.heap.size; omega)).trans hc2
      have hd3 := (BW.out.cell (p := ⟨b, off + k * 9 + 3, none⟩) (by show b < w.heap.size; omega)).trans hc3
      have hd4 := (BW.out.cell (p := ⟨b, off + k * 9 + 4, none⟩) (by show b < w.heap.size; omega)).trans hc4
      have hd5 := (BW.out.cell (p := ⟨b, off + k * 9 + 5, none⟩) (by show b < w.heap.size; omega)).trans hc5
      have hd6 := (BW.out.cell (p := ⟨b, off + k * 9 + 6, none⟩) (by show b < w.heap.size; omega)).trans hc6
      have hd7 := (BW.out.cell (p := ⟨b, off + k * 9 + 7, none⟩) (by show b < w.heap.size; omega)).trans hc7
      have hd8 := (BW.out.cell (p := ⟨b, off + k * 9 + 8, none⟩) (by show b < w.heap.size; omega)).trans hc8
      have HR2 := Lib.hid (hr2.below BW.out)
      have HR3 := Lib.hid (hr3.below BW.out)
      have HR4 := Lib.hid (hr4.below BW.out)
      clear hc0 hc1 hc2 hc3 hc4 hc5 hc6 hc7 hc8 hr2 hr3 hr4
      have hpr := fun w1 (hb1 : Below wr.heap.size wr w1) cs hR => (WW.out.later hb1).put hlt rfl (cs := cs) hR
      have HP := Lib.hid hpr
      have hgl := WW.out.lt
      have HWH := Lib.hid WW.out
      clear WW hpr
      obtain ⟨hs2, hs3, hs4⟩ := HS.out xs[k] (List.getElem_mem hlt)
      generalize xs[k] = y at hd0 hd1 hd2 hd3 hd4 hd5 hd6 hd7 hd8 HP HR2 HR3 HR4 hs2 hs3 hs4
      have hsz := BW.out.size
      go_wp2_with fail
      refine (laws_toNetTask y A2 A3 A4 c2 c3 c4 m _ (HR2.out.more hsz) (HR3.out.more hsz) (HR4.out.more hsz) hs2 hs3 hs4).mono ?_
      rintro e w1 ⟨cs, rfl, hR, hb1⟩
      have HP1 := Lib.hid (HP.out w1 hb1 cs (taskC.weak hR (Weaker.some (by omega))))
      obtain ⟨A2, c2, A3, c3, A4, c4, rfl, hrow⟩ := hR
      have HF := Lib.hid (HWH.out.later hb1)
      have HB1 := Lib.hid hb1
      clear hb1 hrow
      have hth : ∀ j, j < ([.int .i64 y.join, .int .i64 y.split, .slice A2 y.inn.length c2, .slice A3 y.out.length c3, .slice A4 y.clear.length c4, .int .i64 y.role, .int .i64 y.apart, .int .i64 y.all, .int .i64 y.need] : List Value).length → (w1.cell? ⟨w.heap.size, k * 9 + j, none⟩).isSome = true := fun j hj => HF.out.there hlt (k * 9) 9 rfl (by decide) j (by simpa using hj)
      have hst : ∀ v ∈ ([.int .i64 y.join, .int .i64 y.split, .slice A2 y.inn.length c2, .slice A3 y.out.length c3, .slice A4 y.clear.length c4, .int .i64 y.role, .int .i64 y.apart, .int .i64 y.all, .int .i64 y.need] : List Value), v.oneCell' = true := by simp [Value.oneCell']
      have hTH := Lib.hid hth
      have hST := Lib.hid hst
      clear hth hst
      go_wp2_with (refine wpList_store_agg rfl 42 (.tmp 21) (.tmp 20) rfl w.heap.size (k * 9) [.int .i64 y.join, .int .i64 y.split, .slice A2 y.inn.length c2, .slice A3 y.out.length c3, .slice A4 y.clear.length c4, .int .i64 y.role, .int .i64 y.apart, .int .i64 y.all, .int .i64 y.need] ?_ ?_ ?_ ?_ ?_ ?_ ?_; rfl; rfl; kernel_rfl; exact hTH.out; exact fun j => HF.out.frozen j; exact hST.out)
      go_roundw
      case rel => exact ⟨k + 1, by omega, by go_num, bPut (g := w.heap.size) [.int .i64 y.join, .int .i64 y.split, .slice A2 y.inn.length c2, .slice A3 y.out.length c3, .slice A4 y.clear.length c4, .int .i64 y.role, .int .i64 y.apart, .int .i64 y.all, .int .i64 y.need] (k * 9) (BW.out.trans (HB1.out.mono (by omega))) (Nat.le_refl _), HP1.out⟩
      case measure => simp [intOf]; omega
    · have hltz : ¬ (k : Int) < (xs.length : Int) := by omega
      have he : k = xs.length := by omega
      have HE := Lib.hid he
      clear he
      go_wp2
      go_ret
      have h1 := WW.out
      rw [HE.out] at h1
      exact ⟨_, Nat.le_refl _, rfl, h1, BW.out⟩

set_option maxHeartbeats 1000000 in
set_option maxRecDepth 100000 in
theorem laws_eqNetTaskS (A A' : Option Addr) (c c' : Nat) (xs : List GTask) (m m' : Option Nat) (w : World) (hx : Rows taskC m w w.heap.size A xs) (hy : Rows taskC m' w w.heap.size A' xs) :
    Calls Try.prog 149 #[.slice A xs.length c, .slice A' xs.length c'] w fun e w' => e = .returned (.bool true) ∧ Below w.heap.size w w' := by
  have hlx := hx.1
  have HX := Lib.hid hx
  have HY := Lib.hid hy
  clear hx hy
  go_enter Try.func149, Try.ntmps149
  go_wp2
  go_loopg [5] xs.length (fun gg s5 wr => ∃ k : Nat, k ≤ xs.length ∧ xs.length - k ≤ gg ∧ s5 = .int .i64 k ∧ Aside (Below w.heap.size w wr))
  case atStart => exact ⟨0, Nat.zero_le _, by omega, rfl, Below.refl _ _⟩
  case round =>
    obtain ⟨k, hk, hg, rfl, BW⟩ := hrel
    by_cases hlt : k < xs.length
    · have hltz : (k : Int) < (xs.length : Int) := by omega
      have h0 : (0 : Int) ≤ (k : Int) := by omega
      obtain ⟨b, off, A2, c2, A3, c3, A4, c4, rfl, hb, ⟨hr2, hr3, hr4⟩, hc0, hc1, hc2, hc3, hc4, hc5, hc6, hc7, hc8⟩ := task_at HX.out hlt
      obtain ⟨b', off', A2', c2', A3', c3', A4', c4', rfl, hb', ⟨hr2', hr3', hr4'⟩, hc0', hc1', hc2', hc3', hc4', hc5', hc6', hc7', hc8'⟩ := task_at HY.out hlt
      have hd0 := (BW.out.cell (p := ⟨b, off + k * 9, none⟩) (by show b < w.heap.size; omega)).trans hc0
      have hd1 := (BW.out.cell (p := ⟨b, off + k * 9 + 1, none⟩) (by show b < w.heap.size; omega)).trans hc1
      have hd2 := (BW.out.cell (p := ⟨b, off + k * 9 + 2, none⟩) (by show b < w.heap.size; omega)).trans hc2
      have hd3 := (BW.out.cell (p := ⟨b, off + k * 9 + 3, none⟩) (by show b < w.heap.size; omega)).trans hc3
      have hd4 := (BW.out.cell (p := ⟨b, off + k * 9 + 4, none⟩) (by show b < w.heap.size; omega)).trans hc4
      have hd5 := (BW.out.cell (p := ⟨b, off + k * 9 + 5, none⟩) (by show b < w.heap.size; omega)).trans hc5
      have hd6 := (BW.out.cell (p := ⟨b, off + k * 9 + 6, none⟩) (by show b < w.heap.size; omega)).trans hc6
      have hd7 := (BW.out.cell (p := ⟨b, off + k * 9 + 7, none⟩) (by show b < w.heap.size; omega)).trans hc7
      have hd8 := (BW.out.cell (p := ⟨b, off + k * 9 + 8, none⟩) (by show b < w.heap.size; omega)).trans hc8
      have hd0' := (BW.out.cell (p := ⟨b', off' + k * 9, none⟩) (by show b' < w.heap.size; omega)).trans hc0'
      have hd1' := (BW.out.cell (p := ⟨b', off' + k * 9 + 1, none⟩) (by show b' < w.heap.size; omega)).trans hc1'
      have hd2' := (BW.out.cell (p := ⟨b', off' + k * 9 + 2, none⟩) (by show b' < w.heap.size; omega)).trans hc2'
      have hd3' := (BW.out.cell (p := ⟨b', off' + k * 9 + 3, none⟩) (by show b' < w.heap.size; omega)).trans hc3'
      have hd4' := (BW.out.cell (p := ⟨b', off' + k * 9 + 4, none⟩) (by show b' < w.heap.size; omega)).trans hc4'
      have hd5' := (BW.out.cell (p := ⟨b', off' + k * 9 + 5, none⟩) (by show b' < w.heap.size; omega)).trans hc5'
      have hd6' := (BW.out.cell (p := ⟨b', off' + k * 9 + 6, none⟩) (by show b' < w.heap.size; omega)).trans hc6'
      have hd7' := (BW.out.cell (p := ⟨b', off' + k * 9 + 7, none⟩) (by show b' < w.heap.size; omega)).trans hc7'
      have hd8' := (BW.out.cell (p := ⟨b', off' + k * 9 + 8, none⟩) (by show b' < w.heap.size; omega)).trans hc8'
      have HR2 := Lib.hid ((hr2.below BW.out).more BW.out.size)
      have HR3 := Lib.hid ((hr3.below BW.out).more BW.out.size)
      have HR4 := Lib.hid ((hr4.below BW.out).more BW.out.size)
      have HR2' := Lib.hid ((hr2'.below BW.out).more BW.out.size)
      have HR3' := Lib.hid ((hr3'.below BW.out).more BW.out.size)
      have HR4' := Lib.hid ((hr4'.below BW.out).more BW.out.size)
      clear hc0 hc1 hc2 hc3 hc4 hc5 hc6 hc7 hc8 hc0' hc1' hc2' hc3' hc4' hc5' hc6' hc7' hc8' hr2 hr3 hr4 hr2' hr3' hr4'
      generalize xs[k] = y at hd0 hd1 hd2 hd3 hd4 hd5 hd6 hd7 hd8 hd0' hd1' hd2' hd3' hd4' hd5' hd6' hd7' hd8' HR2 HR3 HR4 HR2' HR3' HR4'
      go_wp2
      go_still_tail 8, (by kernel_rfl)
      change wpList _ _ _ _ _ wr.drew
      have HBW : Below w.heap.size w wr.drew := BW.out.drew
      have HB := Lib.hid HBW
      have HQ2 : Hid (Rows intC m wr.drew wr.drew.heap.size A2 y.inn) := HR2.out
      have HQ3 : Hid (Rows flowC m wr.drew wr.drew.heap.size A3 y.out) := HR3.out
      have HQ4 : Hid (Rows intC m wr.drew wr.drew.heap.size A4 y.clear) := HR4.out
      have HQ2' : Hid (Rows intC m' wr.drew wr.drew.heap.size A2' y.inn) := HR2'.out
      have HQ3' : Hid (Rows flowC m' wr.drew wr.drew.heap.size A3' y.out) := HR3'.out
      have HQ4' : Hid (Rows intC m' wr.drew wr.drew.heap.size A4' y.clear) := HR4'.out
      clear HBW HR2 HR3 HR4 HR2' HR3' HR4'
      generalize wr.drew = w2 at HB HQ2 HQ3 HQ4 HQ2' HQ3' HQ4' ⊢
      go_wp2_with (go_at_call 33; refine (laws_eqNetTask y _ _ _ _ _ _ _ _ _ _ _ _ m m' _ HQ2.out HQ2'.out HQ3.out HQ3'.out HQ4.out HQ4'.out).mono ?_; rintro e w1 ⟨rfl, hb1⟩; have HB1 := Lib.hid hb1; clear hb1)
      go_roundg (xs.length - (k + 1))
      case measure => omega
      case rel => exact ⟨k + 1, by omega, by omega, by go_num, HB.out.trans (HB1.out.mono HB.out.size)⟩
    · have hltz : ¬ (k : Int) < (xs.length : Int) := by omega
      go_wp2
      go_ret
      exact ⟨rfl, BW.out⟩
end Go.Proofs.Ytkkjljpokannkaa
