/- Nets copied and compared. -/
import Derived.Test.YtkkjljpokannkaaSzNet
namespace Go.Proofs.Ytkkjljpokannkaa
open Go.RowKit

/-- What copying a net leaves: a new one that reads as the same; its tasks lie in block g. -/
def MadeN (x : GNet) (w : World) (e : Ending) (w' : World) : Prop :=
  ∃ g, w.heap.size ≤ g ∧ e = .returned (.agg #[.int .i64 x.places, .slice (some ⟨g, 0, none⟩) x.tasks.length x.tasks.length]) ∧ Filled taskC w' g 42 [.int .i64 0, .int .i64 0, .slice none 0 0, .slice none 0 0, .slice none 0 0, .int .i64 0, .int .i64 0, .int .i64 0, .int .i64 0] x.tasks x.tasks.length ∧ Below w.heap.size w w'

theorem filled_set {w : World} {g : Nat} {t : TypeId} {zc : List Value} {xs : List GTask} {k : Nat} (h : Filled taskC w g t zc xs k) {p : Addr} (hp : p.block < g) (u : Value) : Filled taskC (w.setCell p u) g t zc xs k := by
  obtain ⟨css, h1, h2, h3⟩ := h
  refine ⟨css, h1, fun j cs hj => ?_, h3.far (by omega) u⟩
  obtain ⟨x, hx, hR⟩ := h2 j cs hj
  exact ⟨x, hx, taskC.more (taskC.keep hR (Agree.setCell (by omega) u)) (by simp [World.setCell])⟩

set_option maxHeartbeats 1000000 in
theorem laws_toNetNet (x : GNet) (A : Option Addr) (c : Nat) (m : Option Nat) (w : World) (h : Rows taskC m w w.heap.size A x.tasks) (hl : x.tasks.length ≤ 1048576) (hs : ∀ y ∈ x.tasks, taskFit y) :
    Calls Try.prog 68 #[.agg #[.int .i64 x.places, .slice A x.tasks.length c]] w (MadeN x w) := by
  have H := Lib.hid h
  have HS := Lib.hid hs
  clear h hs
  go_enter Try.func68, Try.ntmps68
  go_wp2_with fail
  refine callsAt fun W0 hW0 => ?_
  have b0 : Bk W0 w.heap.size 87 #[.int .i64 x.places, .slice A x.tasks.length c] := by rw [hW0]; exact ((Bk.new rfl).alloc _).alloc _
  have b1 : Bk W0 (w.heap.size + 1) 37 #[.int .i64 0, .slice none 0 0] := by rw [hW0]; exact (Bk.new (by simp)).alloc _
  have b2 : Bk W0 (w.heap.size + 1 + 1) 37 #[.int .i64 x.places, .slice none 0 0] := by rw [hW0]; exact Bk.new (by simp)
  have hB : Below w.heap.size w W0 := by rw [hW0]; go_grown
  have hz : w.heap.size + 3 ≤ W0.heap.size := by rw [hW0]; simp only [World.size_alloc]; omega
  clear hW0
  refine (laws_toNetTaskS A c x.tasks m _ (H.out.later hB) hl HS.out).mono ?_
  rintro e w0 ⟨g, hg, rfl, hF, hb⟩
  have HBw := Lib.hid (hB.trans (hb.mono (by omega)))
  have b0 := b0.later hb
  have b1 := b1.later hb
  have b2 := b2.later hb
  have k0 := fun i => b0.cell i
  have k1 := fun i => b1.cell i
  have k2 := fun i => b2.cell i
  have f1 := fun i => b1.frozen i
  have f2 := fun i => b2.frozen i
  have HF := Lib.hid hF
  clear hb hB b0 b1 b2 hF
  go_wp2
  refine bodyPost_ret (v := .agg #[.int .i64 x.places, .slice (some ⟨g, 0, none⟩) x.tasks.length x.tasks.length]) (by simp [results, Try.results68, go_sem, k1]) rfl ?_
  refine ⟨g, by omega, rfl, ?_, ?_⟩
  · exact filled_set (filled_set (filled_set HF.out (p := ⟨w.heap.size + 1 + 1, 1, none⟩) (by show w.heap.size + 1 + 1 < g; omega) _) (p := ⟨w.heap.size + 1, 0, none⟩) (by show w.heap.size + 1 < g; omega) _) (p := ⟨w.heap.size + 1, 1, none⟩) (by show w.heap.size + 1 < g; omega) _
  · exact (((HBw.out.setCell (p := ⟨w.heap.size + 1 + 1, 1, none⟩) (show w.heap.size ≤ w.heap.size + 1 + 1 by omega) _).setCell (p := ⟨w.heap.size + 1, 0, none⟩) (show w.heap.size ≤ w.heap.size + 1 by omega) _).setCell (p := ⟨w.heap.size + 1, 1, none⟩) (show w.heap.size ≤ w.heap.size + 1 by omega) _)

/-- A net copied reads as the net. -/
theorem MadeN.rows {x : GNet} {w : World} {g : Nat} (h : Filled taskC w g 42 [.int .i64 0, .int .i64 0, .slice none 0 0, .slice none 0 0, .slice none 0 0, .int .i64 0, .int .i64 0, .int .i64 0, .int .i64 0] x.tasks x.tasks.length) (hl : x.tasks.length ≤ 1048576) : Rows taskC (some g) w w.heap.size (some ⟨g, 0, none⟩) x.tasks :=
  Filled.done h (by omega)

set_option maxHeartbeats 1000000 in
theorem laws_eqNetNet (x : GNet) (A A' : Option Addr) (c c' : Nat) (m m' : Option Nat) (w : World) (h : Rows taskC m w w.heap.size A x.tasks) (h' : Rows taskC m' w w.heap.size A' x.tasks) :
    Calls Try.prog 71 #[.agg #[.int .i64 x.places, .slice A x.tasks.length c], .agg #[.int .i64 x.places, .slice A' x.tasks.length c']] w fun e w' => e = .returned (.bool true) ∧ Below w.heap.size w w' := by
  have H := Lib.hid h
  have H' := Lib.hid h'
  clear h h'
  go_enter Try.func71, Try.ntmps71
  go_wp2_with fail
  refine callsAt fun W0 hW0 => ?_
  have hB : Below w.heap.size w W0 := by rw [hW0]; go_grown
  clear hW0
  refine (laws_eqNetTaskS A A' c c' x.tasks m m' _ (H.out.later hB) (H'.out.later hB)).mono ?_
  rintro e w0 ⟨rfl, hb⟩
  have HB := Lib.hid (hB.trans (hb.mono hB.size))
  clear hb hB
  go_wp2
  go_returns
  exact ⟨rfl, HB.out⟩
end Go.Proofs.Ytkkjljpokannkaa
