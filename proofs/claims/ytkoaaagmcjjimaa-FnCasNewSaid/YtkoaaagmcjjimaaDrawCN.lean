/- A net and data drawn: DrawCasNew. -/
import Derived.Test.YtkoaaagmcjjimaaDrawSnd
import Derived.Test.YtkoaaagmcjjimaaDrawData
namespace Go.Proofs.Ytkoaaagmcjjimaa
open Go.RowKit
set_option linter.unusedSimpArgs false
set_option linter.unusedVariables false

/-- What drawing a net and data leaves, seen from outside. -/
def DrawnND (w : World) (e : Ending) (w' : World) : Prop :=
  ∃ (x : GNet) (g c : Nat) (A : Option Addr) (ca : Nat) (ds : List Int), e = .returned (.tuple #[.agg #[.int .i64 x.places, .slice (some ⟨g, 0, none⟩) x.tasks.length c], .slice A ds.length ca]) ∧
    Rows taskC none w' w'.heap.size (some ⟨g, 0, none⟩) x.tasks ∧ anyOk x ∧ Ints w' w'.heap.size A ds ∧ ds.length ≤ 4 ∧ Below w.heap.size w w'

set_option maxRecDepth 100000 in
set_option maxHeartbeats 2000000 in
theorem spec_DrawCasNew (A : Option Addr) (c : Nat) (xs : List Int) (w : World) (h : Code w w.heap.size A c xs) :
    Calls Try.prog 43 #[.slice A xs.length c] w (DrawnND w) := by
  have HC := Lib.hid h
  clear h
  go_enter Try.func43, Try.ntmps43
  go_wp2_with fail
  refine callsAt fun W hW => ?_
  have bN : Bk W w.heap.size 37 #[.int .i64 0, .slice none 0 0] := by rw [hW]; exact Bk.new rfl
  have hB : Below w.heap.size w W := by rw [hW]; exact (Below.refl _ _).alloc (Nat.le_refl _) _
  have hWs : w.heap.size < W.heap.size := by rw [hW]; simp
  have HC1 : Hid (Code W W.heap.size A c xs) := by show Code _ _ _ _ _; exact HC.out.later hB
  clear hW
  refine (l20Open A c xs W HC1.out).mono ?_
  rintro e w1 ⟨rfl, hr1, hb1⟩
  have N1 := Lib.hid (bN.later hb1)
  have B1 := Lib.hid (hB.trans (hb1.mono hB.size))
  have R1 := Lib.hid hr1
  have hRl := hr1.lt
  clear hr1 hb1 bN hB
  go_wp2_with fail
  refine (l20AnyNet _ _ 6 _ R1.out (by omega) (by omega)).mono ?_
  rintro e w2 ⟨x, g, c2, rfl, hng, hok, hr2, ht2⟩
  have N2 := Lib.hid (N1.out.turned ht2 (by omega))
  have B2 := Lib.hid (turned_below B1.out ht2 (by omega) (Nat.le_refl _))
  have G2 := Lib.hid (hng.low (by omega : W.heap.size + 1 ≤ w1.heap.size))
  have HOK := Lib.hid hok
  have R2 := Lib.hid hr2
  have hgl := hng.1
  have hl2 := ht2.size
  clear hng hr2 ht2 hok
  go_wp2_with fail
  refine (l20Data _ _ 6 _ R2.out (by omega) (by omega)).mono ?_
  rintro e w3 ⟨A3, c3, ds, rfl, hd2, hd4, hrow, hr3, ht3⟩
  have N3 := Lib.hid (N2.out.turned ht3 (by omega))
  have B3 := Lib.hid (turned_below B2.out ht3 (by omega) (Nat.le_refl _))
  have G3 := Lib.hid (G2.out.turned ht3 (by omega))
  have D3 := Lib.hid (hrow.weak (Weaker.some (by omega : w.heap.size + 1 ≤ w2.heap.size)))
  clear hrow hr3 ht3
  have kN := fun i => N3.out.cell i
  have fN := fun i => N3.out.frozen i
  go_wp2
  generalize hV2 : (World.setCell (World.setCell w3 _ _) _ _) = V2
  have bV : Bk V2 w.heap.size 37 #[.int .i64 x.places, .slice (some ⟨g, 0, none⟩) x.tasks.length c2] := by rw [← hV2]; exact (N3.out.set 0 _).set 1 _
  have hbl : ∀ b, w.heap.size + 1 ≤ b → V2.heap[b]? = w3.heap[b]? := fun b h1 => by
    rw [← hV2]
    exact (Below.heap_setCell _ ⟨w.heap.size, 1, none⟩ _ b (by show b ≠ w.heap.size; omega)).trans (Below.heap_setCell _ ⟨w.heap.size, 0, none⟩ _ b (by show b ≠ w.heap.size; omega))
  have hsz : V2.heap.size = w3.heap.size := by rw [← hV2]; simp [World.setCell]
  have gV : NetG V2 (w.heap.size + 1) g x.tasks := (G3.out.low (by omega : w.heap.size + 1 ≤ W.heap.size + 1)).kept (by omega) fun b h1 _ => hbl b h1
  have dV : Rows intC (some (w.heap.size + 1)) V2 V2.heap.size A3 ds := (D3.out.keep fun b _ hl => hbl b (hl _ rfl)).more (by omega)
  have tV : Below w.heap.size w V2 := by rw [← hV2]; exact (B3.out.setCell (p := ⟨w.heap.size, 0, none⟩) (Nat.le_refl _) _).setCell (p := ⟨w.heap.size, 1, none⟩) (Nat.le_refl _) _
  clear hV2 kN fN
  have k1 := fun i => bV.cell i
  refine bodyPost_ret (v := .tuple #[.agg #[.int .i64 x.places, .slice (some ⟨g, 0, none⟩) x.tasks.length c2], .slice A3 ds.length c3]) (by simp [results, Try.results43, go_sem, k1]) rfl ?_
  exact ⟨x, g, c2, A3, c3, ds, rfl, (gV.rows (by have := HOK.out.2.1; omega)).weak (Weaker.none _), HOK.out, dV.ints, hd4, tV⟩
end Go.Proofs.Ytkoaaagmcjjimaa
