/- Nets drawn: DrawSndPlain, DrawNetAsks. -/
import Derived.Test.YtkkjljpokannkaaDrawAny
import Derived.Test.YtkkjljpokannkaaDat
namespace Go.Proofs.Ytkkjljpokannkaa
open Go.RowKit
set_option linter.unusedSimpArgs false
set_option linter.unusedVariables false

/-- What drawing a net leaves, seen from outside. -/
def DrawnN (w : World) (e : Ending) (w' : World) : Prop :=
  ∃ (x : GNet) (g c : Nat), e = .returned (.agg #[.int .i64 x.places, .slice (some ⟨g, 0, none⟩) x.tasks.length c]) ∧ Rows taskC none w' w'.heap.size (some ⟨g, 0, none⟩) x.tasks ∧ anyOk x ∧ Below w.heap.size w w'
theorem turned_below {R B : Nat} {a b c : World} (h1 : Below B a b) (h2 : Turned R b c) (hR : B ≤ R) (hB : B ≤ a.heap.size) : Below B a c := h1.trans (h2.below hR (Nat.le_trans hB h1.size))
theorem Code.later {w w' : World} {A : Option Addr} {c : Nat} {xs : List Int} (h : Code w w.heap.size A c xs) (hb : Below w.heap.size w w') : Code w' w'.heap.size A c xs :=
  ⟨⟨h.1.1, fun hl => by
    obtain ⟨b, off, hA, hB, hc⟩ := h.1.2.1 hl
    exact ⟨b, off, hA, by have := hb.size; omega, fun j x hx => (hb.cell (p := ⟨b, off + j, none⟩) hB).trans (hc j x hx)⟩, h.1.2.2⟩, h.2⟩

theorem spec_DrawSndPlain (A : Option Addr) (c : Nat) (xs : List Int) (w : World) (h : Code w w.heap.size A c xs) :
    Calls Try.prog 24 #[.slice A xs.length c] w (DrawnN w) := by
  have HC := Lib.hid h
  clear h
  go_enter Try.func24, Try.ntmps24
  go_wp2_with fail
  refine callsAt fun W hW => ?_
  have bN : Bk W w.heap.size 37 #[.int .i64 0, .slice none 0 0] := by rw [hW]; exact Bk.new rfl
  have hB : Below w.heap.size w W := by rw [hW]; exact (Below.refl _ _).alloc (Nat.le_refl _) _
  have hWs : w.heap.size < W.heap.size := by rw [hW]; simp
  have HC1 : Hid (Code W W.heap.size A c xs) := by show Code _ _ _ _ _; exact HC.out.later hB
  clear hW
  refine (l20Open A c xs W HC1.out).mono ?_
  rintro e w1 ⟨rfl, hr1, hb1⟩
  have N1 := Lib.hid (bN.later hb1)
  have B1 := Lib.hid (hB.trans (hb1.mono hB.size))
  have R1 := Lib.hid hr1
  have hRl := hr1.lt
  clear hr1 hb1 bN hB
  go_wp2_with fail
  refine (l20AnyNet _ _ 9 _ R1.out (by omega) (by omega)).mono ?_
  rintro e w2 ⟨x, g, c2, rfl, hng, hok, hr2, ht2⟩
  have N2 := Lib.hid (N1.out.turned ht2 (by omega))
  have B2 := Lib.hid (turned_below B1.out ht2 (by omega) (Nat.le_refl _))
  have G2 := Lib.hid hng
  have HOK := Lib.hid hok
  have hgl := hng.1
  clear hng hr2 ht2 hok
  have kN := fun i => N2.out.cell i
  have fN := fun i => N2.out.frozen i
  go_wp2
  generalize hV2 : (World.setCell (World.setCell w2 _ _) _ _) = V2
  have bV : Bk V2 w.heap.size 37 #[.int .i64 x.places, .slice (some ⟨g, 0, none⟩) x.tasks.length c2] := by rw [← hV2]; exact (N2.out.set 0 _).set 1 _
  have gV : NetG V2 (w.heap.size + 1) g x.tasks := by
    rw [← hV2]
    exact (G2.out.low (by omega : w.heap.size + 1 ≤ w1.heap.size)).kept (by simp [World.setCell]) fun b h1 _ => (Below.heap_setCell _ ⟨w.heap.size, 1, none⟩ _ b (by show b ≠ w.heap.size; omega)).trans (Below.heap_setCell _ ⟨w.heap.size, 0, none⟩ _ b (by show b ≠ w.heap.size; omega))
  have tV : Below w.heap.size w V2 := by rw [← hV2]; exact (B2.out.setCell (p := ⟨w.heap.size, 0, none⟩) (Nat.le_refl _) _).setCell (p := ⟨w.heap.size, 1, none⟩) (Nat.le_refl _) _
  clear hV2 kN fN
  have k1 := fun i => bV.cell i
  refine bodyPost_ret (v := .agg #[.int .i64 x.places, .slice (some ⟨g, 0, none⟩) x.tasks.length c2]) (by simp [results, Try.results24, go_sem, k1]) rfl ?_
  exact ⟨x, g, c2, rfl, (gV.rows (by have := HOK.out.2.1; omega)).weak (Weaker.none _), HOK.out, tV⟩

theorem spec_DrawNetAsks (A : Option Addr) (c : Nat) (xs : List Int) (w : World) (h : Code w w.heap.size A c xs) :
    Calls Try.prog 64 #[.slice A xs.length c] w (DrawnN w) := by
  have HC := Lib.hid h
  clear h
  go_enter Try.func64, Try.ntmps64
  go_wp2_with fail
  refine callsAt fun W hW => ?_
  have bN : Bk W w.heap.size 37 #[.int .i64 0, .slice none 0 0] := by rw [hW]; exact Bk.new rfl
  have hB : Below w.heap.size w W := by rw [hW]; exact (Below.refl _ _).alloc (Nat.le_refl _) _
  have hWs : w.heap.size < W.heap.size := by rw [hW]; simp
  have HC1 : Hid (Code W W.heap.size A c xs) := by show Code _ _ _ _ _; exact HC.out.later hB
  clear hW
  refine (l20Open A c xs W HC1.out).mono ?_
  rintro e w1 ⟨rfl, hr1, hb1⟩
  have N1 := Lib.hid (bN.later hb1)
  have B1 := Lib.hid (hB.trans (hb1.mono hB.size))
  have R1 := Lib.hid hr1
  have hRl := hr1.lt
  clear hr1 hb1 bN hB
  go_wp2_with fail
  refine (l20AnyNet _ _ 9 _ R1.out (by omega) (by omega)).mono ?_
  rintro e w2 ⟨x, g, c2, rfl, hng, hok, hr2, ht2⟩
  have N2 := Lib.hid (N1.out.turned ht2 (by omega))
  have B2 := Lib.hid (turned_below B1.out ht2 (by omega) (Nat.le_refl _))
  have G2 := Lib.hid hng
  have HOK := Lib.hid hok
  have hgl := hng.1
  clear hng hr2 ht2 hok
  have kN := fun i => N2.out.cell i
  have fN := fun i => N2.out.frozen i
  go_wp2
  generalize hV2 : (World.setCell (World.setCell w2 _ _) _ _) = V2
  have bV : Bk V2 w.heap.size 37 #[.int .i64 x.places, .slice (some ⟨g, 0, none⟩) x.tasks.length c2] := by rw [← hV2]; exact (N2.out.set 0 _).set 1 _
  have gV : NetG V2 (w.heap.size + 1) g x.tasks := by
    rw [← hV2]
    exact (G2.out.low (by omega : w.heap.size + 1 ≤ w1.heap.size)).kept (by simp [World.setCell]) fun b h1 _ => (Below.heap_setCell _ ⟨w.heap.size, 1, none⟩ _ b (by show b ≠ w.heap.size; omega)).trans (Below.heap_setCell _ ⟨w.heap.size, 0, none⟩ _ b (by show b ≠ w.heap.size; omega))
  have tV : Below w.heap.size w V2 := by rw [← hV2]; exact (B2.out.setCell (p := ⟨w.heap.size, 0, none⟩) (Nat.le_refl _) _).setCell (p := ⟨w.heap.size, 1, none⟩) (Nat.le_refl _) _
  clear hV2 kN fN
  have k1 := fun i => bV.cell i
  refine bodyPost_ret (v := .agg #[.int .i64 x.places, .slice (some ⟨g, 0, none⟩) x.tasks.length c2]) (by simp [results, Try.results64, go_sem, k1]) rfl ?_
  exact ⟨x, g, c2, rfl, (gV.rows (by have := HOK.out.2.1; omega)).weak (Weaker.none _), HOK.out, tV⟩

end Go.Proofs.Ytkkjljpokannkaa
