/- People and who is busy drawn: DrawPplFree. -/
import Derived.Test.YtkkjljpokannkaaBusyC
import Derived.Test.YtkkjljpokannkaaDrawPeople
import Derived.Test.YtkkjljpokannkaaDrawAny
import Derived.Test.YtkkjljpokannkaaDrawSnd
namespace Go.Proofs.Ytkkjljpokannkaa
open Go.RowKit
set_option linter.unusedSimpArgs false
set_option linter.unusedVariables false

/-- What drawing people and who is busy leaves. -/
def DrawnPF (w : World) (e : Ending) (w' : World) : Prop :=
  ∃ (A : Option Addr) (c : Nat) (ps : List Int) (A2 : Option Addr) (c2 : Nat) (bs : List GItem), e = .returned (.tuple #[.slice A ps.length c, .slice A2 bs.length c2]) ∧ Ints w' w'.heap.size A ps ∧ ps.length ≤ 5 ∧ bs.length ≤ 3 ∧ Rows itemC none w' w'.heap.size A2 bs ∧ Below w.heap.size w w'

set_option maxRecDepth 100000 in
set_option maxHeartbeats 2000000 in
theorem spec_DrawPplFree (HBL : BusyLaw) (A : Option Addr) (c : Nat) (xs : List Int) (w : World) (h : Code w w.heap.size A c xs) :
    Calls Try.prog 17 #[.slice A xs.length c] w (DrawnPF w) := by
  have HC := Lib.hid h
  have HBLH := Lib.hid HBL
  clear h HBL
  go_enter Try.func17, Try.ntmps17
  go_wp2_with fail
  refine (l20Open A c xs w HC.out).mono ?_
  rintro e w1 ⟨rfl, hr1, hb1⟩
  have B := Lib.hid hb1
  have R := Lib.hid hr1
  have hRl := hr1.lt
  clear hr1 hb1
  go_wp2_with fail
  refine (l20People _ _ 9 _ R.out (by omega) (by omega)).mono ?_
  rintro e w2 ⟨A1, c1, ps, rfl, hpl, _, hps, hr2, ht2⟩
  have B := Lib.hid (turned_below B.out ht2 (Nat.le_refl _) (Nat.le_refl _))
  have PS := Lib.hid hps
  have R := Lib.hid hr2
  have z2 := ht2.size
  have hRl2 := hr2.lt
  clear hr2 ht2 hps
  go_wp2_with fail
  refine (l20Net _ _ _ R.out (by omega)).mono ?_
  rintro e w3 ⟨x, g, c2, rfl, hng, hok, hr3, ht3⟩
  obtain ⟨⟨h1, h6, _, _, _⟩, hsm⟩ := netOk_any hok
  have B := Lib.hid (turned_below B.out ht3 (Nat.le_refl _) (Nat.le_refl _))
  have PS := Lib.hid (PS.out.turned ht3 (by omega))
  have R := Lib.hid hr3
  have z3 := ht3.size
  have HNG := Lib.hid (hng.low (by omega : w.heap.size + 1 ≤ w2.heap.size))
  have HSM : Hid (∀ t ∈ x.tasks, t.need ≤ 100) := fun t ht => by have := hsm t ht; omega
  clear hr3 ht3 hng hok hsm
  go_wp2_with fail
  refine (HBLH.out w.heap.size _ x g c2 9 _ R.out (by omega) HNG.out h1 h6 HSM.out (by omega)).mono ?_
  rintro e w4 ⟨A4, c4, bs, rfl, hbl, hrow, hr4, ht4⟩
  have B := Lib.hid (turned_below B.out ht4 (Nat.le_refl _) (Nat.le_refl _))
  have PS4 := Lib.hid (PS.out.turned ht4 (by omega))
  go_wp2
  go_ret2
  exact ⟨A1, c1, ps, A4, c4, bs, rfl, PS4.out.ints (by omega), hpl, hbl, hrow.weak (Weaker.none _), B.out⟩
end Go.Proofs.Ytkkjljpokannkaa
