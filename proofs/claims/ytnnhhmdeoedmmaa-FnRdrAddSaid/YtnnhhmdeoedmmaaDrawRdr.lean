/- What the draws of rules hand back. -/
import Derived.Test.YtnnhhmdeoedmmaaDrawTree
namespace Go.Proofs.Ytnnhhmdeoedmmaa
open Go.RowKit

/-- Rules and data that were drawn. -/
def DrawnTD (w : World) (e : Ending) (w' : World) : Prop :=
  ∃ A c t A1 c1 d, e = .returned (.tuple #[.slice A (List.length (α := GRule) t) c, .slice A1 (List.length (α := Int) d) c1]) ∧ t.length ≤ 12 ∧ (∀ r ∈ t, r.stone.length ≤ 4) ∧ d.length ≤ 4 ∧ Rows ruleC none w' w'.heap.size A t ∧ Ints w' w'.heap.size A1 d ∧ Below w.heap.size w w'
/-- Rules that were drawn. -/
def DrawnT0 (w : World) (e : Ending) (w' : World) : Prop :=
  ∃ A c t, e = .returned (.slice A (List.length (α := GRule) t) c) ∧ t.length ≤ 12 ∧ (∀ r ∈ t, r.stone.length ≤ 4) ∧ Rows ruleC none w' w'.heap.size A t ∧ Below w.heap.size w w'

theorem spec_DrawRdrOk (A : Option Addr) (c : Nat) (xs : List Int) (w : World) (h : Code w w.heap.size A c xs) :
    Calls Try.prog 29 #[.slice A xs.length c] w (DrawnT0 w) := by
  have HC := Lib.hid h
  clear h
  go_enter Try.func29, Try.ntmps29
  go_wp2_with fail
  refine (l20Open A c xs w HC.out).mono ?_
  rintro e w1 ⟨rfl, hr1, hb1⟩
  have R1 := Lib.hid hr1
  have B1 := Lib.hid hb1
  clear hr1 hb1
  go_wp2_with fail
  refine (l20Tree _ _ _ _ R1.out (by omega) (by omega)).mono ?_
  rintro e w2 ⟨A2, c2, t, rfl, hl, hs, hrow, hr2, ht2⟩
  have D2 := Lib.hid hrow
  have S2 := Lib.hid hs
  have T2 := Lib.hid (B1.out.trans (ht2.below (Nat.le_refl _) B1.out.size))
  clear hrow hr2 ht2 hs
  go_wp2
  go_ret
  exact ⟨A2, c2, t, rfl, hl, S2.out, D2.out.weak (Weaker.none _), T2.out⟩
theorem spec_DrawRdrDepth (A : Option Addr) (c : Nat) (xs : List Int) (w : World) (h : Code w w.heap.size A c xs) :
    Calls Try.prog 40 #[.slice A xs.length c] w (DrawnT0 w) := by
  have HC := Lib.hid h
  clear h
  go_enter Try.func40, Try.ntmps40
  go_wp2_with fail
  refine (l20Open A c xs w HC.out).mono ?_
  rintro e w1 ⟨rfl, hr1, hb1⟩
  have R1 := Lib.hid hr1
  have B1 := Lib.hid hb1
  clear hr1 hb1
  go_wp2_with fail
  refine (l20Tree _ _ _ _ R1.out (by omega) (by omega)).mono ?_
  rintro e w2 ⟨A2, c2, t, rfl, hl, hs, hrow, hr2, ht2⟩
  have D2 := Lib.hid hrow
  have S2 := Lib.hid hs
  have T2 := Lib.hid (B1.out.trans (ht2.below (Nat.le_refl _) B1.out.size))
  clear hrow hr2 ht2 hs
  go_wp2
  go_ret
  exact ⟨A2, c2, t, rfl, hl, S2.out, D2.out.weak (Weaker.none _), T2.out⟩

set_option maxHeartbeats 1000000 in
theorem spec_DrawRdrAsk (A : Option Addr) (c : Nat) (xs : List Int) (w : World) (h : Code w w.heap.size A c xs) :
    Calls Try.prog 44 #[.slice A xs.length c] w (DrawnTD w) := by
  have HC := Lib.hid h
  clear h
  go_enter Try.func44, Try.ntmps44
  go_wp2_with fail
  refine (l20Open A c xs w HC.out).mono ?_
  rintro e w1 ⟨rfl, hr1, hb1⟩
  have R1 := Lib.hid hr1
  have B1 := Lib.hid hb1
  have s1 := hr1.lt
  clear hr1 hb1
  go_wp2_with fail
  refine (l20Tree _ _ _ _ R1.out (by omega) (by omega)).mono ?_
  rintro e w2 ⟨A2, c2, t, rfl, hl, hs, hrow, hr2, ht2⟩
  have D2 := Lib.hid hrow
  have S2 := Lib.hid hs
  have R2 := Lib.hid hr2
  have T2 := Lib.hid ht2
  have s2 := ht2.size
  clear hrow hr2 ht2 hs
  go_wp2_with fail
  refine (l20Data _ _ _ _ R2.out (by omega) (by omega)).mono ?_
  rintro e w3 ⟨A3, c3, d, rfl, hd2, hd4, hrow3, hr3, ht3⟩
  have D3 := Lib.hid ((D2.out.keep (ht3.agree s1 (Nat.le_refl _))).more ht3.size)
  have E3 := Lib.hid hrow3
  have T3 := Lib.hid (B1.out.trans ((T2.out.trans ht3).below (Nat.le_refl _) B1.out.size))
  clear hrow3 hr3 ht3
  go_wp2
  refine bodyPost_ret (v := .tuple #[.slice A2 t.length c2, .slice A3 d.length c3]) (by simp [results, Try.results44, go_sem]) rfl ?_
  exact ⟨A2, c2, t, A3, c3, d, rfl, hl, S2.out, hd4, D3.out.weak (Weaker.none _), E3.out.ints, T3.out⟩

theorem spec_DrawRdrWay (A : Option Addr) (c : Nat) (xs : List Int) (w : World) (h : Code w w.heap.size A c xs) :
    Calls Try.prog 41 #[.slice A xs.length c] w (DrawnTD w) := by
  have HC := Lib.hid h
  clear h
  go_enter Try.func41, Try.ntmps41
  go_wp2_with fail
  refine (spec_DrawRdrAsk A c xs w HC.out).mono ?_
  rintro e w1 ⟨A2, c2, t, A3, c3, d, rfl, hl, hs, hd, hrow, hint, hb⟩
  have H1 := Lib.hid hrow
  have H2 := Lib.hid hint
  have H3 := Lib.hid hb
  have H4 := Lib.hid hs
  clear hrow hint hb hs
  go_wp2
  refine bodyPost_ret (v := .tuple #[.slice A2 t.length c2, .slice A3 d.length c3]) (by simp [results, Try.results41, go_sem]) rfl ?_
  exact ⟨A2, c2, t, A3, c3, d, rfl, hl, H4.out, hd, H1.out, H2.out, H3.out⟩
theorem spec_DrawRdrHeld (A : Option Addr) (c : Nat) (xs : List Int) (w : World) (h : Code w w.heap.size A c xs) :
    Calls Try.prog 39 #[.slice A xs.length c] w (DrawnTD w) := by
  have HC := Lib.hid h
  clear h
  go_enter Try.func39, Try.ntmps39
  go_wp2_with fail
  refine (spec_DrawRdrAsk A c xs w HC.out).mono ?_
  rintro e w1 ⟨A2, c2, t, A3, c3, d, rfl, hl, hs, hd, hrow, hint, hb⟩
  have H1 := Lib.hid hrow
  have H2 := Lib.hid hint
  have H3 := Lib.hid hb
  have H4 := Lib.hid hs
  clear hrow hint hb hs
  go_wp2
  refine bodyPost_ret (v := .tuple #[.slice A2 t.length c2, .slice A3 d.length c3]) (by simp [results, Try.results39, go_sem]) rfl ?_
  exact ⟨A2, c2, t, A3, c3, d, rfl, hl, H4.out, hd, H1.out, H2.out, H3.out⟩
end Go.Proofs.Ytnnhhmdeoedmmaa
