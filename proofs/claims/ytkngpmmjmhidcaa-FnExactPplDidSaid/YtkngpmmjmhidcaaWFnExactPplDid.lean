/- The walk of FnExactPplDid: it returns true. -/
import Derived.Test.YtkngpmmjmhidcaaDid
import Derived.Test.YtkngpmmjmhidcaaCopyDid
namespace Go.Proofs.Ytkngpmmjmhidcaa
open Go.RowKit
theorem walk_FnExactPplDid (A : Option Addr) (c : Nat) (xs : List GDid) (who task : Int) (w : World) (hx : Rows didC none w w.heap.size A xs) (_ : -9223372036854775808 ≤ who ∧ who ≤ 9223372036854775807) (_ : -9223372036854775808 ≤ task ∧ task ≤ 9223372036854775807) :
    Calls Try.prog 5 #[.slice A xs.length c, .int .i64 who, .int .i64 task] w fun e w' => e = .returned (.bool true) ∧ Below w.heap.size w w' := by
  by_cases hl : xs.length ≤ 1048576
  · have hs : szOf xs.length 1048576 = 1048576 - xs.length := if_neg (by omega)
    go_enter Try.func5, Try.ntmps5
    go_wp2_with fail
    refine (laws_szCasDidS A c xs.length 1048576 (by omega) (by omega) hx.1 _).mono ?_; rintro e w' ⟨rfl, rfl⟩
    rw [hs]
    clear hs
    go_wp2_with fail
    refine (laws_toCasDidS A c xs none _ w.heap.size (Nat.le_refl _) hx hl).mono ?_; rintro e w1 ⟨g1, hg1, rfl, hw1, hb1⟩
    go_wp2_with fail
    refine (spec_PplDid _ _ xs _ _ _ w1.heap.size _ hw1).mono ?_; rintro e w' ⟨rfl, rfl⟩
    go_wp2_with fail
    refine (laws_toCasDidS A c xs none _ w.heap.size hb1.size (hx.below hb1) hl).mono ?_; rintro e w2 ⟨g2, hg2, rfl, hw2, hb2⟩
    go_wp2_with fail
    refine (impl_PplDid _ _ xs _ _ _ _ hw2).mono ?_; rintro e w3 ⟨rfl, hb3⟩
    have hb13 : Below w.heap.size w w3 := hb1.trans ((hb2.mono hb1.size).trans (hb3.mono (Nat.le_trans hb1.size hb2.size)))
    go_wp2_with fail
    refine (laws_toCasDidS A c xs none _ w.heap.size hb13.size (hx.below hb13) hl).mono ?_; rintro e w4 ⟨g4, hg4, rfl, hw4, hb4⟩
    go_wp2_with fail
    refine (laws_eqCasDidS _ _ _ _ xs _ _ _ ((hw2.later hb3).later hb4) hw4).mono ?_; rintro e w5 ⟨rfl, hb5⟩
    go_wp2
    go_ret
    exact ⟨rfl, (hb13.trans (hb4.mono hb13.size)).trans (hb5.mono (Nat.le_trans hb13.size hb4.size))⟩
  · have hs : szOf xs.length 1048576 = -1 := if_pos (by omega)
    go_enter Try.func5, Try.ntmps5
    go_wp2_with fail
    refine (laws_szCasDidS A c xs.length 1048576 (by omega) (by omega) hx.1 _).mono ?_; rintro e w' ⟨rfl, rfl⟩
    rw [hs]
    clear hs
    go_wp2
    go_ret
    exact ⟨rfl, Below.refl _ _⟩
end Go.Proofs.Ytkngpmmjmhidcaa
