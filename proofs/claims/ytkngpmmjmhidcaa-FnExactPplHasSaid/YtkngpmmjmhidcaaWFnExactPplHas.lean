/- The walk of FnExactPplHas: it returns true. -/
import Derived.Test.YtkngpmmjmhidcaaPpl
namespace Go.Proofs.Ytkngpmmjmhidcaa
open Go.RowKit
theorem walk_FnExactPplHas (A : Option Addr) (c : Nat) (xs : List Int) (who role : Int) (w : World) (hx : Ints w w.heap.size A xs) (_ : -9223372036854775808 ≤ who ∧ who ≤ 9223372036854775807) (_ : -9223372036854775808 ≤ role ∧ role ≤ 9223372036854775807) :
    Calls Try.prog 6 #[.slice A xs.length c, .int .i64 who, .int .i64 role] w fun e w' => e = .returned (.bool true) ∧ Below w.heap.size w w' := by
  by_cases hl : xs.length ≤ 1048576
  · go_enter Try.func6, Try.ntmps6
    go_wp2_with fail
    refine (laws_toIntS A c xs _ w.heap.size (Nat.le_refl _) hx hl).mono ?_; rintro e w1 ⟨rfl, hw1, hb1⟩
    go_wp2_with fail
    refine (spec_PplHas _ _ xs _ _ _ w1.heap.size (hw1.ints hw1.lt (by omega))).mono ?_; rintro e w' ⟨rfl, rfl⟩
    go_wp2_with fail
    refine (laws_toIntS A c xs _ w.heap.size hb1.size (hx.below hb1) hl).mono ?_; rintro e w2 ⟨rfl, hw2, hb2⟩
    go_wp2_with fail
    have hx2 : Ints w2 w2.heap.size (some ⟨w1.heap.size, 0, none⟩) xs := hw2.ints hw2.lt (by omega)
    refine (impl_PplHas _ _ xs _ _ _ hx2).mono ?_; rintro e w3 ⟨rfl, hb3⟩
    have hb13 : Below w.heap.size w w3 := hb1.trans ((hb2.mono hb1.size).trans (hb3.mono (Nat.le_trans hb1.size hb2.size)))
    go_wp2_with fail
    refine (laws_toIntS A c xs _ w.heap.size hb13.size (hx.below hb13) hl).mono ?_; rintro e w4 ⟨rfl, hw4, hb4⟩
    go_wp2_with fail
    refine (laws_eqIntS _ _ _ _ xs xs _ w4.heap.size (((hx2.later hb3).later hb4)) (hw4.ints hw4.lt (by omega))).mono ?_; rintro e w5 ⟨rfl, n, rfl⟩
    go_wp2
    go_ret
    exact ⟨rfl, bdN (hb13.trans (hb4.mono hb13.size)) _⟩
  · have hz : (1048576 : Int) < xs.length := by omega
    go_enter Try.func6, Try.ntmps6
    go_wp2
    go_ret
    exact ⟨rfl, Below.refl _ _⟩
end Go.Proofs.Ytkngpmmjmhidcaa
