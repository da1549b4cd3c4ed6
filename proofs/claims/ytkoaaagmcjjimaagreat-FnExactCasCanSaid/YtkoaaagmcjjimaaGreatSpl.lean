/- Where a task leads to with data: SplTo of the program and of the reference. -/
import Derived.Test.YtkoaaagmcjjimaaGreatAny0
import Derived.Test.YtkoaaagmcjjimaaGreatGBase
import Derived.Test.YtkoaaagmcjjimaaGreatNetSpec
import Derived.Test.YtkoaaagmcjjimaaGreatExp
namespace Go.Proofs.YtkoaaagmcjjimaaGreat
open Go.RowKit
set_option linter.unusedSimpArgs false
set_option linter.unusedVariables false

/-- Way i of a task is passed by, when so many have been taken. -/
def splSkip (t : GTask) (i n : Nat) : Bool := (decide (t.split = 2) && decide (0 < n)) || (decide (t.split = 3) && (decide (i + 1 = t.out.length) && decide (0 < n)))
def splStep (t : GTask) (d : List Int) (out : List Int) (i : Nat) : List Int :=
  if (holds (t.out.getD i flow0).ask d && !splSkip t i out.length) = true then out ++ [(t.out.getD i flow0).to] else out
def splTo (t : GTask) (d : List Int) : Nat → List Int
  | 0 => []
  | k + 1 => splStep t d (splTo t d k) k
theorem splTo_len (t : GTask) (d : List Int) : ∀ k, (splTo t d k).length ≤ k
  | 0 => by simp [splTo]
  | k + 1 => by
    have h := splTo_len t d k
    unfold splTo splStep
    split
    · rw [List.length_append]; simp; omega
    · omega
theorem splTo_no {t : GTask} {d : List Int} {k : Nat} (h : holds (t.out.getD k flow0).ask d = false ∨ splSkip t k (splTo t d k).length = true) : splTo t d (k + 1) = splTo t d k := by
  show splStep t d (splTo t d k) k = _
  unfold splStep
  rw [if_neg]
  rcases h with h | h
  · rw [h]; simp
  · rw [h]; simp
theorem splTo_yes {t : GTask} {d : List Int} {k : Nat} (h : holds (t.out.getD k flow0).ask d = true) (h2 : splSkip t k (splTo t d k).length = false) : splTo t d (k + 1) = splTo t d k ++ [(t.out.getD k flow0).to] := by
  show splStep t d (splTo t d k) k = _
  unfold splStep
  rw [if_pos (by rw [h, h2]; rfl)]
/-- Where one way is taken for all, the first one is the last. -/
theorem splTo_done {t : GTask} {d : List Int} (h2 : t.split = 2) {k : Nat} (hk : 0 < (splTo t d k).length) : ∀ j, splTo t d (k + j) = splTo t d k
  | 0 => rfl
  | j + 1 => by
    have ih := splTo_done h2 hk j
    rw [show k + (j + 1) = (k + j) + 1 from rfl, splTo_no (.inr ?_), ih]
    rw [ih]
    simp [splSkip, h2, hk]

abbrev taskV (x : GTask) (A1 : Option Addr) (c1 : Nat) (A2 : Option Addr) (c2 : Nat) (A3 : Option Addr) (c3 : Nat) : Array Value := #[.int .i64 x.join, .int .i64 x.split, .slice A1 x.inn.length c1, .slice A2 x.out.length c2, .slice A3 x.clear.length c3, .int .i64 x.role, .int .i64 x.apart, .int .i64 x.all, .int .i64 x.need]

end Go.Proofs.YtkoaaagmcjjimaaGreat
