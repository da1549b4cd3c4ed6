/- A rule put in, as a plain function. -/
import Derived.Test.YtjieilicjdoaaaaRule
namespace Go.Proofs.Ytjieilicjdoaaaa
open Go.RowKit

/-- The last rule that is asked about data; -1: none. -/
def asked (t : List GRule) (d : List Int) : Int := lastOf (wayL t d)
def lastHolds (t : List GRule) (d : List Int) : Bool := holds (rule t (asked t d)).ask d
/-- Two lots of data end at the same rule, in the same way. -/
def sameL (t : List GRule) (a b : List Int) : Bool := decide (asked t a = asked t b) && (decide (asked t a = -1) || (holds (rule t (asked t a)).ask a == holds (rule t (asked t a)).ask b))
def clash (t : List GRule) (d : List Int) (e : GAsk) : Bool := t.any fun r => sameL t r.stone d && holds e r.stone
def addOk (t : List GRule) (d : List Int) (e : GAsk) (a : Int) : Bool := treeOk t && (datOk d && (holds e d && (inB a 0 2 && !decide (t.length = 12))))
def pointed (r : GRule) (h : Bool) (n : Int) : GRule := if h then { r with yes := n } else { r with no := n }
def patched (t : List GRule) (d : List Int) : List GRule :=
  if asked t d = -1 then t else t.set (asked t d).toNat (pointed (rule t (asked t d)) (lastHolds t d) t.length)
def added (t : List GRule) (d : List Int) (e : GAsk) (a : Int) : List GRule := patched t d ++ [⟨e, -1, -1, a, d⟩]
def canAdd (t : List GRule) (d : List Int) (e : GAsk) (a : Int) : Bool := addOk t d e a && !clash t d e
def rdrAdd (t : List GRule) (d : List Int) (e : GAsk) (a : Int) : List GRule := if canAdd t d e a then added t d e a else t

theorem lastOf_in (l : List Int) (h : l ≠ []) : lastOf l ∈ l := by
  unfold lastOf
  rw [List.getLast?_eq_some_getLast h]
  exact List.getLast_mem h
theorem asked_in {t : List GRule} (h : treeOk t = true) (d : List Int) : asked t d = -1 ∨ ∃ i : Nat, asked t d = i ∧ i < t.length := by
  by_cases hn : wayL t d = []
  · left; unfold asked; rw [hn]; rfl
  · right; exact wayL_in h d _ (lastOf_in _ hn)
theorem asked_some {t : List GRule} (h : treeOk t = true) (h0 : 0 < t.length) (d : List Int) : ∃ i : Nat, asked t d = i ∧ i < t.length := by
  refine wayL_in h d _ (lastOf_in _ ?_)
  obtain ⟨n, hn, h2, h3, h4⟩ := wayL_is h d
  rw [h4]
  intro he
  have hl := congrArg List.length he
  rw [posTo_len] at hl
  have hl0 : n = 0 := hl
  subst hl0
  unfold pos at h2
  rw [if_neg (by omega)] at h2
  cases h2
end Go.Proofs.Ytjieilicjdoaaaa
