/- A case: how its struct reads, its copies, its comparison, its size. -/
import Derived.Test.YtkoaaagmcjjimaaGreatCopyCase
import Derived.Test.YtkoaaagmcjjimaaGreatSz
import Derived.Deep.RegionHeld3
import Derived.Outline
namespace Go.Proofs.YtkoaaagmcjjimaaGreat
open Go.RowKit

/-- What is left of a measure when a case is counted. -/
def szCase (x : GCase) (left : Int) : Int :=
  let a := szOf x.marks.length left
  if a < 0 then -1 else
    let b := szOf x.busy.length a
    if b < 0 then -1 else
      let c := szOf x.data.length b
      if c < 0 then -1 else
        let d := szOf x.did.length c
        if d < 0 then -1 else d
set_option maxHeartbeats 400000 in
theorem laws_szCasCase (x : GCase) (A1 A2 A3 A4 : Option Addr) (c1 c2 c3 c4 : Nat) (left : Int) (h0 : 0 ≤ left) (h1 : left ≤ 1048576) (w : World)
    (n1 : x.marks.length ≤ 9223372036854775807) (n2 : x.busy.length ≤ 9223372036854775807) (n3 : x.data.length ≤ 9223372036854775807) (n4 : x.did.length ≤ 9223372036854775807) :
    Calls Tryz.prog 5 #[.agg #[.int .i64 x.state, .slice A1 x.marks.length c1, .slice A2 x.busy.length c2, .slice A3 x.data.length c3, .slice A4 x.did.length c4], .int .i64 left] w
      fun e w' => e = .returned (.int .i64 (szCase x left)) ∧ Below w.heap.size w w' := by
  obtain ⟨l1, l2⟩ := szOf_le (n := x.marks.length) h0
  by_cases k1 : szOf x.marks.length left < 0
  · have HF : Hid (szCase x left = -1) := by show _ = _; simp [szCase, k1]
    go_enter Tryz.func5, Tryz.ntmps5
    go_wp2_with (go_at_call 21; refine (laws_szIntS _ _ _ _ (by omega) (by omega) (by omega) _).mono ?_; rintro e w' ⟨rfl, rfl⟩)
    go_ret
    exact ⟨by rw [HF.out]; rfl, by go_grown⟩
  obtain ⟨l3, l4⟩ := szOf_le (n := x.busy.length) (left := szOf x.marks.length left) (by omega)
  by_cases k2 : szOf x.busy.length (szOf x.marks.length left) < 0
  · have HF : Hid (szCase x left = -1) := by show _ = _; simp [szCase, k1, k2]
    go_enter Tryz.func5, Tryz.ntmps5
    go_wp2_with (first | (go_at_call 21; refine (laws_szIntS _ _ _ _ (by omega) (by omega) (by omega) _).mono ?_; rintro e w' ⟨rfl, rfl⟩) | (go_at_call 22; refine (laws_szCasItemS _ _ _ _ (by omega) (by omega) (by omega) _).mono ?_; rintro e w' ⟨rfl, rfl⟩))
    go_ret
    exact ⟨by rw [HF.out]; rfl, by go_grown⟩
  obtain ⟨l5, l6⟩ := szOf_le (n := x.data.length) (left := szOf x.busy.length (szOf x.marks.length left)) (by omega)
  by_cases k3 : szOf x.data.length (szOf x.busy.length (szOf x.marks.length left)) < 0
  · have HF : Hid (szCase x left = -1) := by show _ = _; simp [szCase, k1, k2, k3]
    go_enter Tryz.func5, Tryz.ntmps5
    go_wp2_with (first | (go_at_call 21; refine (laws_szIntS _ _ _ _ (by omega) (by omega) (by omega) _).mono ?_; rintro e w' ⟨rfl, rfl⟩) | (go_at_call 22; refine (laws_szCasItemS _ _ _ _ (by omega) (by omega) (by omega) _).mono ?_; rintro e w' ⟨rfl, rfl⟩))
    go_ret
    exact ⟨by rw [HF.out]; rfl, by go_grown⟩
  obtain ⟨l7, l8⟩ := szOf_le (n := x.did.length) (left := szOf x.data.length (szOf x.busy.length (szOf x.marks.length left))) (by omega)
  by_cases k4 : szOf x.did.length (szOf x.data.length (szOf x.busy.length (szOf x.marks.length left))) < 0
  · have HF : Hid (szCase x left = -1) := by show _ = _; simp [szCase, k1, k2, k3, k4]
    go_enter Tryz.func5, Tryz.ntmps5
    go_wp2_with (first | (go_at_call 21; refine (laws_szIntS _ _ _ _ (by omega) (by omega) (by omega) _).mono ?_; rintro e w' ⟨rfl, rfl⟩) | (go_at_call 22; refine (laws_szCasItemS _ _ _ _ (by omega) (by omega) (by omega) _).mono ?_; rintro e w' ⟨rfl, rfl⟩) | (go_at_call 23; refine (laws_szCasDidS _ _ _ _ (by omega) (by omega) (by omega) _).mono ?_; rintro e w' ⟨rfl, rfl⟩))
    go_ret
    exact ⟨by rw [HF.out]; rfl, by go_grown⟩
  · have HF : Hid (szCase x left = szOf x.did.length (szOf x.data.length (szOf x.busy.length (szOf x.marks.length left)))) := by show _ = _; simp [szCase, k1, k2, k3, k4]
    go_enter Tryz.func5, Tryz.ntmps5
    go_wp2_with (first | (go_at_call 21; refine (laws_szIntS _ _ _ _ (by omega) (by omega) (by omega) _).mono ?_; rintro e w' ⟨rfl, rfl⟩) | (go_at_call 22; refine (laws_szCasItemS _ _ _ _ (by omega) (by omega) (by omega) _).mono ?_; rintro e w' ⟨rfl, rfl⟩) | (go_at_call 23; refine (laws_szCasDidS _ _ _ _ (by omega) (by omega) (by omega) _).mono ?_; rintro e w' ⟨rfl, rfl⟩))
    go_ret
    exact ⟨by rw [HF.out]; rfl, by go_grown⟩

theorem szCase_ok {x : GCase} {left : Int} (h0 : 0 ≤ left) (h : ¬ szCase x left < 0) : (x.marks.length : Int) ≤ left ∧ (x.busy.length : Int) ≤ left ∧ (x.data.length : Int) ≤ left ∧ (x.did.length : Int) ≤ left ∧ 0 ≤ szCase x left ∧ szCase x left ≤ left := by
  unfold szCase szOf at *
  simp only at *
  split at h <;> omega
end Go.Proofs.YtkoaaagmcjjimaaGreat
