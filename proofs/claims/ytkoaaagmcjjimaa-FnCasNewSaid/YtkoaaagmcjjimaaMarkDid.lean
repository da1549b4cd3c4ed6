/- Slices of Did records marked. -/
import Derived.Test.YtkoaaagmcjjimaaMarkRec
import Derived.Test.YtkoaaagmcjjimaaCopyDid
namespace Go.Proofs.Ytkoaaagmcjjimaa
open Go.RowKit

set_option maxHeartbeats 1000000 in
theorem laws_markCasDidS (A : Option Addr) (c : Nat) (xs : List GDid) (k : Int) (w : World) (lo hi : Nat) (h : 0 < xs.length → ∃ g, A = some ⟨g, 0, none⟩ ∧ IntRow w g (xs.length * 2) ∧ lo ≤ g ∧ g < hi) (hl : xs.length ≤ 16777216) (hk0 : 0 ≤ k) (hk : k ≤ 4611686018427387904) :
    Calls Try.prog 152 #[.slice A xs.length c, .int .i64 k] w fun e w' => e = .returned (.int .i64 (k + xs.length * 2)) ∧ Inside lo hi w w' := by
  have HH := Lib.hid h
  clear h
  go_enter Try.func152, Try.ntmps152
  go_wp2
  go_loopg [1, 5] xs.length (fun gg s1 s5 wr => ∃ j : Nat, j ≤ xs.length ∧ xs.length - j ≤ gg ∧ s5 = .int .i64 j ∧ s1 = .int .i64 (k + j * 2) ∧ Aside (Inside lo hi w wr) ∧ Aside (0 < xs.length → ∃ g, A = some ⟨g, 0, none⟩ ∧ IntRow wr g (xs.length * 2) ∧ lo ≤ g ∧ g < hi))
  case atStart => exact ⟨0, Nat.zero_le _, by omega, rfl, by simp, Inside.refl _ _ _, HH.out⟩
  case round =>
    obtain ⟨j, hj, hg, rfl, rfl, IN, OW⟩ := hrel
    by_cases hlt : j < xs.length
    · have hltz : (j : Int) < (xs.length : Int) := by omega
      obtain ⟨g, rfl, hR, hlo, hhi⟩ := OW.out (by omega)
      obtain ⟨z0, hz0⟩ := hR.cell (i := j * 2) (by omega)
      obtain ⟨z1, hz1⟩ := hR.cell (i := j * 2 + 1) (by omega)
      have hfr := fun i => hR.frozen i
      have HS := Lib.hid (((hR.set (j * 2) (k + j * 2)).set (j * 2 + 1) (k + j * 2 + 1)))
      have HI := Lib.hid (((IN.out.trans (Inside.setCell (p := ⟨g, j * 2, none⟩) hlo hhi (.int .i64 (k + j * 2)))).trans (Inside.setCell (p := ⟨g, j * 2 + 1, none⟩) hlo hhi (.int .i64 (k + j * 2 + 1)))))
      clear hR
      go_wp2
      go_roundg (xs.length - (j + 1))
      case measure => omega
      case rel => exact ⟨j + 1, by omega, by omega, by go_num, by go_num, HI.out, fun _ => ⟨g, rfl, HS.out, hlo, hhi⟩⟩
    · have hltz : ¬ (j : Int) < (xs.length : Int) := by omega
      have he : j = xs.length := by omega
      have HE := Lib.hid he
      clear he
      go_wp2
      go_ret
      exact ⟨by rw [HE.out]; rfl, IN.out⟩
end Go.Proofs.Ytkoaaagmcjjimaa
