/- Slices of Item records marked. -/
import Derived.Test.YtimmflgidfobfaaMarkRec
import Derived.Test.YtimmflgidfobfaaCopyItem
namespace Go.Proofs.Ytimmflgidfobfaa
open Go.RowKit

theorem item_intRow {lo B : Nat} {w : World} {g : Nat} {xs : List GItem} (h : Rows itemC (some lo) w B (some ⟨g, 0, none⟩) xs) (hn : 0 < xs.length) : IntRow w g (xs.length * 3) ∧ lo ≤ g ∧ g < B :=
  Rows.intRow (k := 3) (cells := GItem.cells) (hk := fun _ => rfl) (fun x => [x.task, x.who, x.did]) (fun _ => rfl) (by decide) h hn

set_option maxHeartbeats 1000000 in
theorem laws_markCasItemS (A : Option Addr) (c : Nat) (xs : List GItem) (k : Int) (w : World) (lo hi : Nat) (h : 0 < xs.length → ∃ g, A = some ⟨g, 0, none⟩ ∧ IntRow w g (xs.length * 3) ∧ lo ≤ g ∧ g < hi) (hl : xs.length ≤ 16777216) (hk0 : 0 ≤ k) (hk : k ≤ 4611686018427387904) :
    Calls Try.prog 41 #[.slice A xs.length c, .int .i64 k] w fun e w' => e = .returned (.int .i64 (k + xs.length * 3)) ∧ Inside lo hi w w' := by
  have HH := Lib.hid h
  clear h
  go_enter Try.func41, Try.ntmps41
  go_wp2
  go_loopg [1, 5] xs.length (fun gg s1 s5 wr => ∃ j : Nat, j ≤ xs.length ∧ xs.length - j ≤ gg ∧ s5 = .int .i64 j ∧ s1 = .int .i64 (k + j * 3) ∧ Aside (Inside lo hi w wr) ∧ Aside (0 < xs.length → ∃ g, A = some ⟨g, 0, none⟩ ∧ IntRow wr g (xs.length * 3) ∧ lo ≤ g ∧ g < hi))
  case atStart => exact ⟨0, Nat.zero_le _, by omega, rfl, by simp, Inside.refl _ _ _, HH.out⟩
  case round =>
    obtain ⟨j, hj, hg, rfl, rfl, IN, OW⟩ := hrel
    by_cases hlt : j < xs.length
    · have hltz : (j : Int) < (xs.length : Int) := by omega
      obtain ⟨g, rfl, hR, hlo, hhi⟩ := OW.out (by omega)
      obtain ⟨z0, hz0⟩ := hR.cell (i := j * 3) (by omega)
      obtain ⟨z1, hz1⟩ := hR.cell (i := j * 3 + 1) (by omega)
      obtain ⟨z2, hz2⟩ := hR.cell (i := j * 3 + 2) (by omega)
      have hfr := fun i => hR.frozen i
      have HS := Lib.hid ((((hR.set (j * 3) (k + j * 3)).set (j * 3 + 1) (k + j * 3 + 1)).set (j * 3 + 2) (k + j * 3 + 1 + 1)))
      have HI := Lib.hid ((((IN.out.trans (Inside.setCell (p := ⟨g, j * 3, none⟩) hlo hhi (.int .i64 (k + j * 3)))).trans (Inside.setCell (p := ⟨g, j * 3 + 1, none⟩) hlo hhi (.int .i64 (k + j * 3 + 1)))).trans (Inside.setCell (p := ⟨g, j * 3 + 2, none⟩) hlo hhi (.int .i64 (k + j * 3 + 1 + 1)))))
      clear hR
      go_wp2
      go_roundg (xs.length - (j + 1))
      case measure => omega
      case rel => exact ⟨j + 1, by omega, by omega, by go_num, by go_num, HI.out, fun _ => ⟨g, rfl, HS.out, hlo, hhi⟩⟩
    · have hltz : ¬ (j : Int) < (xs.length : Int) := by omega
      have he : j = xs.length := by omega
      have HE := Lib.hid he
      clear he
      go_wp2
      go_ret
      exact ⟨by rw [HE.out]; rfl, IN.out⟩
end Go.Proofs.Ytimmflgidfobfaa
