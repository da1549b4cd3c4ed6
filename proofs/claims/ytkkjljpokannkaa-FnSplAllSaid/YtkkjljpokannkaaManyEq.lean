/- Slices of slices of ints compared. -/
import Derived.Test.YtkkjljpokannkaaMany
import Derived.Deep.RegionHeld3
namespace Go.Proofs.Ytkkjljpokannkaa
open Go.RowKit
set_option linter.unusedSimpArgs false
set_option linter.unusedVariables false

set_option maxHeartbeats 2000000 in
theorem laws_eqIntSS (A A' : Option Addr) (c c' : Nat) (n : Nat) (b b' : Nat → Nat) (x : Nat → List Int) (base base' : Nat) (w : World) (h : SS w base A n b x) (h' : SS w base' A' n b' x) (hn : n ≤ 1000) (hl : ∀ i, (x i).length ≤ 1000) :
    Calls Try.prog 32 #[.slice A n c, .slice A' n c'] w fun e w' => e = .returned (.bool true) ∧ Below w.heap.size w w' := by
  have HH := Lib.hid h
  have HH' := Lib.hid h'
  have HL := Lib.hid hl
  clear h h' hl
  go_enter Try.func32, Try.ntmps32
  go_wp2
  go_loopg [5] n (fun gg s5 wr => ∃ k : Nat, k ≤ n ∧ n - k ≤ gg ∧ s5 = .int .i64 k ∧ Aside (∃ n, wr = w.drewN n))
  case atStart => exact ⟨0, Nat.zero_le _, by omega, rfl, 0, rfl⟩
  case round =>
    obtain ⟨k, hk, hg, rfl, DW⟩ := hrel
    obtain ⟨q, rfl⟩ := DW.out
    by_cases hlt : k < n
    · have hltz : (k : Int) < (n : Int) := by omega
      have hk0 : (0 : Int) ≤ (k : Int) := by omega
      have hxl := HL.out k
      obtain ⟨G, e1, rfl, hG, hc, hr⟩ := HH.out.at_ hlt hxl
      obtain ⟨G', e1', rfl, hG', hc', hr'⟩ := HH'.out.at_ hlt hxl
      have hQ : ∀ n, Calls Try.prog 72 #[.slice (some ⟨b k, 0, none⟩) (x k).length e1, .slice (some ⟨b' k, 0, none⟩) (x k).length e1'] (w.drewN (q + n)) fun e w'' => e = .returned (.bool true) ∧ ∃ m, w'' = w.drewN (q + m) := fun n => (laws_eqIntS _ _ e1 e1' (x k) (x k) (w.drewN (q + n)) w.heap.size hr hr').mono fun e w'' ⟨h1, k, h2⟩ => ⟨by rw [h1]; simp, n + k, h2.trans (by rw [World.drewN_drewN]; congr 1; omega)⟩
      have HQ := Lib.hid hQ
      clear hQ hr hr'
      generalize b k = bk at hc HQ
      generalize b' k = bk' at hc' HQ
      generalize x k = xk at hc hc' HQ hxl
      go_wp2
      go_quiet (first | (go_at_call 72; exact HQ.out _))
      go_wp2
      go_roundg (n - (k + 1))
      case measure => omega
      case rel => exact ⟨k + 1, by omega, by omega, by go_num, _, rfl⟩
    · have hltz : ¬ (k : Int) < (n : Int) := by omega
      go_wp2
      go_ret
      exact ⟨rfl, bdN (Below.refl _ _) _⟩
set_option maxHeartbeats 2000000 in
theorem laws_guMany (A A' : Option Addr) (c c' : Nat) (n : Nat) (b b' : Nat → Nat) (x : Nat → List Int) (base base' : Nat) (w : World) (h : SS w base A n b x) (h' : SS w base' A' n b' x) (hn : n ≤ 1000) (hl : ∀ i, (x i).length ≤ 1000) :
    Calls Try.prog 39 #[.slice A n c, .slice A' n c'] w fun e w' => e = .returned (.bool true) ∧ Below w.heap.size w w' := by
  have HH := Lib.hid h
  have HH' := Lib.hid h'
  have HL := Lib.hid hl
  clear h h' hl
  go_enter Try.func39, Try.ntmps39
  go_wp2
  go_loopg [5] n (fun gg s5 wr => ∃ k : Nat, k ≤ n ∧ n - k ≤ gg ∧ s5 = .int .i64 k ∧ Aside (∃ n, wr = w.drewN n))
  case atStart => exact ⟨0, Nat.zero_le _, by omega, rfl, 0, rfl⟩
  case round =>
    obtain ⟨k, hk, hg, rfl, DW⟩ := hrel
    obtain ⟨q, rfl⟩ := DW.out
    by_cases hlt : k < n
    · have hltz : (k : Int) < (n : Int) := by omega
      have hk0 : (0 : Int) ≤ (k : Int) := by omega
      have hxl := HL.out k
      obtain ⟨G, e1, rfl, hG, hc, hr⟩ := HH.out.at_ hlt hxl
      obtain ⟨G', e1', rfl, hG', hc', hr'⟩ := HH'.out.at_ hlt hxl
      have hQ : ∀ n, Calls Try.prog 19 #[.slice (some ⟨b k, 0, none⟩) (x k).length e1, .slice (some ⟨b' k, 0, none⟩) (x k).length e1'] (w.drewN (q + n)) fun e w'' => e = .returned (.bool true) ∧ ∃ m, w'' = w.drewN (q + m) := fun n => (laws_guInts _ _ e1 e1' (x k) (x k) (w.drewN (q + n)) w.heap.size hr hr').mono fun e w'' ⟨h1, k, h2⟩ => ⟨by rw [h1]; simp, n + k, h2.trans (by rw [World.drewN_drewN]; congr 1; omega)⟩
      have HQ := Lib.hid hQ
      clear hQ hr hr'
      generalize b k = bk at hc HQ
      generalize b' k = bk' at hc' HQ
      generalize x k = xk at hc hc' HQ hxl
      go_wp2
      go_quiet (first | (go_at_call 19; exact HQ.out _))
      go_wp2
      go_roundg (n - (k + 1))
      case measure => omega
      case rel => exact ⟨k + 1, by omega, by omega, by go_num, _, rfl⟩
    · have hltz : ¬ (k : Int) < (n : Int) := by omega
      go_wp2
      go_ret
      exact ⟨rfl, bdN (Below.refl _ _) _⟩
end Go.Proofs.Ytkkjljpokannkaa
