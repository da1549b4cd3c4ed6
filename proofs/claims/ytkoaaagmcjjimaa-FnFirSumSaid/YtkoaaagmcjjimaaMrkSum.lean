/- The sum of marks, and whether there are nowhere fewer: impl.MrkSum, impl.MrkMore. -/
import Derived.Test.YtkoaaagmcjjimaaAsk
namespace Go.Proofs.Ytkoaaagmcjjimaa
open Go.RowKit
set_option linter.unusedSimpArgs false

theorem sum_snoc (xs : List Int) (k : Nat) (hk : k < xs.length) : (xs.take (k + 1)).sum = (xs.take k).sum + xs[k] := by
  rw [List.take_succ_eq_append_getElem hk, List.sum_append]; simp
theorem sum_bd : ∀ (xs : List Int), (∀ z ∈ xs, -1000 ≤ z ∧ z ≤ 1000) → -(1000 * xs.length : Int) ≤ xs.sum ∧ xs.sum ≤ 1000 * xs.length
  | [], _ => by simp
  | a :: xs, h => by
    have h1 := h a (by simp)
    have h2 := sum_bd xs fun z hz => h z (by simp [hz])
    rw [List.sum_cons, List.length_cons]
    omega
theorem take_mem {xs : List Int} {k : Nat} {P : Int → Prop} (h : ∀ z ∈ xs, P z) : ∀ z ∈ xs.take k, P z := fun z hz => h z (List.mem_of_mem_take hz)

theorem impl_MrkSum (A : Option Addr) (c : Nat) (xs : List Int) (w : World) (B : Nat) (hx : Ints w B A xs) (hb : ∀ z ∈ xs, -1000 ≤ z ∧ z ≤ 1000) (hl : xs.length ≤ 1000) :
    Calls Try.prog 48 #[.slice A xs.length c] w fun e w' => e = .returned (.int .i64 xs.sum) ∧ w = w' := by
  have HX := Lib.hid hx
  have HB := Lib.hid hb
  clear hx hb
  go_enter Try.func48, Try.ntmps48
  go_wp2
  go_loopg [3, 8] xs.length (fun gg s3 s8 wr => ∃ k : Nat, k ≤ xs.length ∧ xs.length - k ≤ gg ∧ s8 = .int .i64 k ∧ s3 = .int .i64 (xs.take k).sum ∧ Aside (w = wr))
  case atStart => exact ⟨0, Nat.zero_le _, by omega, rfl, by simp, rfl⟩
  case round =>
    obtain ⟨k, hk, hg, rfl, rfl, EW⟩ := hrel
    obtain rfl := EW.out
    by_cases hlt : k < xs.length
    · have hltz : (k : Int) < (xs.length : Int) := by omega
      obtain ⟨b, off, rfl, hb, hc⟩ := HX.out.at_ hlt
      have hz := HB.out _ (List.getElem_mem hlt)
      have hs := sum_bd (xs.take k) (take_mem HB.out)
      have hn := sum_bd (xs.take (k + 1)) (take_mem HB.out)
      have htl : (xs.take k).length ≤ 1000 := by simp; omega
      have HS := Lib.hid (sum_snoc xs k hlt)
      generalize xs[k] = z at hc hz HS
      generalize (xs.take k).sum = s at hs HS ⊢
      have hs1 : -1000000 ≤ s := by omega
      have hs2 : s ≤ 1000000 := by omega
      clear hn hs
      go_wp2
      go_roundg (xs.length - (k + 1))
      case measure => omega
      case rel => exact ⟨k + 1, by omega, by omega, by go_num, by rw [HS.out], rfl⟩
    · have hltz : ¬ (k : Int) < (xs.length : Int) := by omega
      have he : k = xs.length := by omega
      subst he
      go_wp2
      go_ret
      exact ⟨by simp, rfl⟩

theorem impl_MrkMore (A : Option Addr) (c : Nat) (xs : List Int) (A' : Option Addr) (c' : Nat) (ys : List Int) (w : World) (B : Nat) (hx : Ints w B A xs) (hy : Ints w B A' ys) (hl : xs.length = ys.length) (hm : ∀ (i : Nat) (h : i < xs.length) (h' : i < ys.length), ys[i] ≤ xs[i]) :
    Calls Try.prog 57 #[.slice A xs.length c, .slice A' ys.length c'] w fun e w' => e = .returned (.bool true) ∧ w = w' := by
  have ny := hy.1
  have HX := Lib.hid hx
  have HY := Lib.hid hy
  have HM := Lib.hid hm
  rw [hl]
  have HL := Lib.hid hl
  clear hx hy hm hl
  go_enter Try.func57, Try.ntmps57
  go_wp2
  go_loopg [14] ys.length (fun gg s14 wr => ∃ k : Nat, k ≤ ys.length ∧ ys.length - k ≤ gg ∧ s14 = .int .i64 k ∧ Aside (w = wr))
  case atStart => exact ⟨0, Nat.zero_le _, by omega, rfl, rfl⟩
  case round =>
    obtain ⟨k, hk, hg, rfl, EW⟩ := hrel
    obtain rfl := EW.out
    by_cases hlt2 : k < ys.length
    · have hlt : k < xs.length := by have := HL.out; omega
      have hltz2 : (k : Int) < (ys.length : Int) := by omega
      have hle := HM.out k hlt hlt2
      obtain ⟨b, off, rfl, hb, hc⟩ := HX.out.at_ hlt
      obtain ⟨b', off', rfl, hb', hc'⟩ := HY.out.at_ hlt2
      generalize xs[k] = z at hc hle
      generalize ys[k] = z' at hc' hle
      have hnz : ¬ z < z' := by omega
      go_wp2
      go_roundg (ys.length - (k + 1))
      case measure => omega
      case rel => exact ⟨k + 1, by omega, by omega, by go_num, rfl⟩
    · have hltz : ¬ (k : Int) < (ys.length : Int) := by omega
      go_wp2
      go_ret
      exact ⟨rfl, rfl⟩
end Go.Proofs.Ytkoaaagmcjjimaa
