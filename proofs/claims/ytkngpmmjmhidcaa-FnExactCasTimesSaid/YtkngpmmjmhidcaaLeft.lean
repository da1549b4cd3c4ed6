/- CasLeft and CasTimes of the program and of the reference. -/
import Derived.Test.YtkngpmmjmhidcaaCase
namespace Go.Proofs.Ytkngpmmjmhidcaa
open Go.RowKit

/-- The marks outside place 1 among the first k. -/
def leftTo (xs : List Int) : Nat → Int
  | 0 => 0
  | k + 1 => if k = 1 then leftTo xs k else wrap64 (leftTo xs k + xs.getD k 0)
/-- How often a task is recorded among the first k. -/
def timesTo (xs : List GDid) (t : Int) : Nat → Int
  | 0 => 0
  | k + 1 => if (xs.getD k ⟨0, 0⟩).task = t then timesTo xs t k + 1 else timesTo xs t k
theorem timesTo_bd (xs : List GDid) (t : Int) (k : Nat) : 0 ≤ timesTo xs t k ∧ timesTo xs t k ≤ k := by
  induction k with
  | zero => simp [timesTo]
  | succ k ih => simp only [timesTo]; split <;> omega

theorem leftTo_one (xs : List Int) (k : Nat) (h : k = 1) : leftTo xs (k + 1) = leftTo xs k := by simp [leftTo, h]
theorem leftTo_other (xs : List Int) (k : Nat) (h : ¬ k = 1) (hk : k < xs.length) : leftTo xs (k + 1) = wrap64 (leftTo xs k + xs[k]) := by
  simp [leftTo, h, hk]

set_option maxHeartbeats 400000 in
theorem impl_CasLeft (x : GCase) (A1 A2 A3 A4 : Option Addr) (c1 c2 c3 c4 : Nat) (m : Option Nat) (w : World) (h1 : Rows intC m w w.heap.size A1 x.marks) :
    Calls Try.prog 50 #[.agg #[.int .i64 x.state, .slice A1 x.marks.length c1, .slice A2 x.busy.length c2, .slice A3 x.data.length c3, .slice A4 x.did.length c4]] w
      fun e w' => e = .returned (.int .i64 (leftTo x.marks x.marks.length)) ∧ Below w.heap.size w w' := by
  have hlen := h1.1
  have HX := Lib.hid h1.ints
  clear h1
  generalize x.marks = xs at *
  go_enter Try.func50, Try.ntmps50
  go_wp2
  generalize hW : w.alloc _ = W
  have HB : Hid (Below w.heap.size w W) := by show Below _ _ _; rw [← hW]; exact (Below.refl _ w).alloc (Nat.le_refl _) _
  clear hW
  go_loopg [3, 4, 5, 9] xs.length (fun gg s3 _ _ s9 wr => ∃ k : Nat, k ≤ xs.length ∧ xs.length - k ≤ gg ∧ s9 = .int .i64 k ∧ s3 = .int .i64 (leftTo xs k) ∧ Aside (W = wr))
  case atStart => exact ⟨0, Nat.zero_le _, by omega, rfl, rfl, rfl⟩
  case round =>
    obtain ⟨k, hk, hg, rfl, rfl, EW⟩ := hrel
    obtain rfl := EW.out
    by_cases hlt : k < xs.length
    · have hltz : (k : Int) < (xs.length : Int) := by omega
      obtain ⟨b, off, rfl, hb, hc0⟩ := HX.out.at_ hlt
      have hc := (HB.out.cell (p := ⟨b, off + k, none⟩) hb).trans hc0
      clear hc0
      by_cases h1 : k = 1
      · have b1 : ((k : Int) != 1) = false := by simp; omega
        have HS := Lib.hid (leftTo_one xs k h1)
        clear h1
        go_wp2
        go_roundg (xs.length - (k + 1))
        case measure => omega
        case rel => exact ⟨k + 1, by omega, by omega, by go_num, by rw [HS.out], rfl⟩
      · have b1 : ((k : Int) != 1) = true := by simp; omega
        have HS := Lib.hid (leftTo_other xs k h1 hlt)
        clear h1
        generalize xs[k] = y at hc HS
        go_wp2
        go_roundg (xs.length - (k + 1))
        case measure => omega
        case rel => exact ⟨k + 1, by omega, by omega, by go_num, by rw [HS.out], rfl⟩
    · have hltz : ¬ (k : Int) < (xs.length : Int) := by omega
      have he : k = xs.length := by omega
      have HE := Lib.hid he
      clear he
      go_wp2
      go_ret
      exact ⟨by rw [HE.out]; rfl, HB.out⟩

set_option maxHeartbeats 400000 in
theorem spec_CasLeft (x : GCase) (A1 A2 A3 A4 : Option Addr) (c1 c2 c3 c4 : Nat) (m : Option Nat) (w : World) (h1 : Rows intC m w w.heap.size A1 x.marks) :
    Calls Try.prog 48 #[.agg #[.int .i64 x.state, .slice A1 x.marks.length c1, .slice A2 x.busy.length c2, .slice A3 x.data.length c3, .slice A4 x.did.length c4]] w
      fun e w' => e = .returned (.int .i64 (leftTo x.marks x.marks.length)) ∧ Below w.heap.size w w' := by
  have hlen := h1.1
  have HX := Lib.hid h1.ints
  clear h1
  generalize x.marks = xs at *
  go_enter Try.func48, Try.ntmps48
  go_wp2
  generalize hW : w.alloc _ = W
  have HB : Hid (Below w.heap.size w W) := by show Below _ _ _; rw [← hW]; exact (Below.refl _ w).alloc (Nat.le_refl _) _
  have hcl : W.cell? ⟨w.heap.size, 1, none⟩ = some (.slice A1 xs.length c1) := by rw [← hW]; simp
  clear hW
  go_loopg [3, 4] xs.length (fun gg s3 s4 wr => ∃ k : Nat, k ≤ xs.length ∧ xs.length - k ≤ gg ∧ s4 = .int .i64 k ∧ s3 = .int .i64 (leftTo xs k) ∧ Aside (W = wr))
  case atStart => exact ⟨0, Nat.zero_le _, by omega, rfl, rfl, rfl⟩
  case round =>
    obtain ⟨k, hk, hg, rfl, rfl, EW⟩ := hrel
    obtain rfl := EW.out
    by_cases hlt : k < xs.length
    · have hltz : (k : Int) < (xs.length : Int) := by omega
      obtain ⟨b, off, rfl, hb, hc0⟩ := HX.out.at_ hlt
      have hc := (HB.out.cell (p := ⟨b, off + k, none⟩) hb).trans hc0
      clear hc0
      by_cases h1 : k = 1
      · have b1 : ((k : Int) != 1) = false := by simp; omega
        have HS := Lib.hid (leftTo_one xs k h1)
        clear h1
        go_wp2
        go_roundg (xs.length - (k + 1))
        case measure => omega
        case rel => exact ⟨k + 1, by omega, by omega, by go_num, by rw [HS.out], rfl⟩
      · have b1 : ((k : Int) != 1) = true := by simp; omega
        have HS := Lib.hid (leftTo_other xs k h1 hlt)
        clear h1
        generalize xs[k] = y at hc HS
        go_wp2
        go_roundg (xs.length - (k + 1))
        case measure => omega
        case rel => exact ⟨k + 1, by omega, by omega, by go_num, by rw [HS.out], rfl⟩
    · have hltz : ¬ (k : Int) < (xs.length : Int) := by omega
      have he : k = xs.length := by omega
      have HE := Lib.hid he
      clear he
      go_wp2
      go_ret
      exact ⟨by rw [HE.out]; rfl, HB.out⟩

theorem timesTo_yes {xs : List GDid} {t : Int} {k : Nat} (hk : k < xs.length) (h : xs[k].task = t) : timesTo xs t (k + 1) = timesTo xs t k + 1 := by simp [timesTo, hk, h]
theorem timesTo_no {xs : List GDid} {t : Int} {k : Nat} (hk : k < xs.length) (h : ¬ xs[k].task = t) : timesTo xs t (k + 1) = timesTo xs t k := by simp [timesTo, hk, h]

set_option maxHeartbeats 400000 in
theorem spec_CasTimes (x : GCase) (A1 A2 A3 A4 : Option Addr) (c1 c2 c3 c4 : Nat) (t : Int) (m : Option Nat) (w : World) (h4 : Rows didC m w w.heap.size A4 x.did) (hl : x.did.length ≤ 1048576) :
    Calls Try.prog 57 #[.agg #[.int .i64 x.state, .slice A1 x.marks.length c1, .slice A2 x.busy.length c2, .slice A3 x.data.length c3, .slice A4 x.did.length c4], .int .i64 t] w
      fun e w' => e = .returned (.int .i64 (timesTo x.did t x.did.length)) ∧ Below w.heap.size w w' := by
  have HX := Lib.hid h4
  clear h4
  generalize x.did = xs at *
  go_enter Try.func57, Try.ntmps57
  go_wp2
  generalize hW : w.alloc _ = W
  have HB : Hid (Below w.heap.size w W) := by show Below _ _ _; rw [← hW]; exact (Below.refl _ w).alloc (Nat.le_refl _) _
  have hcl : W.cell? ⟨w.heap.size, 4, none⟩ = some (.slice A4 xs.length c4) := by rw [← hW]; simp
  clear hW
  go_loopg [5, 6] xs.length (fun gg s3 s4 wr => ∃ k : Nat, k ≤ xs.length ∧ xs.length - k ≤ gg ∧ s4 = .int .i64 k ∧ s3 = .int .i64 (timesTo xs t k) ∧ Aside (W = wr))
  case atStart => exact ⟨0, Nat.zero_le _, by omega, rfl, rfl, rfl⟩
  case round =>
    obtain ⟨k, hk, hg, rfl, rfl, EW⟩ := hrel
    obtain rfl := EW.out
    obtain ⟨t1, t2⟩ := timesTo_bd xs t k
    by_cases hlt : k < xs.length
    · have hltz : (k : Int) < (xs.length : Int) := by omega
      obtain ⟨b, off, rfl, hb, hc0, _⟩ := did_at HX.out hlt
      have hc := (HB.out.cell (p := ⟨b, off + k * 2, none⟩) hb).trans hc0
      clear hc0
      by_cases h1 : xs[k].task = t
      · have b1 : (xs[k].task == t) = true := by simp [h1]
        have HS := Lib.hid (timesTo_yes hlt h1)
        clear h1
        generalize xs[k] = y at hc b1
        go_wp2
        go_roundg (xs.length - (k + 1))
        case measure => omega
        case rel => exact ⟨k + 1, by omega, by omega, by go_num, by rw [HS.out], rfl⟩
      · have b1 : (xs[k].task == t) = false := by simp [h1]
        have HS := Lib.hid (timesTo_no hlt h1)
        clear h1
        generalize xs[k] = y at hc b1
        go_wp2
        go_roundg (xs.length - (k + 1))
        case measure => omega
        case rel => exact ⟨k + 1, by omega, by omega, by go_num, by rw [HS.out], rfl⟩
    · have hltz : ¬ (k : Int) < (xs.length : Int) := by omega
      have he : k = xs.length := by omega
      have HE := Lib.hid he
      clear he
      go_wp2
      go_ret
      exact ⟨by rw [HE.out]; rfl, HB.out⟩

set_option maxHeartbeats 400000 in
theorem impl_CasTimes (x : GCase) (A1 A2 A3 A4 : Option Addr) (c1 c2 c3 c4 : Nat) (t : Int) (m : Option Nat) (w : World) (h4 : Rows didC m w w.heap.size A4 x.did) (hl : x.did.length ≤ 1048576) :
    Calls Try.prog 58 #[.agg #[.int .i64 x.state, .slice A1 x.marks.length c1, .slice A2 x.busy.length c2, .slice A3 x.data.length c3, .slice A4 x.did.length c4], .int .i64 t] w
      fun e w' => e = .returned (.int .i64 (timesTo x.did t x.did.length)) ∧ Below w.heap.size w w' := by
  have HX := Lib.hid h4
  clear h4
  generalize x.did = xs at *
  go_enter Try.func58, Try.ntmps58
  go_wp2
  generalize hW : w.alloc _ = W
  have HB : Hid (Below w.heap.size w W) := by show Below _ _ _; rw [← hW]; exact (Below.refl _ w).alloc (Nat.le_refl _) _
  clear hW
  go_loopg [5, 7, 11] xs.length (fun gg s3 _ s4 wr => ∃ k : Nat, k ≤ xs.length ∧ xs.length - k ≤ gg ∧ s4 = .int .i64 k ∧ s3 = .int .i64 (timesTo xs t k) ∧ Aside (Below w.heap.size w wr))
  case atStart => exact ⟨0, Nat.zero_le _, by omega, rfl, rfl, HB.out⟩
  case round =>
    obtain ⟨k, hk, hg, rfl, rfl, BW⟩ := hrel
    obtain ⟨t1, t2⟩ := timesTo_bd xs t k
    by_cases hlt : k < xs.length
    · have hltz : (k : Int) < (xs.length : Int) := by omega
      obtain ⟨b, off, rfl, hb, hc0, hc1⟩ := did_at HX.out hlt
      have hd0 := (BW.out.cell (p := ⟨b, off + k * 2, none⟩) hb).trans hc0
      have hd1 := (BW.out.cell (p := ⟨b, off + k * 2 + 1, none⟩) hb).trans hc1
      clear hc0 hc1
      by_cases h1 : xs[k].task = t
      · have b1 : (xs[k].task == t) = true := by simp [h1]
        have HS := Lib.hid (timesTo_yes hlt h1)
        clear h1
        generalize xs[k] = y at hd0 hd1 b1
        go_wp2
        go_roundg (xs.length - (k + 1))
        case measure => omega
        case rel => exact ⟨k + 1, by omega, by omega, by go_num, by rw [HS.out], BW.out.alloc BW.out.size _⟩
      · have b1 : (xs[k].task == t) = false := by simp [h1]
        have HS := Lib.hid (timesTo_no hlt h1)
        clear h1
        generalize xs[k] = y at hd0 hd1 b1
        go_wp2
        go_roundg (xs.length - (k + 1))
        case measure => omega
        case rel => exact ⟨k + 1, by omega, by omega, by go_num, by rw [HS.out], BW.out.alloc BW.out.size _⟩
    · have hltz : ¬ (k : Int) < (xs.length : Int) := by omega
      have he : k = xs.length := by omega
      have HE := Lib.hid he
      clear he
      go_wp2
      go_ret
      exact ⟨by rw [HE.out]; rfl, BW.out⟩
end Go.Proofs.Ytkngpmmjmhidcaa
