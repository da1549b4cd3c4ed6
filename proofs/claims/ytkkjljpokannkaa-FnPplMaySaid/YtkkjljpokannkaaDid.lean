/- impl.PplDid: slices.Contains and slices.Index over records, and what it answers. -/
import Derived.Test.YtkkjljpokannkaaRecs
import Derived.Laws.StructEq
namespace Go.Proofs.Ytkkjljpokannkaa
open Go.RowKit

/-- Whether a list of records holds one of a task and a person. -/
def pplDid (xs : List GDid) (who task : Int) : Bool := xs.any fun d => decide (d.who = who) && decide (d.task = task)

theorem spec_PplDid (A : Option Addr) (c : Nat) (xs : List GDid) (who task : Int) (w : World) (B : Nat) (m : Option Nat) (hx : Rows didC m w B A xs) :
    Calls Try.prog 133 #[.slice A xs.length c, .int .i64 who, .int .i64 task] w fun e w' => e = .returned (.bool (pplDid xs who task)) ∧ w = w' := by
  have hlen := hx.1
  have HX := Lib.hid hx
  clear hx
  go_enter Try.func133, Try.ntmps133
  go_wp2
  go_loopg [7] xs.length (fun gg s3 wr => ∃ k : Nat, k ≤ xs.length ∧ xs.length - k ≤ gg ∧ s3 = .int .i64 k ∧ Aside (w = wr) ∧ Aside (pplDid (xs.take k) who task = false))
  case atStart => exact ⟨0, Nat.zero_le _, by omega, rfl, rfl, by show pplDid (xs.take 0) _ _ = false; simp [pplDid]⟩
  case round =>
    obtain ⟨k, hk, hg, rfl, EW, AN⟩ := hrel
    obtain rfl := EW.out
    by_cases hlt : k < xs.length
    · have hltz : (k : Int) < (xs.length : Int) := by omega
      obtain ⟨b, off, rfl, hb, hc0, hc1⟩ := did_at HX.out hlt
      have HM := Lib.hid (any_split (fun d : GDid => decide (d.who = who) && decide (d.task = task)) xs k hlt AN.out)
      have HH := Lib.hid (fun h => List.any_eq_true.2 ⟨xs[k], List.getElem_mem hlt, h⟩ : (decide (xs[k].who = who) && decide (xs[k].task = task)) = true → pplDid xs who task = true)
      generalize xs[k] = y at hc0 hc1 HM HH
      by_cases h1 : y.who = who
      · have b1 : (y.who == who) = true := by simp [h1]
        by_cases h2 : y.task = task
        · have b2 : (y.task == task) = true := by simp [h2]
          have HS : Hid (pplDid xs who task = true) := HH.out (by simp [h1, h2])
          clear h1 h2
          go_wp2
          go_ret
          exact ⟨by rw [HS.out]; rfl, rfl⟩
        · have b2 : (y.task == task) = false := by simp [h2]
          have HS : Hid (pplDid (xs.take (k + 1)) who task = false) := HM.out.trans (by simp [h2])
          clear h1 h2
          go_wp2
          go_roundg (xs.length - (k + 1))
          case measure => omega
          case rel => exact ⟨k + 1, by omega, by omega, by go_num, rfl, HS.out⟩
      · have b1 : (y.who == who) = false := by simp [h1]
        have HS : Hid (pplDid (xs.take (k + 1)) who task = false) := HM.out.trans (by simp [h1])
        clear h1
        go_wp2
        go_roundg (xs.length - (k + 1))
        case measure => omega
        case rel => exact ⟨k + 1, by omega, by omega, by go_num, rfl, HS.out⟩
    · have hltz : ¬ (k : Int) < (xs.length : Int) := by omega
      have he : k = xs.length := by omega
      have HE := Lib.hid he
      clear he
      go_wp2
      go_ret
      refine ⟨?_, rfl⟩
      have h1 := AN.out
      rw [HE.out, List.take_length] at h1
      rw [h1]; rfl

theorem eqDid (a b c d : Int) (w : World) : (binOp .eql 83 (.agg #[.int .i64 a, .int .i64 b]) (.agg #[.int .i64 c, .int .i64 d])).run Try.prog w = .ok (.bool (a == c && b == d)) w := by
  have u3 := Try.underlying3
  have a3 := Try.isAgg3
  have z3 := Try.sizeOf3
  have hS : Try.prog.underlying 83 = some (.struct (Try.prog.fieldsOf 83)) := by kernel_rfl
  have hp : Try.prog.stoodInHeld 83 = false := by kernel_rfl
  rw [run_eql_struct, show (10000 : Nat) = 9999 + 1 from rfl, run_equalIn_agg w 9999 83 _ _ hS hp]
  simp only [Program.fieldsOf, Try.underlying83]
  go_simp
  by_cases h1 : a = c <;> by_cases h2 : b = d <;> simp [h1, h2]

theorem guardDid (op : BinOp) (o p : Operand) (x y : Array Value) (w : World) : (eqGuard op 83 o p (.agg x) (.agg y)).run Try.prog w = .ok () w :=
  run_eqGuard_agg w op 83 o p x y (by kernel_rfl)

set_option maxHeartbeats 400000 in
theorem index_did (A : Option Addr) (c : Nat) (xs : List GDid) (who task : Int) (w : World) (m : Option Nat) (hx : Rows didC m w w.heap.size A xs) :
    Calls Try.prog 199 #[.slice A xs.length c, .agg #[.int .i64 task, .int .i64 who]] w fun e w' => (∃ r : Int, e = .returned (.int .i64 r) ∧ (decide (0 ≤ r) = pplDid xs who task)) ∧ Below w.heap.size w w' := by
  have hlen := hx.1
  have HX := Lib.hid hx
  clear hx
  have he := fun a b c d w => eqDid a b c d w
  have hg := fun op o p x y w => guardDid op o p x y w
  go_enter Try.func199, Try.ntmps199
  go_wp2
  generalize hW : w.alloc _ = W
  have hcell0 : W.cell? ⟨w.heap.size, 0, none⟩ = some (.int .i64 task) := by rw [← hW]; simp
  have hcell1 : W.cell? ⟨w.heap.size, 1, none⟩ = some (.int .i64 who) := by rw [← hW]; simp
  have hBW : Below w.heap.size w W := by rw [← hW]; exact (Below.refl _ w).alloc (Nat.le_refl _) _
  clear hW
  have HBW := Lib.hid hBW
  clear hBW
  go_loopg [5, 8] xs.length (fun gg _ s8 wr => ∃ k : Nat, k ≤ xs.length ∧ xs.length - k ≤ gg ∧ s8 = .int .i64 k ∧ Aside (∃ q, wr = W.drewN q) ∧ Aside (pplDid (xs.take k) who task = false))
  case atStart => exact ⟨0, Nat.zero_le _, by omega, rfl, ⟨0, rfl⟩, by show pplDid (xs.take 0) _ _ = false; simp [pplDid]⟩
  case round =>
    obtain ⟨k, hk, hgg, rfl, EW, AN⟩ := hrel
    obtain ⟨q, rfl⟩ := EW.out
    by_cases hlt : k < xs.length
    · have hltz : (k : Int) < (xs.length : Int) := by omega
      have h00 : (0 : Int) ≤ (k : Int) := by omega
      obtain ⟨b, off, rfl, hb, hc0, hc1⟩ := did_at HX.out hlt
      have hd0 := (HBW.out.cell (p := ⟨b, off + k * 2, none⟩) hb).trans hc0
      have hd1 := (HBW.out.cell (p := ⟨b, off + k * 2 + 1, none⟩) hb).trans hc1
      clear hc0 hc1
      have HM := Lib.hid (any_split (fun d : GDid => decide (d.who = who) && decide (d.task = task)) xs k hlt AN.out)
      have HH := Lib.hid (fun h => List.any_eq_true.2 ⟨xs[k], List.getElem_mem hlt, h⟩ : (decide (xs[k].who = who) && decide (xs[k].task = task)) = true → pplDid xs who task = true)
      generalize xs[k] = y at hd0 hd1 HM HH
      obtain ⟨yt, yw⟩ := y
      by_cases h1 : yt = task ∧ yw = who
      · have b1 : (task == yt && who == yw) = true := by simp [h1.1, h1.2]
        have HS : Hid (pplDid xs who task = true) := HH.out (by simp [h1.1, h1.2])
        clear h1
        go_wp2
        go_quiet (fail)
        go_wp2
        go_ret
        exact ⟨⟨_, rfl, by rw [HS.out]; simp⟩, bdN (bdN HBW.out _) _⟩
      · have b1 : (task == yt && who == yw) = false := by
          rw [Bool.eq_false_iff]; intro h; simp at h; exact h1 ⟨h.1.symm, h.2.symm⟩
        have HS : Hid (pplDid (xs.take (k + 1)) who task = false) := HM.out.trans (by
          rw [Bool.eq_false_iff]; intro h; simp at h; exact h1 ⟨h.2, h.1⟩)
        clear h1
        go_wp2
        go_quiet (fail)
        go_wp2
        go_roundg (xs.length - (k + 1))
        case measure => omega
        case rel => exact ⟨k + 1, by omega, by omega, by go_num, ⟨_, rfl⟩, HS.out⟩
    · have hltz : ¬ (k : Int) < (xs.length : Int) := by omega
      have he' : k = xs.length := by omega
      have HE := Lib.hid he'
      clear he'
      go_wp2
      go_ret
      have h1 := AN.out
      rw [HE.out, List.take_length] at h1
      exact ⟨⟨_, rfl, by rw [h1]; simp⟩, bdN HBW.out _⟩
theorem contains_did (A : Option Addr) (c : Nat) (xs : List GDid) (who task : Int) (w : World) (m : Option Nat) (hx : Rows didC m w w.heap.size A xs) :
    Calls Try.prog 137 #[.slice A xs.length c, .agg #[.int .i64 task, .int .i64 who]] w fun e w' => e = .returned (.bool (pplDid xs who task)) ∧ Below w.heap.size w w' := by
  have HX := Lib.hid hx
  clear hx
  go_enter Try.func137, Try.ntmps137
  go_wp2_with fail
  generalize hW : w.alloc _ = W
  have hBW : Below w.heap.size w W := by rw [← hW]; exact (Below.refl _ w).alloc (Nat.le_refl _) _
  clear hW
  have HI := Lib.hid (index_did A c xs who task W m (HX.out.later hBW))
  have HB := Lib.hid hBW
  clear hBW
  go_wp2_with (go_at_call 199; refine HI.out.mono ?_; rintro e w' ⟨⟨r, rfl, hr⟩, hb'⟩; have HR := Lib.hid hr; clear hr)
  go_ret
  exact ⟨by rw [← HR.out]; rfl, HB.out.trans (hb'.mono HB.out.size)⟩

theorem impl_PplDid (A : Option Addr) (c : Nat) (xs : List GDid) (who task : Int) (w : World) (m : Option Nat) (hx : Rows didC m w w.heap.size A xs) :
    Calls Try.prog 53 #[.slice A xs.length c, .int .i64 who, .int .i64 task] w fun e w' => e = .returned (.bool (pplDid xs who task)) ∧ Below w.heap.size w w' := by
  have HI := Lib.hid (contains_did A c xs who task w m hx)
  clear hx
  go_enter Try.func53, Try.ntmps53
  go_wp2_with (go_at_call 137; refine HI.out.mono ?_; rintro e w' ⟨rfl, hb'⟩)
  go_ret
  exact ⟨rfl, hb'⟩
end Go.Proofs.Ytkkjljpokannkaa
