/- guTree: rules that are the same are found the same; and what drawing rules, data, a question and an answer hands back. -/
import Derived.Test.YtnnhhmdeoedmmaaDrawRdr
namespace Go.Proofs.Ytnnhhmdeoedmmaa
open Go.RowKit

theorem neAsk (a b c : Int) (w : World) : (binOp .neq 39 (.agg #[.int .i64 a, .int .i64 b, .int .i64 c]) (.agg #[.int .i64 a, .int .i64 b, .int .i64 c])).run Try.prog w = .ok (.bool false) w := by
  have u3 := Try.underlying3
  have a3 := Try.isAgg3
  have z3 := Try.sizeOf3
  have hS : Try.prog.underlying 39 = some (.struct (Try.prog.fieldsOf 39)) := by kernel_rfl
  have hp : Try.prog.stoodInHeld 39 = false := by kernel_rfl
  rw [run_neq_struct, show (10000 : Nat) = 9999 + 1 from rfl, run_equalIn_agg w 9999 39 _ _ hS hp]
  simp only [Program.fieldsOf, Try.underlying39]
  go_simp

set_option maxRecDepth 100000 in
set_option maxHeartbeats 4000000 in
theorem laws_guTree (A A' : Option Addr) (c c' : Nat) (t : List GRule) (m m' : Option Nat) (w : World) (hx : Rows ruleC m w w.heap.size A t) (hy : Rows ruleC m' w w.heap.size A' t) :
    Calls Try.prog 48 #[.slice A t.length c, .slice A' t.length c'] w fun e w' => e = .returned (.bool true) ∧ ∃ n, w' = w.drewN n := by
  have hlx := hx.1
  have HX := Lib.hid hx
  have HY := Lib.hid hy
  clear hx hy
  have he := fun a b c w => neAsk a b c w
  have hg := fun op o p x y w => guardAsk op o p x y w
  have HE := Lib.hid he
  have HG := Lib.hid hg
  clear he hg
  go_enter Try.func48, Try.ntmps48
  go_wp2
  go_loopg [5] t.length (fun gg s5 wr => ∃ k : Nat, k ≤ t.length ∧ t.length - k ≤ gg ∧ s5 = .int .i64 k ∧ Aside (∃ n, wr = w.drewN n))
  case atStart => exact ⟨0, Nat.zero_le _, by omega, rfl, 0, rfl⟩
  case round =>
    obtain ⟨k, hk, hg, rfl, DW⟩ := hrel
    obtain ⟨q, rfl⟩ := DW.out
    by_cases hlt : k < t.length
    · have hltz : (k : Int) < (t.length : Int) := by omega
      have hk0 : (0 : Int) ≤ (k : Int) := by omega
      obtain ⟨b, off, A3, c3, rfl, hb, hr, hd0, hd1, hd2, hd3, hd4, hd5, hd6⟩ := rule_at HX.out hlt
      obtain ⟨b', off', A3', c3', rfl, hb', hr', he0, he1, he2, he3, he4, he5, he6⟩ := rule_at HY.out hlt
      have HR := Lib.hid hr.ints
      have HR' := Lib.hid hr'.ints
      clear hr hr'
      generalize t[k] = y at hd0 hd1 hd2 hd3 hd4 hd5 hd6 he0 he1 he2 he3 he4 he5 he6 HR HR'
      have hE := HE.out
      have hG := HG.out
      have n1 : (y.yes != y.yes) = false := by simp
      have n2 : (y.no != y.no) = false := by simp
      have n3 : (y.ans != y.ans) = false := by simp
      have n4 : (y.ask.op == y.ask.op && (y.ask.var == y.ask.var && y.ask.k == y.ask.k)) = true := by simp
      have hQ : ∀ n, Calls Try.prog 42 #[.slice A3 y.stone.length c3, .slice A3' y.stone.length c3'] (w.drewN (q + n)) fun e w'' => e = .returned (.bool true) ∧ ∃ m, w'' = w.drewN (q + m) := fun n => (laws_guInts A3 A3' c3 c3' y.stone y.stone (w.drewN (q + n)) w.heap.size HR.out HR'.out).mono fun e w'' ⟨h1, k, h2⟩ => ⟨by rw [h1]; simp, n + k, h2.trans (by rw [World.drewN_drewN]; congr 1; omega)⟩
      have HQ := Lib.hid hQ
      clear hQ
      go_wp2
      go_quiet (first | (go_at_call 42; exact HQ.out _))
      go_wp2
      go_roundg (t.length - (k + 1))
      case measure => omega
      case rel => exact ⟨k + 1, by omega, by omega, by go_num, _, rfl⟩
    · have hltz : ¬ (k : Int) < (t.length : Int) := by omega
      go_wp2
      go_ret
      exact ⟨rfl, q, rfl⟩
end Go.Proofs.Ytnnhhmdeoedmmaa
