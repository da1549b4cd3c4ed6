/- Questions about data: how they read, whether they are ok, of both the program and the reference. -/
import Derived.Test.YtjieilicjdoaaaaDat
import Derived.Test.YtjieilicjdoaaaaRecs
import Derived.Laws.StructEq
import Derived.StillTailTactics
import Derived.Deep.Cut
import Derived.Deep.CutRange
namespace Go.Proofs.Ytjieilicjdoaaaa
open Go.RowKit

/-- A question about data. -/
structure GAsk where
  op : Int
  var : Int
  k : Int
def GAsk.cells (x : GAsk) : List Value := [.int .i64 x.op, .int .i64 x.var, .int .i64 x.k]
def askC : Cod GAsk := flat 3 GAsk.cells fun _ => rfl

/-- Something holds of all numbers below n. -/
def allTo (p : Nat → Bool) (n : Nat) : Bool := (List.range n).all p
theorem allTo_zero (p : Nat → Bool) : allTo p 0 = true := rfl
theorem allTo_succ (p : Nat → Bool) (n : Nat) : allTo p (n + 1) = (allTo p n && p n) := by simp [allTo, List.range_succ]
theorem allTo_step {p : Nat → Bool} {n : Nat} (h : allTo p n = true) (h2 : p n = true) : allTo p (n + 1) = true := by rw [allTo_succ, h, h2]; rfl
theorem allTo_fail {p : Nat → Bool} {n k : Nat} (hk : k < n) (h2 : p k = false) : allTo p n = false := by
  rw [Bool.eq_false_iff]
  intro h
  rw [allTo, List.all_eq_true] at h
  rw [h k (List.mem_range.2 hk)] at h2
  cases h2
theorem allTo_congr {p q : Nat → Bool} (n : Nat) (h : ∀ k, k < n → allTo p k = true → p k = q k) : allTo p n = allTo q n := by
  induction n with
  | zero => rfl
  | succ n ih =>
    rw [allTo_succ, allTo_succ, ← ih fun k hk => h k (by omega)]
    cases hp : allTo p n with
    | false => rfl
    | true => rw [h n (by omega) hp]
theorem allTo_get {p : Nat → Bool} {n : Nat} (h : allTo p n = true) {k : Nat} (hk : k < n) : p k = true := by
  rw [allTo, List.all_eq_true] at h
  exact h k (List.mem_range.2 hk)

def askOk (e : GAsk) : Bool := if e.op = 0 then decide (e.var = 0) && decide (e.k = 0) else inB e.op 1 3 && (inB e.var 0 2 && inB e.k (-99) 99)

/-- What a function leaves that answers and turns nothing that was there. -/
def Says (v : Value) (w : World) (e : Ending) (w' : World) : Prop := e = .returned v ∧ Below w.heap.size w w'

theorem quiet_left {P : Program} {f : FuncId} {args : Array Value} {w : World} {n : Nat} {v : Value}
    (h : Calls P f args (w.drewN n) fun e w' => e = .returned v ∧ w.drewN n = w') : Calls P f args (w.drewN n) fun e w'' => e = .returned v ∧ ∃ m, w'' = w.drewN m :=
  h.mono fun _ _ ⟨he, hm⟩ => ⟨he, n, hm.symm⟩
theorem getD_get {α : Type} {xs : List α} {i : Nat} {d : α} (h : i < xs.length) : xs.getD i d = xs[i] := by simp [List.getD_eq_getElem?_getD, List.getElem?_eq_getElem h]

theorem eqAsk (a b c d e f : Int) (w : World) : (binOp .eql 32 (.agg #[.int .i64 a, .int .i64 b, .int .i64 c]) (.agg #[.int .i64 d, .int .i64 e, .int .i64 f])).run Try.prog w = .ok (.bool (a == d && (b == e && c == f))) w := by
  have u3 := Try.underlying3
  have a3 := Try.isAgg3
  have z3 := Try.sizeOf3
  have hS : Try.prog.underlying 32 = some (.struct (Try.prog.fieldsOf 32)) := by kernel_rfl
  have hp : Try.prog.stoodInHeld 32 = false := by kernel_rfl
  rw [run_eql_struct, show (10000 : Nat) = 9999 + 1 from rfl, run_equalIn_agg w 9999 32 _ _ hS hp]
  simp only [Program.fieldsOf, Try.underlying32]
  go_simp
  by_cases h1 : a = d <;> by_cases h2 : b = e <;> by_cases h3 : c = f <;> simp [h1, h2, h3]
theorem guardAsk (op : BinOp) (o p : Operand) (x y : Array Value) (w : World) : (eqGuard op 32 o p (.agg x) (.agg y)).run Try.prog w = .ok () w :=
  run_eqGuard_agg w op 32 o p x y (by kernel_rfl)

set_option maxHeartbeats 1000000 in
theorem spec_ExpOk (x : GAsk) (w : World) : Calls Try.prog 50 #[.agg #[.int .i64 x.op, .int .i64 x.var, .int .i64 x.k]] w (Says (.bool (askOk x)) w) := by
  obtain ⟨op, var, k⟩ := x
  show Calls Try.prog 50 #[.agg #[.int .i64 op, .int .i64 var, .int .i64 k]] w _
  by_cases h0 : op = 0
  · subst h0
    have he := fun a b c d e f w => eqAsk a b c d e f w
    have hg := fun op o p x y w => guardAsk op o p x y w
    have HF : Hid (askOk ⟨0, var, k⟩ = ((0 : Int) == 0 && (var == 0 && k == 0))) := by
      show _ = _
      by_cases h1 : var = 0 <;> by_cases h2 : k = 0 <;> simp [askOk, h1, h2]
    go_enter Try.func50, Try.ntmps50
    go_wp2
    go_ret
    exact ⟨by rw [HF.out]; rfl, by go_grown⟩
  · have hb : (op == 0) = false := by simp [h0]
    have HF : Hid (askOk ⟨op, var, k⟩ = (inB op 1 3 && (inB var 0 2 && inB k (-99) 99))) := by show _ = _; simp [askOk, h0]
    clear h0
    cases h1 : inB op 1 3 with
    | false =>
      go_enter Try.func50, Try.ntmps50
      go_wp2_with (go_at_call 32; refine (l1In _ _ _ _).mono ?_; rintro e w' ⟨rfl, rfl⟩)
      go_ret
      exact ⟨by rw [HF.out, h1]; rfl, by go_grown⟩
    | true =>
      cases h2 : inB var 0 2 with
      | false =>
        go_enter Try.func50, Try.ntmps50
        go_wp2_with (go_at_call 32; refine (l1In _ _ _ _).mono ?_; rintro e w' ⟨rfl, rfl⟩)
        go_ret
        exact ⟨by rw [HF.out, h1, h2]; rfl, by go_grown⟩
      | true =>
        go_enter Try.func50, Try.ntmps50
        go_wp2_with (go_at_call 32; refine (l1In _ _ _ _).mono ?_; rintro e w' ⟨rfl, rfl⟩)
        go_ret
        exact ⟨by rw [HF.out, h1, h2]; rfl, by go_grown⟩

theorem bne_ne {a b : Bool} (h : ¬ a = b) : (a != b) = true := by revert h; cases a <;> cases b <;> decide
theorem bool_ne {a b : Bool} (h : ¬ a = b) : a = !b := by revert h; cases a <;> cases b <;> decide
theorem beq_ne {a b : Bool} (h : ¬ a = b) : (a == b) = false := by revert h; cases a <;> cases b <;> decide

set_option maxHeartbeats 1000000 in
theorem impl_ExpOk (x : GAsk) (w : World) : Calls Try.prog 55 #[.agg #[.int .i64 x.op, .int .i64 x.var, .int .i64 x.k]] w (Says (.bool (askOk x)) w) := by
  obtain ⟨op, var, k⟩ := x
  show Calls Try.prog 55 #[.agg #[.int .i64 op, .int .i64 var, .int .i64 k]] w _
  by_cases h0 : op = 0
  · subst h0
    have HF : Hid (askOk ⟨0, var, k⟩ = ((var == 0 && k == 0))) := by
      show _ = _
      by_cases h1 : var = 0 <;> by_cases h2 : k = 0 <;> simp [askOk, h1, h2]
    cases h1 : (var == 0) with
    | false =>
      go_enter Try.func55, Try.ntmps55
      go_wp2
      go_ret
      exact ⟨by rw [HF.out, h1]; rfl, by go_grown⟩
    | true =>
      go_enter Try.func55, Try.ntmps55
      go_wp2
      go_ret
      exact ⟨by rw [HF.out, h1]; rfl, by go_grown⟩
  · have hb : (op == 0) = false := by simp [h0]
    have HF : Hid (askOk ⟨op, var, k⟩ = (inB op 1 3 && (inB var 0 2 && inB k (-99) 99))) := by show _ = _; simp [askOk, h0]
    clear h0
    cases h1 : inB op 1 3 with
    | false =>
      go_enter Try.func55, Try.ntmps55
      go_wp2_with (go_at_call 51; refine (impl_in _ _ _ _).mono ?_; rintro e w' ⟨rfl, rfl⟩)
      go_ret
      exact ⟨by rw [HF.out, h1]; rfl, by go_grown⟩
    | true =>
      cases h2 : inB var 0 2 with
      | false =>
        go_enter Try.func55, Try.ntmps55
        go_wp2_with (go_at_call 51; refine (impl_in _ _ _ _).mono ?_; rintro e w' ⟨rfl, rfl⟩)
        go_ret
        exact ⟨by rw [HF.out, h1, h2]; rfl, by go_grown⟩
      | true =>
        go_enter Try.func55, Try.ntmps55
        go_wp2_with (first | (go_at_call 51; refine (impl_in _ _ _ _).mono ?_; rintro e w' ⟨rfl, rfl⟩) | (go_at_call 54; refine (impl_isDatum _ _).mono ?_; rintro e w' ⟨rfl, rfl⟩))
        go_ret
        exact ⟨by rw [HF.out, h1, h2]; rfl, by go_grown⟩

end Go.Proofs.Ytjieilicjdoaaaa
