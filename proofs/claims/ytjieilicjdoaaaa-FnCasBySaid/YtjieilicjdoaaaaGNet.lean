/- People: PplOk, PplHas of the program and of the reference compute the same plain functions. -/
import Derived.Test.YtjieilicjdoaaaaGBase
import Derived.Laws.StructEq
import Derived.StillTailTactics
import Derived.Deep.Cut
import Derived.Deep.CutRange
import Derived.Maps.Own
import Derived.Maps.OwnOps
import Derived.Maps.Views
namespace Go.Proofs.Ytjieilicjdoaaaa
open Go.RowKit

def pplOk (xs : List Int) : Bool := inB xs.length 1 4 && !xs.any fun n => !inB n 0 7

theorem any_miss {α : Type} (p : α → Bool) (xs : List α) (k : Nat) (hk : k < xs.length) (h : (xs.take k).any p = false) (h2 : p xs[k] = false) : (xs.take (k + 1)).any p = false := by
 rw [any_split p xs k hk h, h2]
theorem any_hit {α : Type} (p : α → Bool) (xs : List α) (k : Nat) (hk : k < xs.length) (h2 : p xs[k] = true) : xs.any p = true :=
 List.any_eq_true.2 ⟨xs[k], List.getElem_mem hk, h2⟩

theorem spec_PplOk (A : Option Addr) (c : Nat) (xs : List Int) (w : World) (B : Nat) (hx : Ints w B A xs) :
  Calls Try.prog 82 #[.slice A xs.length c] w fun e w' => e = .returned (.bool (pplOk xs)) ∧ w = w' := by
 have hlen := hx.1
 have HX := Lib.hid hx
 clear hx
 cases h : inB xs.length 1 4 with
 | true =>
  have HF : Hid (pplOk xs = !xs.any fun n => !inB n 0 7) := by show _ = _; simp [pplOk, h]
  go_enter Try.func82, Try.ntmps82
  go_wp2_with (go_at_call 32; refine (l1In _ _ _ _).mono ?_; rintro e w' ⟨rfl, rfl⟩)
  clear h
  go_loopg [3] xs.length (fun gg s3 wr => ∃ k : Nat, k ≤ xs.length ∧ xs.length - k ≤ gg ∧ s3 = .int .i64 k ∧ Aside (w = wr) ∧ Aside ((xs.take k).any (fun n => !inB n 0 7) = false))
  case atStart => exact ⟨0, Nat.zero_le _, by omega, rfl, rfl, by show (xs.take 0).any _ = false; simp⟩
  case round =>
   obtain ⟨k, hk, hg, rfl, EW, AN⟩ := hrel
   obtain rfl := EW.out
   by_cases hlt : k < xs.length
   ·
    have hltz : (k : Int) < (xs.length : Int) := by omega
    obtain ⟨b, off, rfl, hb, hc⟩ := HX.out.at_ hlt
    cases hq : inB xs[k] 0 7 with
    | true =>
     have HS := Lib.hid (any_miss (fun n => !inB n 0 7) xs k hlt AN.out (by simp [hq]))
     generalize xs[k] = y at hc hq
     go_wp2_with (go_at_call 32; refine (l1In _ _ _ _).mono ?_; rintro e w' ⟨rfl, rfl⟩)
     go_roundg (xs.length - (k + 1))
     case measure => omega
     case rel => exact ⟨k + 1, by omega, by omega, by go_num, rfl, HS.out⟩
    | false =>
     have HS := Lib.hid (any_hit (fun n => !inB n 0 7) xs k hlt (by simp [hq]))
     generalize xs[k] = y at hc hq
     go_wp2_with (go_at_call 32; refine (l1In _ _ _ _).mono ?_; rintro e w' ⟨rfl, rfl⟩)
     go_ret
     exact ⟨by rw [HF.out, HS.out]; rfl, rfl⟩
   ·
    have hltz : ¬ (k : Int) < (xs.length : Int) := by omega
    have he : k = xs.length := by omega
    have HE := Lib.hid he
    clear he
    go_wp2
    go_ret
    refine ⟨?_, rfl⟩
    have h1 := AN.out
    rw [HE.out, List.take_length] at h1
    rw [HF.out, h1]; rfl
 | false =>
  have HF : Hid (pplOk xs = false) := by show _ = _; simp [pplOk, h]
  go_enter Try.func82, Try.ntmps82
  go_wp2_with (go_at_call 32; refine (l1In _ _ _ _).mono ?_; rintro e w' ⟨rfl, rfl⟩)
  go_ret
  exact ⟨by rw [HF.out]; rfl, rfl⟩
end Go.Proofs.Ytjieilicjdoaaaa

/- Data: DatOk of the program and of the reference; guOk; guHas. -/
namespace Go.Proofs.Ytjieilicjdoaaaa
open Go.RowKit

def datOk (xs : List Int) : Bool := decide (xs.length = 3) && !xs.any fun n => !inB n (-99) 99

theorem impl_isDatum (n : Int) (w : World) : Calls Try.prog 54 #[.int .i64 n] w fun e w' => e = .returned (.bool (inB n (-99) 99)) ∧ w = w' := by
 go_enter Try.func54, Try.ntmps54
 go_wp2_with (go_at_call 51; refine (impl_in _ _ _ _).mono ?_; rintro e w' ⟨rfl, rfl⟩)
 go_ret
 exact ⟨rfl, rfl⟩
theorem datOk_pred (w : World) : PredInt 53 #[] (fun n => !inB n (-99) 99) w := by
 intro W x hb
 show Calls Try.prog 53 #[.int .i64 x] W _
 go_enter Try.func53, Try.ntmps53
 go_wp2_with (go_at_call 54; refine (impl_isDatum _ _).mono ?_; rintro e w' ⟨rfl, rfl⟩)
 go_ret
 exact ⟨rfl, Below.refl _ _⟩
theorem impl_DatOk (A : Option Addr) (c : Nat) (xs : List Int) (w : World) (hx : Ints w w.heap.size A xs) :
  Calls Try.prog 38 #[.slice A xs.length c] w fun e w' => e = .returned (.bool (datOk xs)) ∧ Below w.heap.size w w' := by
 have hlen := hx.1
 have eg : ∀ args w, (callFunc 53 args).run Try.prog w = .ok (.enter 53 args) w := enters_of Try.func53 (by kernel_rfl) rfl
 have HC := Lib.hid (containsFunc_int _ #[] _ eg A c xs w (datOk_pred w) hx)
 clear hx eg
 by_cases h : xs.length = 3
 ·
  have b : ((xs.length : Int) == 3) = true := by simp [h]
  have HF : Hid (datOk xs = !xs.any fun n => !inB n (-99) 99) := by show _ = _; simp [datOk, h]
  clear h
  go_enter Try.func38, Try.ntmps38
  go_wp2_with (go_at_call 52; refine HC.out.mono ?_; rintro e w' ⟨rfl, hb⟩)
  go_ret
  exact ⟨by rw [HF.out]; rfl, hb⟩
 ·
  have b : ((xs.length : Int) == 3) = false := by simp; omega
  have HF : Hid (datOk xs = false) := by show _ = _; simp [datOk, h]
  clear h
  go_enter Try.func38, Try.ntmps38
  go_wp2
  go_ret
  exact ⟨by rw [HF.out]; rfl, Below.refl _ _⟩
theorem spec_DatOk (A : Option Addr) (c : Nat) (xs : List Int) (w : World) (B : Nat) (hx : Ints w B A xs) :
  Calls Try.prog 30 #[.slice A xs.length c] w fun e w' => e = .returned (.bool (datOk xs)) ∧ w = w' := by
 have hlen := hx.1
 have HX := Lib.hid hx
 clear hx
 by_cases h : xs.length = 3
 ·
  have b : ((xs.length : Int) == 3) = true := by simp [h]
  have bn : ((xs.length : Int) != 3) = false := by simp [h]
  have HF : Hid (datOk xs = !xs.any fun n => !inB n (-99) 99) := by show _ = _; simp [datOk, h]
  have H3 := Lib.hid h
  clear h
  go_enter Try.func30, Try.ntmps30
  go_wp2
  go_loopg [3] xs.length (fun gg s3 wr => ∃ k : Nat, k ≤ xs.length ∧ xs.length - k ≤ gg ∧ s3 = .int .i64 k ∧ Aside (w = wr) ∧ Aside ((xs.take k).any (fun n => !inB n (-99) 99) = false))
  case atStart => exact ⟨0, Nat.zero_le _, by omega, rfl, rfl, by show (xs.take 0).any _ = false; simp⟩
  case round =>
   obtain ⟨k, hk, hg, rfl, EW, AN⟩ := hrel
   obtain rfl := EW.out
   by_cases hlt : k < xs.length
   ·
    have hltz : (k : Int) < (xs.length : Int) := by omega
    obtain ⟨b, off, rfl, hb, hc⟩ := HX.out.at_ hlt
    cases hq : inB xs[k] (-99) 99 with
    | true =>
     have HS := Lib.hid (any_miss (fun n => !inB n (-99) 99) xs k hlt AN.out (by simp [hq]))
     generalize xs[k] = y at hc hq
     go_wp2_with (go_at_call 32; refine (l1In _ _ _ _).mono ?_; rintro e w' ⟨rfl, rfl⟩)
     go_roundg (xs.length - (k + 1))
     case measure => omega
     case rel => exact ⟨k + 1, by omega, by omega, by go_num, rfl, HS.out⟩
    | false =>
     have HS := Lib.hid (any_hit (fun n => !inB n (-99) 99) xs k hlt (by simp [hq]))
     generalize xs[k] = y at hc hq
     go_wp2_with (go_at_call 32; refine (l1In _ _ _ _).mono ?_; rintro e w' ⟨rfl, rfl⟩)
     go_ret
     exact ⟨by rw [HF.out, HS.out]; rfl, rfl⟩
   ·
    have hltz : ¬ (k : Int) < (xs.length : Int) := by omega
    have he : k = xs.length := by omega
    have HE := Lib.hid he
    clear he
    go_wp2
    go_ret
    refine ⟨?_, rfl⟩
    have h1 := AN.out
    rw [HE.out, List.take_length] at h1
    rw [HF.out, h1]; rfl
 ·
  have b : ((xs.length : Int) == 3) = false := by simp; omega
  have HF : Hid (datOk xs = false) := by show _ = _; simp [datOk, h]
  clear h
  go_enter Try.func30, Try.ntmps30
  go_wp2
  go_ret
  exact ⟨by rw [HF.out]; rfl, rfl⟩

theorem laws_guOk (w : World) : Calls Try.prog 21 #[] w fun e w' => e = .returned (.bool true) ∧ Below w.heap.size w w' := by
 go_enter Try.func21, Try.ntmps21
 go_wp2_with fail
 have hb : Below w.heap.size w (w.alloc (.cells #[.int .i64 0, .int .i64 0, .int .i64 0] 3)) := (Below.refl _ _).alloc (Nat.le_refl _) _
 refine (impl_DatOk (some ⟨w.heap.size, 0, none⟩) 3 [0, 0, 0] _ ((Wr.new w 3 #[.int .i64 0, .int .i64 0, .int .i64 0]).ints (xs := [0, 0, 0]) (by simp) (by simp))).mono ?_
 rintro e w1 ⟨rfl, hb1⟩
 have HB := Lib.hid (hb.trans (hb1.mono hb.size))
 clear hb hb1
 go_wp2
 go_ret
 exact ⟨by rfl, HB.out⟩

end Go.Proofs.Ytjieilicjdoaaaa

/- Questions about data: how they read, whether they are ok, of both the program and the reference. -/
namespace Go.Proofs.Ytjieilicjdoaaaa
open Go.RowKit

/-- A question about data. -/
structure GAsk where
 op : Int
 var : Int
 k : Int
def GAsk.cells (x : GAsk) : List Value := [.int .i64 x.op, .int .i64 x.var, .int .i64 x.k]
/-- Something holds of all numbers below n. -/
def allTo (p : Nat → Bool) (n : Nat) : Bool := (List.range n).all p
theorem allTo_succ (p : Nat → Bool) (n : Nat) : allTo p (n + 1) = (allTo p n && p n) := by simp [allTo, List.range_succ]
theorem allTo_step {p : Nat → Bool} {n : Nat} (h : allTo p n = true) (h2 : p n = true) : allTo p (n + 1) = true := by rw [allTo_succ, h, h2]; rfl
theorem allTo_fail {p : Nat → Bool} {n k : Nat} (hk : k < n) (h2 : p k = false) : allTo p n = false := by
 rw [Bool.eq_false_iff]
 intro h
 rw [allTo, List.all_eq_true] at h
 rw [h k (List.mem_range.2 hk)] at h2
 cases h2
theorem allTo_get {p : Nat → Bool} {n : Nat} (h : allTo p n = true) {k : Nat} (hk : k < n) : p k = true := by
 rw [allTo, List.all_eq_true] at h
 exact h k (List.mem_range.2 hk)

def askOk (e : GAsk) : Bool := if e.op = 0 then decide (e.var = 0) && decide (e.k = 0) else inB e.op 1 3 && (inB e.var 0 2 && inB e.k (-99) 99)

/-- What a function leaves that answers and turns nothing that was there. -/
def Says (v : Value) (w : World) (e : Ending) (w' : World) : Prop := e = .returned v ∧ Below w.heap.size w w'

theorem quiet_left {P : Program} {f : FuncId} {args : Array Value} {w : World} {n : Nat} {v : Value}
  (h : Calls P f args (w.drewN n) fun e w' => e = .returned v ∧ w.drewN n = w') : Calls P f args (w.drewN n) fun e w'' => e = .returned v ∧ ∃ m, w'' = w.drewN m :=
 h.mono fun _ _ ⟨he, hm⟩ => ⟨he, n, hm.symm⟩
theorem getD_get {α : Type} {xs : List α} {i : Nat} {d : α} (h : i < xs.length) : xs.getD i d = xs[i] := by simp [List.getD_eq_getElem?_getD, List.getElem?_eq_getElem h]

theorem eqAsk (a b c d e f : Int) (w : World) : (binOp .eql 32 (.agg #[.int .i64 a, .int .i64 b, .int .i64 c]) (.agg #[.int .i64 d, .int .i64 e, .int .i64 f])).run Try.prog w = .ok (.bool (a == d && (b == e && c == f))) w := by
 have u3 := Try.underlying3
 have a3 := Try.isAgg3
 have z3 := Try.sizeOf3
 have hS : Try.prog.underlying 32 = some (.struct (Try.prog.fieldsOf 32)) := by kernel_rfl
 have hp : Try.prog.stoodInHeld 32 = false := by kernel_rfl
 rw [run_eql_struct, show (10000 : Nat) = 9999 + 1 from rfl, run_equalIn_agg w 9999 32 _ _ hS hp]
 simp only [Program.fieldsOf, Try.underlying32]
 go_simp
 by_cases h1 : a = d <;> by_cases h2 : b = e <;> by_cases h3 : c = f <;> simp [h1, h2, h3]
theorem guardAsk (op : BinOp) (o p : Operand) (x y : Array Value) (w : World) : (eqGuard op 32 o p (.agg x) (.agg y)).run Try.prog w = .ok () w :=
 run_eqGuard_agg w op 32 o p x y (by kernel_rfl)

set_option maxHeartbeats 1000000 in
theorem spec_ExpOk (x : GAsk) (w : World) : Calls Try.prog 50 #[.agg #[.int .i64 x.op, .int .i64 x.var, .int .i64 x.k]] w (Says (.bool (askOk x)) w) := by
 obtain ⟨op, var, k⟩ := x
 show Calls Try.prog 50 #[.agg #[.int .i64 op, .int .i64 var, .int .i64 k]] w _
 by_cases h0 : op = 0
 ·
  subst h0
  have he := fun a b c d e f w => eqAsk a b c d e f w
  have hg := fun op o p x y w => guardAsk op o p x y w
  have HF : Hid (askOk ⟨0, var, k⟩ = ((0 : Int) == 0 && (var == 0 && k == 0))) := by
   show _ = _
   by_cases h1 : var = 0 <;> by_cases h2 : k = 0 <;> simp [askOk, h1, h2]
  go_enter Try.func50, Try.ntmps50
  go_wp2
  go_ret
  exact ⟨by rw [HF.out]; rfl, by go_grown⟩
 ·
  have hb : (op == 0) = false := by simp [h0]
  have HF : Hid (askOk ⟨op, var, k⟩ = (inB op 1 3 && (inB var 0 2 && inB k (-99) 99))) := by show _ = _; simp [askOk, h0]
  clear h0
  cases h1 : inB op 1 3 with
  | false =>
   go_enter Try.func50, Try.ntmps50
   go_wp2_with (go_at_call 32; refine (l1In _ _ _ _).mono ?_; rintro e w' ⟨rfl, rfl⟩)
   go_ret
   exact ⟨by rw [HF.out, h1]; rfl, by go_grown⟩
  | true =>
   cases h2 : inB var 0 2 with
   | false =>
    go_enter Try.func50, Try.ntmps50
    go_wp2_with (go_at_call 32; refine (l1In _ _ _ _).mono ?_; rintro e w' ⟨rfl, rfl⟩)
    go_ret
    exact ⟨by rw [HF.out, h1, h2]; rfl, by go_grown⟩
   | true =>
    go_enter Try.func50, Try.ntmps50
    go_wp2_with (go_at_call 32; refine (l1In _ _ _ _).mono ?_; rintro e w' ⟨rfl, rfl⟩)
    go_ret
    exact ⟨by rw [HF.out, h1, h2]; rfl, by go_grown⟩

theorem bne_ne {a b : Bool} (h : ¬ a = b) : (a != b) = true := by revert h; cases a <;> cases b <;> decide
theorem bool_ne {a b : Bool} (h : ¬ a = b) : a = !b := by revert h; cases a <;> cases b <;> decide
theorem beq_ne {a b : Bool} (h : ¬ a = b) : (a == b) = false := by revert h; cases a <;> cases b <;> decide

end Go.Proofs.Ytjieilicjdoaaaa

/- Nets: how a net value reads as plain data, and whether it is ok, as plain functions. -/
namespace Go.Proofs.Ytjieilicjdoaaaa
open Go.RowKit

/-- What leads out of a task. -/
structure GFlow where
 «to» : Int
 ask : GAsk
def GFlow.cells (x : GFlow) : List Value := [.int .i64 x.to, .int .i64 x.ask.op, .int .i64 x.ask.var, .int .i64 x.ask.k]
/-- A task. -/
structure GTask where
 join : Int
 split : Int
 inn : List Int
 out : List GFlow
 clear : List Int
 role : Int
 apart : Int
 all : Int
 need : Int
/-- A net. -/
structure GNet where
 places : Int
 tasks : List GTask

def flowC : Cod GFlow := flat 4 GFlow.cells fun _ => rfl

def taskC : Cod GTask :=
 {
  k := 9
  R := fun m w B x cs => ∃ A1 c1 A2 c2 A3 c3, cs = [.int .i64 x.join, .int .i64 x.split, .slice A1 x.inn.length c1, .slice A2 x.out.length c2, .slice A3 x.clear.length c3, .int .i64 x.role, .int .i64 x.apart, .int .i64 x.all, .int .i64 x.need] ∧
   Rows intC m w B A1 x.inn ∧ Rows flowC m w B A2 x.out ∧ Rows intC m w B A3 x.clear
  keep := fun ⟨A1, c1, A2, c2, A3, c3, h, h1, h2, h3⟩ ha => ⟨A1, c1, A2, c2, A3, c3, h, h1.keep ha, h2.keep ha, h3.keep ha⟩
  more := fun ⟨A1, c1, A2, c2, A3, c3, h, h1, h2, h3⟩ hb => ⟨A1, c1, A2, c2, A3, c3, h, h1.more hb, h2.more hb, h3.more hb⟩
  weak := fun ⟨A1, c1, A2, c2, A3, c3, h, h1, h2, h3⟩ hm => ⟨A1, c1, A2, c2, A3, c3, h, h1.weak hm, h2.weak hm, h3.weak hm⟩
  len := fun ⟨_, _, _, _, _, _, h, _⟩ => by subst h; rfl }

def netC : Cod GNet :=
 {
  k := 2
  R := fun m w B x cs => ∃ A c, cs = [.int .i64 x.places, .slice A x.tasks.length c] ∧ Rows taskC m w B A x.tasks
  keep := fun ⟨A, c, h, h1⟩ ha => ⟨A, c, h, h1.keep ha⟩
  more := fun ⟨A, c, h, h1⟩ hb => ⟨A, c, h, h1.more hb⟩
  weak := fun ⟨A, c, h, h1⟩ hm => ⟨A, c, h, h1.weak hm⟩
  len := fun ⟨_, _, h, _⟩ => by subst h; rfl }

section
variable {m : Option Nat} {w : World} {B : Nat} {A : Option Addr}
theorem flow_at {xs : List GFlow} (h : Rows flowC m w B A xs) {j : Nat} (hj : j < xs.length) :
  ∃ b off, A = some ⟨b, off, none⟩ ∧ b < B ∧ w.cell? ⟨b, off + j * 4, none⟩ = some (.int .i64 xs[j].to) ∧ w.cell? ⟨b, off + j * 4 + 1, none⟩ = some (.int .i64 xs[j].ask.op) ∧ w.cell? ⟨b, off + j * 4 + 2, none⟩ = some (.int .i64 xs[j].ask.var) ∧ w.cell? ⟨b, off + j * 4 + 3, none⟩ = some (.int .i64 xs[j].ask.k) := by
 obtain ⟨b, off, cs, hA, hb, hR, hc⟩ := h.at_ hj
 have hR' : cs = GFlow.cells xs[j] := hR
 subst hR'
 exact ⟨b, off, hA, hb.1, by have h0 := hc 0 _ rfl; rw [Nat.add_zero] at h0; exact h0, hc 1 _ rfl, hc 2 _ rfl, hc 3 _ rfl⟩
/-- Task j of a row of tasks: its cells, and what they stand for. -/
theorem task_at {xs : List GTask} (h : Rows taskC m w B A xs) {j : Nat} (hj : j < xs.length) :
  ∃ b off A1 c1 A2 c2 A3 c3, A = some ⟨b, off, none⟩ ∧ b < B ∧ (Rows intC m w B A1 xs[j].inn ∧ Rows flowC m w B A2 xs[j].out ∧ Rows intC m w B A3 xs[j].clear) ∧
   w.cell? ⟨b, off + j * 9, none⟩ = some (.int .i64 xs[j].join) ∧ w.cell? ⟨b, off + j * 9 + 1, none⟩ = some (.int .i64 xs[j].split) ∧
   w.cell? ⟨b, off + j * 9 + 2, none⟩ = some (.slice A1 xs[j].inn.length c1) ∧ w.cell? ⟨b, off + j * 9 + 3, none⟩ = some (.slice A2 xs[j].out.length c2) ∧ w.cell? ⟨b, off + j * 9 + 4, none⟩ = some (.slice A3 xs[j].clear.length c3) ∧
   w.cell? ⟨b, off + j * 9 + 5, none⟩ = some (.int .i64 xs[j].role) ∧ w.cell? ⟨b, off + j * 9 + 6, none⟩ = some (.int .i64 xs[j].apart) ∧ w.cell? ⟨b, off + j * 9 + 7, none⟩ = some (.int .i64 xs[j].all) ∧ w.cell? ⟨b, off + j * 9 + 8, none⟩ = some (.int .i64 xs[j].need) := by
 obtain ⟨b, off, cs, hA, hb, ⟨A1, c1, A2, c2, A3, c3, hcs, h1, h2, h3⟩, hc⟩ := h.at_ hj
 subst hcs
 exact ⟨b, off, A1, c1, A2, c2, A3, c3, hA, hb.1, ⟨h1, h2, h3⟩, by have h0 := hc 0 _ rfl; rw [Nat.add_zero] at h0; exact h0, hc 1 _ rfl, hc 2 _ rfl, hc 3 _ rfl, hc 4 _ rfl, hc 5 _ rfl, hc 6 _ rfl, hc 7 _ rfl, hc 8 _ rfl⟩
end

/-- Number i of some lies within bounds and above the one ahead of it. -/
def risesAt (lo hi : Int) (xs : List Int) (i : Nat) : Bool := inB (xs.getD i 0) lo hi && (decide (i = 0) || decide (xs.getD (i - 1) 0 < xs.getD i 0))
def rises (xs : List Int) (least most lo hi : Int) : Bool := inB xs.length least most && allTo (risesAt lo hi xs) xs.length

def flow0 : GFlow := ⟨0, ⟨0, 0, 0⟩⟩
/-- Flow i of a task is ok. -/
def flowAt (x : GTask) (places : Int) (i : Nat) : Bool :=
 inB (x.out.getD i flow0).to 1 (places - 1) && (askOk (x.out.getD i flow0).ask && (((decide (i + 1 = x.out.length) || decide (x.split = 1)) == decide ((x.out.getD i flow0).ask.op = 0)) && !(x.out.take i).any fun g => decide (g.to = (x.out.getD i flow0).to)))
def flowsOk (x : GTask) (places : Int) : Bool := inB x.out.length 1 3 && allTo (flowAt x places) x.out.length
def taskOk (x : GTask) (places tasks : Int) : Bool :=
 (inB x.join 1 3 && (inB x.split 1 3 && (rises x.inn 1 3 0 (places - 1) && (!(x.inn.any fun y => decide (y = 1)) && flowsOk x places)))) &&
  (rises x.clear 0 places 2 (places - 1) && (inB x.role 1 3 && (inB x.apart (-1) (tasks - 1) && (inB x.all 1 3 && inB x.need 1 x.all))))
def netOk (n : GNet) : Bool := inB n.places 2 8 && (inB n.tasks.length 1 6 && n.tasks.all fun t => taskOk t n.places n.tasks.length)

theorem l2Has (A : Option Addr) (c : Nat) (xs : List Int) (n : Int) (w : World) (B : Nat) (hx : Ints w B A xs) :
  Calls Try.prog 85 #[.slice A xs.length c, .int .i64 n] w fun e w' => e = .returned (.bool (xs.any fun x => decide (x = n))) ∧ w = w' := by
 have hlen := hx.1
 have HX := Lib.hid hx
 clear hx
 go_enter Try.func85, Try.ntmps85
 go_wp2
 go_loopg [5] xs.length (fun gg s5 wr => ∃ k : Nat, k ≤ xs.length ∧ xs.length - k ≤ gg ∧ s5 = .int .i64 k ∧ Aside (w = wr) ∧ Aside ((xs.take k).any (fun x => decide (x = n)) = false))
 case atStart => exact ⟨0, Nat.zero_le _, by omega, rfl, rfl, by show (xs.take 0).any _ = false; simp⟩
 case round =>
  obtain ⟨k, hk, hg, rfl, EW, AN⟩ := hrel
  obtain rfl := EW.out
  by_cases hlt : k < xs.length
  ·
   have hltz : (k : Int) < (xs.length : Int) := by omega
   obtain ⟨b, off, rfl, hb, hc⟩ := HX.out.at_ hlt
   by_cases hq : xs[k] = n
   ·
    have HS := Lib.hid (any_hit (fun x => decide (x = n)) xs k hlt (by simp [hq]))
    have hb1 : (xs[k] == n) = true := by simp [hq]
    generalize xs[k] = y at hc hb1
    clear hq
    go_wp2
    go_ret
    exact ⟨by rw [HS.out]; rfl, rfl⟩
   ·
    have HS := Lib.hid (any_miss (fun x => decide (x = n)) xs k hlt AN.out (by simp [hq]))
    have hb1 : (xs[k] == n) = false := by simp [hq]
    generalize xs[k] = y at hc hb1
    clear hq
    go_wp2
    go_roundg (xs.length - (k + 1))
    case measure => omega
    case rel => exact ⟨k + 1, by omega, by omega, by go_num, rfl, HS.out⟩
  ·
   have hltz : ¬ (k : Int) < (xs.length : Int) := by omega
   have he : k = xs.length := by omega
   have HE := Lib.hid he
   clear he
   go_wp2
   go_ret
   refine ⟨?_, rfl⟩
   have h1 := AN.out
   rw [HE.out, List.take_length] at h1
   rw [h1]; rfl


set_option maxHeartbeats 1000000 in
theorem l2Rises (A : Option Addr) (c : Nat) (xs : List Int) (least most lo hi : Int) (w : World) (hx : Ints w w.heap.size A xs) :
  Calls Try.prog 87 #[.slice A xs.length c, .int .i64 least, .int .i64 most, .int .i64 lo, .int .i64 hi] w (Says (.bool (rises xs least most lo hi)) w) := by
 have hlen := hx.1
 have HX := Lib.hid hx
 clear hx
 cases h : inB xs.length least most with
 | false =>
  have HF : Hid (rises xs least most lo hi = false) := by show _ = _; simp [rises, h]
  go_enter Try.func87, Try.ntmps87
  go_wp2_with (go_at_call 32; refine (l1In _ _ _ _).mono ?_; rintro e w' ⟨rfl, rfl⟩)
  go_ret
  exact ⟨by rw [HF.out]; rfl, Below.refl _ _⟩
 | true =>
  have HF : Hid (rises xs least most lo hi = allTo (risesAt lo hi xs) xs.length) := by show _ = _; simp [rises, h]
  go_enter Try.func87, Try.ntmps87
  go_wp2_with (go_at_call 32; refine (l1In _ _ _ _).mono ?_; rintro e w' ⟨rfl, rfl⟩)
  clear h
  go_loopg [11] xs.length (fun gg s11 wr => ∃ k : Nat, k ≤ xs.length ∧ xs.length - k ≤ gg ∧ s11 = .int .i64 k ∧ Aside (Below w.heap.size w wr) ∧ Aside (allTo (risesAt lo hi xs) k = true))
  case atStart => exact ⟨0, Nat.zero_le _, by omega, rfl, Below.refl _ _, rfl⟩
  case round =>
   obtain ⟨k, hk, hg, rfl, EW, AN⟩ := hrel
   by_cases hlt : k < xs.length
   ·
    have hltz : (k : Int) < (xs.length : Int) := by omega
    obtain ⟨b, off, rfl, hb, hc⟩ := (HX.out.later EW.out).at_ hlt
    cases hq : inB xs[k] lo hi with
    | false =>
     have HS : Hid (allTo (risesAt lo hi xs) xs.length = false) := allTo_fail hlt (by rw [risesAt, getD_get hlt, hq]; rfl)
     generalize xs[k] = y at hc hq
     go_wp2
     go_quiet (first | (go_at_call 32; exact quiet_left (l1In _ _ _ _)))
     go_wp2
     go_ret
     exact ⟨by rw [HF.out, HS.out]; rfl, bdN EW.out _⟩
    | true =>
     by_cases hk0 : k = 0
     ·
      subst hk0
      have HS : Hid (allTo (risesAt lo hi xs) (0 + 1) = true) := allTo_step AN.out (by rw [risesAt, getD_get hlt, hq]; rfl)
      generalize xs[0] = y at hc hq
      rw [Nat.add_zero] at hc
      go_wp2
      go_quiet (first | (go_at_call 32; exact quiet_left (l1In _ _ _ _)))
      go_wp2
      go_roundg (xs.length - (0 + 1))
      case measure => omega
      case rel => exact ⟨0 + 1, by omega, by omega, by go_num, bdN EW.out _, HS.out⟩
     ·
      have hkp : (0 : Int) < (k : Int) := by omega
      have hd : decide (0 < k) = true := by simp; omega
      have hkn : 0 < k := by omega
      have hlt1 : k - 1 < xs.length := by omega
      obtain ⟨b1, off1, hA1, hb1, hc1⟩ := (HX.out.later EW.out).at_ hlt1
      cases hA1
      have hcast : ((k - 1 : Nat) : Int) = (k : Int) - 1 := by omega
      have hkz : ((k : Int) - 1).toNat = k - 1 := by omega
      have hkz0 : (0 : Int) ≤ (k : Int) - 1 := by omega
      have hkz1 : (k : Int) - 1 < (xs.length : Int) := by omega
      by_cases hr : xs[k - 1] < xs[k]
      ·
       have HS : Hid (allTo (risesAt lo hi xs) (k + 1) = true) := allTo_step AN.out (by rw [risesAt, getD_get hlt, getD_get hlt1, hq]; simp [hr])
       have hr2 : ¬ xs[k] ≤ xs[k - 1] := by omega
       generalize xs[k] = y at hc hq hr hr2
       generalize xs[k - 1] = y1 at hc1 hr hr2
       go_wp2
       go_quiet (first | (go_at_call 32; exact quiet_left (l1In _ _ _ _)))
       go_wp2
       go_roundg (xs.length - (k + 1))
       case measure => omega
       case rel => exact ⟨k + 1, by omega, by omega, by go_num, bdN EW.out _, HS.out⟩
      ·
       have HS : Hid (allTo (risesAt lo hi xs) xs.length = false) := allTo_fail hlt (by rw [risesAt, getD_get hlt, getD_get hlt1, hq]; simp [hr, hk0])
       have hr2 : xs[k] ≤ xs[k - 1] := by omega
       generalize xs[k] = y at hc hq hr hr2
       generalize xs[k - 1] = y1 at hc1 hr hr2
       go_wp2
       go_quiet (first | (go_at_call 32; exact quiet_left (l1In _ _ _ _)))
       go_wp2
       go_ret
       exact ⟨by rw [HF.out, HS.out]; rfl, bdN EW.out _⟩
   ·
    have hltz : ¬ (k : Int) < (xs.length : Int) := by omega
    have he : k = xs.length := by omega
    have HE := Lib.hid he
    clear he
    go_wp2
    go_ret
    refine ⟨?_, EW.out⟩
    have h1 := AN.out
    rw [HE.out] at h1
    rw [HF.out, h1]; rfl
end Go.Proofs.Ytjieilicjdoaaaa

/- The reference's ExpOk, l2Flows, l2Task, NetOk compute the plain functions. -/
namespace Go.Proofs.Ytjieilicjdoaaaa
open Go.RowKit


set_option maxRecDepth 100000 in
set_option maxHeartbeats 2000000 in
theorem l2Flows (x : GTask) (A1 : Option Addr) (c1 : Nat) (A2 : Option Addr) (c2 : Nat) (A3 : Option Addr) (c3 : Nat) (m : Option Nat) (places : Int) (w : World) (hx : Rows flowC m w w.heap.size A2 x.out) (hp : 2 ≤ places ∧ places ≤ 8) :
  Calls Try.prog 88 #[.agg #[.int .i64 x.join, .int .i64 x.split, .slice A1 x.inn.length c1, .slice A2 x.out.length c2, .slice A3 x.clear.length c3, .int .i64 x.role, .int .i64 x.apart, .int .i64 x.all, .int .i64 x.need], .int .i64 places] w (Says (.bool (flowsOk x places)) w) := by
 have hlen := hx.1
 have HX := Lib.hid hx
 clear hx
 cases h : inB x.out.length 1 3 with
 | false =>
  have HF : Hid (flowsOk x places = false) := by show _ = _; simp [flowsOk, h]
  go_enter Try.func88, Try.ntmps88
  go_wp2_with (go_at_call 32; refine (l1In _ _ _ _).mono ?_; rintro e w' ⟨rfl, rfl⟩)
  go_ret
  exact ⟨by rw [HF.out]; rfl, by go_grown⟩
 | true =>
  have hl3 := (inB_iff.1 h).2
  have HF : Hid (flowsOk x places = allTo (flowAt x places) x.out.length) := by show _ = _; simp [flowsOk, h]
  go_enter Try.func88, Try.ntmps88
  go_wp2_with fail
  refine callsAt fun W hW => ?_
  have b0 : Bk W w.heap.size 99 #[.int .i64 x.join, .int .i64 x.split, .slice A1 x.inn.length c1, .slice A2 x.out.length c2, .slice A3 x.clear.length c3, .int .i64 x.role, .int .i64 x.apart, .int .i64 x.all, .int .i64 x.need] := by rw [hW]; exact Bk.new rfl
  have hB : Below w.heap.size w W := by rw [hW]; go_grown
  clear hW
  refine (l1In _ _ _ _).mono ?_; rintro e w' ⟨rfl, rfl⟩
  have B0 := Lib.hid b0
  have HB := Lib.hid hB
  have X0 := Lib.hid (HX.out.later hB)
  clear b0 hB
  go_wp2
  clear h
  go_loopg [5, 6, 7, 8] x.out.length (fun gg s5 _ _ _ wr => ∃ k : Nat, k ≤ x.out.length ∧ x.out.length - k ≤ gg ∧ s5 = .int .i64 k ∧ Aside (Below W.heap.size W wr) ∧ Aside (allTo (flowAt x places) k = true))
  case atStart => exact ⟨0, Nat.zero_le _, by omega, rfl, Below.refl _ _, rfl⟩
  case round =>
   obtain ⟨k, hk, hg, rfl, EW, AN⟩ := hrel
   have k0 := fun i => (B0.out.later EW.out).cell i
   by_cases hlt : k < x.out.length
   ·
    have hltz : (k : Int) < (x.out.length : Int) := by omega
    obtain ⟨b, off, rfl, hb, hc0, hc1, hc2, hc3⟩ := flow_at (X0.out.later EW.out) hlt
    have HAt : Hid (flowAt x places k = (inB x.out[k].to 1 (places - 1) && (askOk x.out[k].ask && (((decide (k + 1 = x.out.length) || decide (x.split = 1)) == (x.out[k].ask.op == 0)) && !(x.out.take k).any fun g => decide (g.to = x.out[k].to))))) := by
     show _ = _
     unfold flowAt
     rw [getD_get hlt]
     rfl
    generalize x.out[k] = f at hc0 hc1 hc2 hc3 HAt
    obtain ⟨fto, fop, fvar, fk⟩ := f
    go_upto_region 7 with fail
    generalize hV : wr.alloc _ = V
    have bV : Bk V w.heap.size 99 #[.int .i64 x.join, .int .i64 x.split, .slice A1 x.inn.length c1, .slice (some ⟨b, off, none⟩) x.out.length c2, .slice A3 x.clear.length c3, .int .i64 x.role, .int .i64 x.apart, .int .i64 x.all, .int .i64 x.need] := by rw [← hV]; exact (B0.out.later EW.out).alloc _
    have fV : Bk V wr.heap.size 102 #[.int .i64 fto, .int .i64 fop, .int .i64 fvar, .int .i64 fk] := by rw [← hV]; exact Bk.new rfl
    have EV := Lib.hid (EW.out.trans (by rw [← hV]; exact ((Below.refl _ _).alloc EW.out.size _)) : Below W.heap.size W V)
    clear hV k0 hc0 hc1 hc2 hc3
    have BV := Lib.hid bV
    have FV := Lib.hid fV
    have kV := fun i => bV.cell i
    have kF := fun i => fV.cell i
    clear bV fV
    generalize hL : (decide (k + 1 = x.out.length) || decide (x.split = 1)) = last at HAt
    have HL := Lib.hid hL
    clear hL
    go_cut [7] from 14 to 70 (fun s7 wx => s7 = .bool last ∧ wx = V)
    case first =>
     by_cases hl : k + 1 = x.out.length
     ·
      have b1 : ((k : Int) == (x.out.length : Int) - 1) = true := by simp; omega
      have HL2 : Hid (last = true) := by show _ = _; rw [← HL.out]; simp [hl]
      clear hl
      go_wp2
      go_meet
      case rel => exact ⟨by rw [HL2.out], rfl⟩
     ·
      have b1 : ((k : Int) == (x.out.length : Int) - 1) = false := by simp; omega
      have HL2 : Hid (last = (x.split == 1)) := by show _ = _; rw [← HL.out]; simp [hl]; rfl
      clear hl
      go_wp2
      go_meet
      case rel => exact ⟨by rw [HL2.out], rfl⟩
    case rest =>
     obtain ⟨rfl, hwc⟩ := hcut
     have hwc' := hwc.symm
     clear hwc
     subst hwc'
     cases q1 : inB fto 1 (places - 1) with
     | false =>
      have HS : Hid (allTo (flowAt x places) x.out.length = false) := allTo_fail hlt (by rw [HAt.out]; simp [q1])
      go_wp2_with (go_at_call 32; refine (l1In _ _ _ _).mono ?_; rintro e w' ⟨rfl, rfl⟩)
      go_ret
      exact ⟨by rw [HF.out, HS.out]; rfl, HB.out.trans (EV.out.mono HB.out.size)⟩
     | true =>
      go_wp2_with (go_at_call 32; refine (l1In _ _ _ _).mono ?_; rintro e w' ⟨rfl, rfl⟩)
      refine (spec_ExpOk ⟨fop, fvar, fk⟩ V).mono ?_
      rintro e V2 ⟨rfl, hb2⟩
      have BV2 := Lib.hid (BV.out.later hb2)
      have FV2 := Lib.hid (FV.out.later hb2)
      have EV2 := Lib.hid (EV.out.trans (hb2.mono EV.out.size))
      have kV := fun i => BV2.out.cell i
      have kF := fun i => FV2.out.cell i
      clear hb2
      cases q2 : askOk ⟨fop, fvar, fk⟩ with
      | false =>
       have HS : Hid (allTo (flowAt x places) x.out.length = false) := allTo_fail hlt (by rw [HAt.out]; simp [q2])
       go_wp2
       go_ret
       exact ⟨by rw [HF.out, HS.out]; rfl, HB.out.trans (EV2.out.mono HB.out.size)⟩
      | true =>
       by_cases q3 : last = (fop == 0)
       ·
        have b3 : (last != (fop == 0)) = false := by rw [q3]; simp
        have HA2 : Hid (flowAt x places k = !((x.out.take k).any fun g => decide (g.to = fto))) := by
         show _ = _
         rw [HAt.out, q1, q2, q3]; simp
        subst q3
        go_wp2
        clear q1 q2
        have X2 := Lib.hid (X0.out.later EV2.out)
        go_loopg [8] k (fun gg s8 wr2 => ∃ j : Nat, j ≤ k ∧ k - j ≤ gg ∧ s8 = .int .i64 j ∧ Aside (Below V2.heap.size V2 wr2) ∧ Aside (((x.out.take j).any fun g => decide (g.to = fto)) = false))
        case atStart => exact ⟨0, Nat.zero_le _, by omega, rfl, Below.refl _ _, by show (List.any (x.out.take 0) _) = false; simp⟩
        case round =>
         obtain ⟨j, hj, hgj, rfl, EJ, AJ⟩ := hrel
         clear kV kF
         have kV := fun i => (BV2.out.later EJ.out).cell i
         have kF := fun i => (FV2.out.later EJ.out).cell i
         by_cases hjk : j < k
         ·
          have hjkz : (j : Int) < (k : Int) := by omega
          have hjl : j < x.out.length := by omega
          have hjlz : (j : Int) < (x.out.length : Int) := by omega
          obtain ⟨b', off', hA', hb', hd0, hd1, hd2, hd3⟩ := flow_at (X2.out.later EJ.out) hjl
          cases hA'
          have HM := Lib.hid (any_split (fun g : GFlow => decide (g.to = fto)) x.out j hjl AJ.out)
          have HH : Hid (x.out[j].to = fto → ((x.out.take k).any fun g => decide (g.to = fto)) = true) := fun h => List.any_eq_true.2 ⟨x.out[j], by
           rw [List.mem_take_iff_getElem]
           exact ⟨j, by omega, rfl⟩, by simpa using h⟩
          generalize x.out[j] = y at hd0 hd1 hd2 hd3 HM HH
          clear hd1 hd2 hd3
          by_cases hq : y.to = fto
          ·
           have hqb : (y.to == fto) = true := by simp [hq]
           have HS : Hid (allTo (flowAt x places) x.out.length = false) := allTo_fail hlt (by rw [HA2.out, HH.out hq]; rfl)
           clear hq
           go_wp2
           go_quiet (fail)
           go_wp2
           go_ret
           exact ⟨by rw [HF.out, HS.out]; rfl, HB.out.trans (bdN (EV2.out.trans (EJ.out.mono EV2.out.size)) _ |>.mono HB.out.size)⟩
          ·
           have hqb : (y.to == fto) = false := by simp [hq]
           have HS : Hid (((x.out.take (j + 1)).any fun g => decide (g.to = fto)) = false) := HM.out.trans (by simp [hq])
           clear hq
           go_wp2
           go_quiet (fail)
           go_wp2
           go_roundg (k - (j + 1))
           case measure => omega
           case rel => exact ⟨j + 1, by omega, by omega, by go_num, bdN EJ.out _, HS.out⟩
         ·
          have hjkz : ¬ (j : Int) < (k : Int) := by omega
          have hej : j = k := by omega
          have HS : Hid (allTo (flowAt x places) (k + 1) = true) := allTo_step AN.out (by rw [HA2.out, ← hej, AJ.out]; rfl)
          clear hej
          go_wp2
          go_roundg (x.out.length - (k + 1))
          case measure => omega
          case rel => exact ⟨k + 1, by omega, by omega, by go_num, EV2.out.trans (EJ.out.mono EV2.out.size), HS.out⟩
       ·
        have b3 : (last != (fop == 0)) = true := by
         exact bne_ne q3
        have HS : Hid (allTo (flowAt x places) x.out.length = false) := allTo_fail hlt (by
         rw [HAt.out]
         have : (last == (fop == 0)) = false := beq_ne q3
         simp only [this]; simp)
        have q4 : last = !(fop == 0) := bool_ne q3
        clear q3 b3
        cases q5 : (fop == 0) with
        | true =>
         rw [q5] at q4
         subst q4
         go_wp2
         go_ret
         exact ⟨by rw [HF.out, HS.out]; rfl, HB.out.trans (EV2.out.mono HB.out.size)⟩
        | false =>
         rw [q5] at q4
         subst q4
         go_wp2
         go_ret
         exact ⟨by rw [HF.out, HS.out]; rfl, HB.out.trans (EV2.out.mono HB.out.size)⟩
   ·
    have hltz : ¬ (k : Int) < (x.out.length : Int) := by omega
    have he : k = x.out.length := by omega
    have HE := Lib.hid he
    clear he
    go_wp2
    go_ret
    refine ⟨?_, HB.out.trans (EW.out.mono HB.out.size)⟩
    have h1 := AN.out
    rw [HE.out] at h1
    rw [HF.out, h1]; rfl

set_option maxRecDepth 100000 in
set_option maxHeartbeats 2000000 in
theorem l2Task (x : GTask) (cs : List Value) (m : Option Nat) (places tasks : Int) (w : World) (hx : taskC.R m w w.heap.size x cs) (hp : 2 ≤ places ∧ places ≤ 8) (ht : 1 ≤ tasks ∧ tasks ≤ 6) :
  Calls Try.prog 76 #[.agg cs.toArray, .int .i64 places, .int .i64 tasks] w (Says (.bool (taskOk x places tasks)) w) := by
 obtain ⟨A1, c1, A2, c2, A3, c3, rfl, h1, h2, h3⟩ := hx
 have n1 := h1.1
 have n2 := h2.1
 have n3 := h3.1
 have H1 := Lib.hid h1.ints
 have H2 := Lib.hid h2
 have H3 := Lib.hid h3.ints
 clear h1 h2 h3
 generalize hT : taskOk x places tasks = T
 have HT := Lib.hid hT
 clear hT
 unfold taskOk at HT
 have bad : ∀ w', Below w.heap.size w w' → T = false → Says (.bool T) w (.returned (.bool false)) w' := fun w' hb h => ⟨by rw [h], hb⟩
 have BAD := Lib.hid bad
 clear bad
 go_enter Try.func76, Try.ntmps76
 go_wp2_with fail
 refine callsAt fun W hW => ?_
 have b0 : Bk W w.heap.size 99 #[.int .i64 x.join, .int .i64 x.split, .slice A1 x.inn.length c1, .slice A2 x.out.length c2, .slice A3 x.clear.length c3, .int .i64 x.role, .int .i64 x.apart, .int .i64 x.all, .int .i64 x.need] := by rw [hW]; exact Bk.new rfl
 have hB : Below w.heap.size w W := by rw [hW]; go_grown
 clear hW
 have B0 := Lib.hid b0
 have HB := Lib.hid hB
 have k0 := fun i => b0.cell i
 clear hB b0
 refine (l1In _ _ _ _).mono ?_; rintro e w' ⟨rfl, rfl⟩
 cases q1 : inB x.join 1 3 with
 | false =>
  go_wp2
  go_ret
  exact BAD.out _ HB.out (by rw [← HT.out, q1]; rfl)
 | true =>
 go_wp2_with fail
 refine (l1In _ _ _ _).mono ?_; rintro e w' ⟨rfl, rfl⟩
 cases q2 : inB x.split 1 3 with
 | false =>
  go_wp2
  go_ret
  exact BAD.out _ HB.out (by rw [← HT.out, q1, q2]; rfl)
 | true =>
 go_wp2_with fail
 refine (l2Rises _ _ x.inn _ _ _ _ _ (H1.out.later HB.out)).mono ?_; rintro e w2 ⟨rfl, hb2⟩
 have B2 := Lib.hid (B0.out.later hb2)
 have HB2 := Lib.hid (HB.out.trans (hb2.mono HB.out.size))
 clear hb2 k0
 have k0 := fun i => B2.out.cell i
 cases q3 : rises x.inn 1 3 0 (places - 1) with
 | false =>
  go_wp2
  go_ret
  exact BAD.out _ HB2.out (by rw [← HT.out, q1, q2, q3]; rfl)
 | true =>
 go_wp2_with fail
 refine (l2Has _ _ x.inn _ _ _ (H1.out.later HB2.out)).mono ?_; rintro e w' ⟨rfl, rfl⟩
 cases q4 : (x.inn.any fun y => decide (y = 1)) with
 | true =>
  go_wp2
  go_ret
  exact BAD.out _ HB2.out (by rw [← HT.out, q1, q2, q3, q4]; rfl)
 | false =>
 go_wp2_with fail
 refine (l2Flows x A1 c1 A2 c2 A3 c3 m places _ (H2.out.later HB2.out) hp).mono ?_; rintro e w3 ⟨rfl, hb3⟩
 have B3 := Lib.hid (B2.out.later hb3)
 have HB3 := Lib.hid (HB2.out.trans (hb3.mono HB2.out.size))
 clear hb3 k0
 have k0 := fun i => B3.out.cell i
 cases q5 : flowsOk x places with
 | false =>
  go_wp2
  go_ret
  exact BAD.out _ HB3.out (by rw [← HT.out, q1, q2, q3, q4, q5]; rfl)
 | true =>
 go_wp2_with fail
 refine (l2Rises _ _ x.clear _ _ _ _ _ (H3.out.later HB3.out)).mono ?_; rintro e w4 ⟨rfl, hb4⟩
 have B4 := Lib.hid (B3.out.later hb4)
 have HB4 := Lib.hid (HB3.out.trans (hb4.mono HB3.out.size))
 clear hb4 k0
 have k0 := fun i => B4.out.cell i
 cases q6 : rises x.clear 0 places 2 (places - 1) with
 | false =>
  go_wp2
  go_ret
  exact BAD.out _ HB4.out (by rw [← HT.out, q1, q2, q3, q4, q5, q6]; rfl)
 | true =>
 go_wp2_with fail
 refine (l1In _ _ _ _).mono ?_; rintro e w' ⟨rfl, rfl⟩
 cases q7 : inB x.role 1 3 with
 | false =>
  go_wp2
  go_ret
  exact BAD.out _ HB4.out (by rw [← HT.out, q1, q2, q3, q4, q5, q6, q7]; rfl)
 | true =>
 go_wp2_with fail
 refine (l1In _ _ _ _).mono ?_; rintro e w' ⟨rfl, rfl⟩
 cases q8 : inB x.apart (-1) (tasks - 1) with
 | false =>
  go_wp2
  go_ret
  exact BAD.out _ HB4.out (by rw [← HT.out, q1, q2, q3, q4, q5, q6, q7, q8]; rfl)
 | true =>
 go_wp2_with fail
 refine (l1In _ _ _ _).mono ?_; rintro e w' ⟨rfl, rfl⟩
 cases q9 : inB x.all 1 3 with
 | false =>
  go_wp2
  go_ret
  exact BAD.out _ HB4.out (by rw [← HT.out, q1, q2, q3, q4, q5, q6, q7, q8, q9]; rfl)
 | true =>
 go_wp2_with fail
 refine (l1In _ _ _ _).mono ?_; rintro e w' ⟨rfl, rfl⟩
 go_wp2
 go_ret
 exact ⟨by rw [← HT.out, q1, q2, q3, q4, q5, q6, q7, q8, q9]; rfl, HB4.out⟩

theorem all_step {α : Type} (p : α → Bool) (xs : List α) (k : Nat) (hk : k < xs.length) : (xs.take (k + 1)).all p = ((xs.take k).all p && p xs[k]) := by
 rw [List.take_succ_eq_append_getElem hk, List.all_append]; simp
theorem all_false {α : Type} (p : α → Bool) (xs : List α) (k : Nat) (hk : k < xs.length) (h : p xs[k] = false) : xs.all p = false := by
 rw [Bool.eq_false_iff]
 intro ha
 rw [List.all_eq_true] at ha
 rw [ha _ (List.getElem_mem hk)] at h
 cases h

set_option maxRecDepth 100000 in
set_option maxHeartbeats 2000000 in
theorem spec_NetOk (x : GNet) (cs : List Value) (m : Option Nat) (w : World) (hx : netC.R m w w.heap.size x cs) :
  Calls Try.prog 69 #[.agg cs.toArray] w (Says (.bool (netOk x)) w) := by
 obtain ⟨A, c, rfl, h1⟩ := hx
 have n1 := h1.1
 have H1 := Lib.hid h1
 clear h1
 cases q1 : inB x.places 2 8 with
 | false =>
  have HF : Hid (netOk x = false) := by show _ = _; simp [netOk, q1]
  go_enter Try.func69, Try.ntmps69
  go_wp2_with (go_at_call 32; refine (l1In _ _ _ _).mono ?_; rintro e w' ⟨rfl, rfl⟩)
  go_ret
  exact ⟨by rw [HF.out]; rfl, by go_grown⟩
 | true =>
  cases q2 : inB x.tasks.length 1 6 with
  | false =>
   have HF : Hid (netOk x = false) := by show _ = _; simp [netOk, q2]
   go_enter Try.func69, Try.ntmps69
   go_wp2_with (go_at_call 32; refine (l1In _ _ _ _).mono ?_; rintro e w' ⟨rfl, rfl⟩)
   go_ret
   exact ⟨by rw [HF.out]; rfl, by go_grown⟩
  | true =>
   have hp := inB_iff.1 q1
   have ht := inB_iff.1 q2
   have HF : Hid (netOk x = x.tasks.all fun t => taskOk t x.places x.tasks.length) := by show _ = _; simp [netOk, q1, q2]
   go_enter Try.func69, Try.ntmps69
   go_wp2_with fail
   refine callsAt fun W hW => ?_
   have b0 : Bk W w.heap.size 75 #[.int .i64 x.places, .slice A x.tasks.length c] := by rw [hW]; exact Bk.new rfl
   have hB : Below w.heap.size w W := by rw [hW]; go_grown
   clear hW
   have B0 := Lib.hid b0
   have HB := Lib.hid hB
   have k0 := fun i => b0.cell i
   have X0 := Lib.hid (H1.out.later hB)
   clear b0 hB
   refine (l1In _ _ _ _).mono ?_; rintro e w' ⟨rfl, rfl⟩
   go_wp2_with (go_at_call 32; refine (l1In _ _ _ _).mono ?_; rintro e w' ⟨rfl, rfl⟩)
   clear q1 q2
   go_loopg [3] x.tasks.length (fun gg s3 wr => ∃ k : Nat, k ≤ x.tasks.length ∧ x.tasks.length - k ≤ gg ∧ s3 = .int .i64 k ∧ Aside (Below W.heap.size W wr) ∧ Aside ((x.tasks.take k).all (fun t => taskOk t x.places x.tasks.length) = true))
   case atStart => exact ⟨0, Nat.zero_le _, by omega, rfl, Below.refl _ _, by show List.all (x.tasks.take 0) _ = true; simp⟩
   case round =>
    obtain ⟨k, hk, hg, rfl, EW, AN⟩ := hrel
    clear k0
    have k0 := fun i => (B0.out.later EW.out).cell i
    by_cases hlt : k < x.tasks.length
    ·
     have hltz : (k : Int) < (x.tasks.length : Int) := by omega
     obtain ⟨b, off, A1, c1, A2, c2, A3, c3, rfl, hb, hR, d0, d1, d2, d3, d4, d5, d6, d7, d8⟩ := task_at (X0.out.later EW.out) hlt
     have HR := Lib.hid hR
     clear hR
     have HM := Lib.hid (all_step (fun t => taskOk t x.places x.tasks.length) x.tasks k hlt)
     have HM2 : Hid (taskOk x.tasks[k] x.places x.tasks.length = false → (x.tasks.all fun t => taskOk t x.places x.tasks.length) = false) := fun h => all_false _ _ k hlt h
     generalize x.tasks[k] = t at d0 d1 d2 d3 d4 d5 d6 d7 d8 HR HM HM2
     go_wp2
     go_still_tail 10, (by kernel_rfl)
     change wpList _ _ _ _ _ wr.drew
     have EW1 := Lib.hid (EW.out.drew)
     have HR1 : Hid (Rows intC m wr.drew wr.drew.heap.size A1 t.inn ∧ Rows flowC m wr.drew wr.drew.heap.size A2 t.out ∧ Rows intC m wr.drew wr.drew.heap.size A3 t.clear) :=
      ⟨HR.out.1.below ((Below.refl _ _).drew), HR.out.2.1.below ((Below.refl _ _).drew), HR.out.2.2.below ((Below.refl _ _).drew)⟩
     clear k0 d0 d1 d2 d3 d4 d5 d6 d7 d8
     generalize wr.drew = w2 at EW1 HR1 ⊢
     go_wp2_with fail
     refine (l2Task t _ m x.places x.tasks.length w2 ⟨A1, c1, A2, c2, A3, c3, rfl, HR1.out.1, HR1.out.2.1, HR1.out.2.2⟩ hp ht).mono ?_
     rintro e w3 ⟨rfl, hb3⟩
     have EW3 := Lib.hid (EW1.out.trans (hb3.mono EW1.out.size))
     clear hb3
     cases q : taskOk t x.places x.tasks.length with
     | false =>
      have HS := Lib.hid (HM2.out q)
      go_wp2
      go_ret
      exact ⟨by rw [HF.out, HS.out]; rfl, HB.out.trans (EW3.out.mono HB.out.size)⟩
     | true =>
      have HS : Hid ((x.tasks.take (k + 1)).all (fun t => taskOk t x.places x.tasks.length) = true) := HM.out.trans (by rw [AN.out, q]; rfl)
      go_wp2
      go_roundg (x.tasks.length - (k + 1))
      case measure => omega
      case rel => exact ⟨k + 1, by omega, by omega, by go_num, EW3.out, HS.out⟩
    ·
     have hltz : ¬ (k : Int) < (x.tasks.length : Int) := by omega
     have he : k = x.tasks.length := by omega
     have HE := Lib.hid he
     clear he
     go_wp2
     go_ret
     refine ⟨?_, HB.out.trans (EW.out.mono HB.out.size)⟩
     have h1 := AN.out
     rw [HE.out, List.take_length] at h1
     rw [HF.out, h1]; rfl
end Go.Proofs.Ytjieilicjdoaaaa

/- A map from int to bool that the call itself has made, as the list of what was seen. -/
namespace Go.Proofs.Ytjieilicjdoaaaa
open Go.RowKit

/-- Block b is a map that says true of the numbers of s, and nothing of others. -/
def SeenB (w : World) (b : Nat) (s : List Int) : Prop :=
 ∃ (D : DataW Nat) (n : Nat), w.ownsMap Try.prog 3 (plainElem Try.prog 4) b n D ∧ n ≤ s.length ∧ Maps.IsMap D ∧ ∀ z : Int, D.atKey (.int .i64 z) (.lit (.bool false)) = .lit (.bool (s.contains z))

theorem key_int {z : Int} (h0 : 0 ≤ z) (h1 : z ≤ 100) : keyOf Try.prog 3 (.int .i64 z) = some (.int .i64 z) := by
 have hk := Try.underlying3
 have hw : (Lit.int .i64 z).wf = true := by
  simp only [Lit.wf, Bool.and_eq_true, decide_eq_true_eq]
  have e1 : IntKind.i64.min = -9223372036854775808 := by decide
  have e2 : IntKind.i64.max = 9223372036854775807 := by decide
  rw [e1, e2]
  omega
 simp [keyOf, hk, mapKey, hw]
theorem SeenB.made (w : World) : SeenB (w.alloc (.map #[] 0)) w.heap.size [] :=
 ⟨.map [], 0, World.ownsMap_made w _ _ _, Nat.le_refl _, ⟨[], rfl⟩, fun z => by rfl⟩
theorem SeenB.kept {w w' : World} {b : Nat} {s : List Int} (h : SeenB w b s) (hb : Below w.heap.size w w') : SeenB w' b s := by
 obtain ⟨D, n, h1, h2, h3, h4⟩ := h
 exact ⟨D, n, h1.kept (row := none) ⟨hb.os, hb.tape, hb.output, hb.size, fun k hk _ => hb.block k hk⟩ (by simp), h2, h3, h4⟩
theorem SeenB.lt {w : World} {b : Nat} {s : List Int} (h : SeenB w b s) : b < w.heap.size := by
 obtain ⟨D, n, h1, _⟩ := h
 exact h1.lt
end Go.Proofs.Ytjieilicjdoaaaa

/- The program's ExpOk, ascends, outOk, ok, NetOk compute the plain functions. -/
namespace Go.Proofs.Ytjieilicjdoaaaa
open Go.RowKit

end Go.Proofs.Ytjieilicjdoaaaa

/- The program's outOk computes what the reference's l2Flows does. -/
namespace Go.Proofs.Ytjieilicjdoaaaa
open Go.RowKit

theorem Bk.grown {w w' : World} {g b : Nat} {t : TypeId} {cs : Array Value} (h : Bk w g t cs) (hg : w.grownBy w' (some b)) (hne : g ≠ b) : Bk w' g t cs :=
 (hg.block g h.lt (by simpa using hne)).trans h

theorem flow_few (x : GTask) (places : Int) (hp : places ≤ 8) : ∀ k, k ≤ x.out.length → allTo (flowAt x places) k = true → ((x.out.take k).map GFlow.to).Nodup ∧ ∀ y ∈ (x.out.take k).map GFlow.to, 1 ≤ y ∧ y ≤ (7 : Nat)
 | 0, _, _ => by simp
 | k + 1, hk, h => by
  rw [allTo_succ, Bool.and_eq_true] at h
  obtain ⟨h1, h2⟩ := flow_few x places hp k (by omega) h.1
  have hf := h.2
  unfold flowAt at hf
  rw [getD_get (by omega : k < x.out.length), Bool.and_eq_true, Bool.and_eq_true, Bool.and_eq_true, inB_iff, Bool.not_eq_true', List.any_eq_false] at hf
  rw [List.take_succ_eq_append_getElem (by omega : k < x.out.length), List.map_append]
  refine ⟨List.nodup_append.2 ⟨h1, by simp, fun a ha b hb => ?_⟩, fun y hy => ?_⟩
  ·
   simp only [List.map_cons, List.map_nil, List.mem_singleton] at hb
   subst hb
   rw [List.mem_map] at ha
   obtain ⟨g, hg, rfl⟩ := ha
   intro e
   exact hf.2.2.2 g hg (by simpa using e)
  ·
   rw [List.mem_append] at hy
   rcases hy with hy | hy
   ·
    exact h2 y hy
   ·
    simp only [List.map_cons, List.map_nil, List.mem_singleton] at hy
    subst hy
    have := hf.1
    omega
end Go.Proofs.Ytjieilicjdoaaaa

/- People: PplHas of the program and of the reference compute the same plain function. -/
namespace Go.Proofs.Ytjieilicjdoaaaa
open Go.RowKit

/-- Whether a set of roles holds a role. -/
def hasBit (x role : Int) : Bool := decide (x / 2 ^ (role - 1).toNat % 2 = 1)
def pplHas (xs : List Int) (who role : Int) : Bool := pplOk xs && (inB who 1 xs.length && (inB role 1 3 && hasBit (xs.getD (who - 1).toNat 0) role))

theorem pplOk_bounds {xs : List Int} (h : pplOk xs = true) : 1 ≤ xs.length ∧ xs.length ≤ 4 ∧ ∀ x ∈ xs, 0 ≤ x ∧ x ≤ 7 := by
 simp only [pplOk, Bool.and_eq_true, inB_iff, Bool.not_eq_true', List.any_eq_false] at h
 obtain ⟨⟨h1, h2⟩, h3⟩ := h
 refine ⟨by omega, by omega, fun x hx => ?_⟩
 have := h3 x hx
 cases hq : inB x 0 7 with
 | true => exact inB_iff.1 hq
 | false => simp [hq] at this

theorem spec_PplHas (A : Option Addr) (c : Nat) (xs : List Int) (who role : Int) (w : World) (B : Nat) (hx : Ints w B A xs) :
  Calls Try.prog 83 #[.slice A xs.length c, .int .i64 who, .int .i64 role] w fun e w' => e = .returned (.bool (pplHas xs who role)) ∧ w = w' := by
 have HP := Lib.hid (spec_PplOk A c xs w B hx)
 have HX := Lib.hid hx
 clear hx
 cases h1 : pplOk xs with
 | false =>
  have HF : Hid (pplHas xs who role = false) := by show _ = _; simp [pplHas, h1]
  go_enter Try.func83, Try.ntmps83
  go_wp2_with (go_at_call 82; refine HP.out.mono ?_; rintro e w' ⟨rfl, rfl⟩)
  go_ret
  exact ⟨by rw [HF.out]; rfl, rfl⟩
 | true =>
  have hbd := pplOk_bounds h1
  have HBD := Lib.hid hbd
  clear hbd
  cases h2 : inB who 1 xs.length with
  | false =>
   have HF : Hid (pplHas xs who role = false) := by show _ = _; simp [pplHas, h2]
   go_enter Try.func83, Try.ntmps83
   go_wp2_with (first | (go_at_call 82; refine HP.out.mono ?_; rintro e w' ⟨rfl, rfl⟩) | (go_at_call 32; refine (l1In _ _ _ _).mono ?_; rintro e w' ⟨rfl, rfl⟩))
   go_ret
   exact ⟨by rw [HF.out]; rfl, rfl⟩
  | true =>
   cases h3 : inB role 1 3 with
   | false =>
    have HF : Hid (pplHas xs who role = false) := by show _ = _; simp [pplHas, h3]
    go_enter Try.func83, Try.ntmps83
    go_wp2_with (first | (go_at_call 82; refine HP.out.mono ?_; rintro e w' ⟨rfl, rfl⟩) | (go_at_call 32; refine (l1In _ _ _ _).mono ?_; rintro e w' ⟨rfl, rfl⟩))
    go_ret
    exact ⟨by rw [HF.out]; rfl, rfl⟩
   | true =>
    have hl4 := HBD.out.2.1
    have hw := inB_iff.1 h2
    have hr := inB_iff.1 h3
    obtain ⟨k, rfl⟩ : ∃ k : Nat, who = (k : Int) + 1 := ⟨(who - 1).toNat, by omega⟩
    have hlt : k < xs.length := by omega
    have hltz : (k : Int) < (xs.length : Int) := by omega
    obtain ⟨b, off, rfl, hbB, hc⟩ := HX.out.at_ hlt
    have hxk := HBD.out.2.2 xs[k] (List.getElem_mem hlt)
    have HF : Hid (pplHas xs ((k : Int) + 1) role = hasBit xs[k] role) := by
     show _ = _
     simp [pplHas, h1, h2, h3, hlt]
    generalize xs[k] = x at hc hxk HF
    obtain ⟨hx0, hx7⟩ := hxk
    have hr' : role = 1 ∨ role = 2 ∨ role = 3 := by omega
    clear hw hr
    rcases hr' with rfl | rfl | rfl
    all_goals
     go_enter Try.func83, Try.ntmps83
     go_wp2_with (first | (go_at_call 82; refine HP.out.mono ?_; rintro e w' ⟨rfl, rfl⟩) | (go_at_call 32; refine (l1In _ _ _ _).mono ?_; rintro e w' ⟨rfl, rfl⟩))
     go_rounds 3
     go_ret
     refine ⟨?_, rfl⟩
     rw [HF.out]
     have hx' : x = 0 ∨ x = 1 ∨ x = 2 ∨ x = 3 ∨ x = 4 ∨ x = 5 ∨ x = 6 ∨ x = 7 := by omega
     clear hc HP HX HF
     rcases hx' with rfl | rfl | rfl | rfl | rfl | rfl | rfl | rfl <;> rfl

end Go.Proofs.Ytjieilicjdoaaaa

