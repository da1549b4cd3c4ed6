/- Requests: how a request reads; its own form; comparing two. -/
import Derived.Test.YtnnhhmdeoedmmaaExp
import Derived.Test.YtnnhhmdeoedmmaaInts
namespace Go.Proofs.Ytnnhhmdeoedmmaa
open Go.RowKit

/-- A request. -/
structure GReq where
  kind : Int
  a1 : Int
  a2 : Int
  a3 : Int
  a4 : Int
  a5 : Int
  data : List Int
  ask : GAsk
  ans : Int
def GReq.cells (x : GReq) (A : Option Addr) (c : Nat) : List Value :=
  [.int .i64 x.kind, .int .i64 x.a1, .int .i64 x.a2, .int .i64 x.a3, .int .i64 x.a4, .int .i64 x.a5, .slice A x.data.length c, .int .i64 x.ask.op, .int .i64 x.ask.var, .int .i64 x.ask.k, .int .i64 x.ans]

def reqC : Cod GReq :=
  { k := 11
    R := fun m w B x cs => ∃ A c, cs = x.cells A c ∧ Rows intC m w B A x.data
    keep := fun ⟨A, c, h, h1⟩ ha => ⟨A, c, h, h1.keep ha⟩
    more := fun ⟨A, c, h, h1⟩ hb => ⟨A, c, h, h1.more hb⟩
    weak := fun ⟨A, c, h, h1⟩ hm => ⟨A, c, h, h1.weak hm⟩
    len := fun ⟨_, _, h, _⟩ => by subst h; rfl }

/-- A request with nothing but what its kind bears. -/
def form (x : GReq) : GReq :=
  if x.kind = 1 then ⟨x.kind, 0, 0, 0, 0, 0, x.data, ⟨0, 0, 0⟩, 0⟩
  else if x.kind = 2 then ⟨x.kind, x.a1, x.a2, x.a3, 0, 0, [], ⟨0, 0, 0⟩, 0⟩
  else if x.kind = 3 then ⟨x.kind, 0, x.a2, x.a3, x.a4, x.a5, [], ⟨0, 0, 0⟩, 0⟩
  else if x.kind = 4 then ⟨x.kind, 0, x.a2, 0, 0, 0, [], ⟨0, 0, 0⟩, 0⟩
  else ⟨x.kind, 0, 0, 0, 0, 0, x.data, x.ask, x.ans⟩

/-- What a function hands back that gives a request. -/
def GivesR (y : GReq) (w : World) (e : Ending) (w' : World) : Prop :=
  ∃ A c, e = .returned (.agg (y.cells A c).toArray) ∧ Ints w' w'.heap.size A y.data ∧ Below w.heap.size w w'

theorem kinds {k : Int} (h : 1 ≤ k ∧ k ≤ 5) : k = 1 ∨ k = 2 ∨ k = 3 ∨ k = 4 ∨ k = 5 := by omega

set_option maxHeartbeats 1000000 in
theorem impl_named (x : GReq) (A : Option Addr) (c : Nat) (w : World) (hx : Ints w w.heap.size A x.data) (hk : 1 ≤ x.kind ∧ x.kind ≤ 5) :
    Calls Try.prog 90 #[.agg (x.cells A c).toArray] w (GivesR (form x) w) := by
  obtain ⟨kind, a1, a2, a3, a4, a5, data, ask, ans⟩ := x
  show Calls Try.prog 90 #[.agg #[.int .i64 kind, .int .i64 a1, .int .i64 a2, .int .i64 a3, .int .i64 a4, .int .i64 a5, .slice A data.length c, .int .i64 ask.op, .int .i64 ask.var, .int .i64 ask.k, .int .i64 ans]] w _
  have HX := Lib.hid hx
  clear hx
  rcases kinds hk with h | h | h | h | h
  all_goals (obtain rfl : kind = _ := h)
  all_goals clear hk
  · go_enter Try.func90, Try.ntmps90
    go_wp2
    refine bodyPost_ret (v := .agg #[.int .i64 1, .int .i64 0, .int .i64 0, .int .i64 0, .int .i64 0, .int .i64 0, .slice A data.length c, .int .i64 0, .int .i64 0, .int .i64 0, .int .i64 0]) (by simp [results, Try.results90, go_sem]) rfl ?_
    exact ⟨A, c, rfl, HX.out.later (by go_grown), by go_grown⟩
  · go_enter Try.func90, Try.ntmps90
    go_wp2
    refine bodyPost_ret (v := .agg #[.int .i64 2, .int .i64 a1, .int .i64 a2, .int .i64 a3, .int .i64 0, .int .i64 0, .slice none 0 0, .int .i64 0, .int .i64 0, .int .i64 0, .int .i64 0]) (by simp [results, Try.results90, go_sem]) rfl ?_
    exact ⟨none, 0, rfl, Ints.nil, by go_grown⟩
  · go_enter Try.func90, Try.ntmps90
    go_wp2
    refine bodyPost_ret (v := .agg #[.int .i64 3, .int .i64 0, .int .i64 a2, .int .i64 a3, .int .i64 a4, .int .i64 a5, .slice none 0 0, .int .i64 0, .int .i64 0, .int .i64 0, .int .i64 0]) (by simp [results, Try.results90, go_sem]) rfl ?_
    exact ⟨none, 0, rfl, Ints.nil, by go_grown⟩
  · go_enter Try.func90, Try.ntmps90
    go_wp2
    refine bodyPost_ret (v := .agg #[.int .i64 4, .int .i64 0, .int .i64 a2, .int .i64 0, .int .i64 0, .int .i64 0, .slice none 0 0, .int .i64 0, .int .i64 0, .int .i64 0, .int .i64 0]) (by simp [results, Try.results90, go_sem]) rfl ?_
    exact ⟨none, 0, rfl, Ints.nil, by go_grown⟩
  · go_enter Try.func90, Try.ntmps90
    go_wp2
    refine bodyPost_ret (v := .agg #[.int .i64 5, .int .i64 0, .int .i64 0, .int .i64 0, .int .i64 0, .int .i64 0, .slice A data.length c, .int .i64 ask.op, .int .i64 ask.var, .int .i64 ask.k, .int .i64 ans]) (by simp [results, Try.results90, go_sem]) rfl ?_
    exact ⟨A, c, rfl, HX.out.later (by go_grown), by go_grown⟩
set_option maxHeartbeats 1000000 in
theorem spec_l9Form (x : GReq) (A : Option Addr) (c : Nat) (w : World) (hx : Ints w w.heap.size A x.data) (hk : 1 ≤ x.kind ∧ x.kind ≤ 5) :
    Calls Try.prog 87 #[.agg (x.cells A c).toArray] w (GivesR (form x) w) := by
  obtain ⟨kind, a1, a2, a3, a4, a5, data, ask, ans⟩ := x
  show Calls Try.prog 87 #[.agg #[.int .i64 kind, .int .i64 a1, .int .i64 a2, .int .i64 a3, .int .i64 a4, .int .i64 a5, .slice A data.length c, .int .i64 ask.op, .int .i64 ask.var, .int .i64 ask.k, .int .i64 ans]] w _
  have HX := Lib.hid hx
  clear hx
  rcases kinds hk with h | h | h | h | h
  all_goals (obtain rfl : kind = _ := h)
  all_goals clear hk
  · go_enter Try.func87, Try.ntmps87
    go_wp2
    refine bodyPost_ret (v := .agg #[.int .i64 1, .int .i64 0, .int .i64 0, .int .i64 0, .int .i64 0, .int .i64 0, .slice A data.length c, .int .i64 0, .int .i64 0, .int .i64 0, .int .i64 0]) (by simp [results, Try.results87, go_sem]) rfl ?_
    exact ⟨A, c, rfl, HX.out.later (by go_grown), by go_grown⟩
  · go_enter Try.func87, Try.ntmps87
    go_wp2
    refine bodyPost_ret (v := .agg #[.int .i64 2, .int .i64 a1, .int .i64 a2, .int .i64 a3, .int .i64 0, .int .i64 0, .slice none 0 0, .int .i64 0, .int .i64 0, .int .i64 0, .int .i64 0]) (by simp [results, Try.results87, go_sem]) rfl ?_
    exact ⟨none, 0, rfl, Ints.nil, by go_grown⟩
  · go_enter Try.func87, Try.ntmps87
    go_wp2
    refine bodyPost_ret (v := .agg #[.int .i64 3, .int .i64 0, .int .i64 a2, .int .i64 a3, .int .i64 a4, .int .i64 a5, .slice none 0 0, .int .i64 0, .int .i64 0, .int .i64 0, .int .i64 0]) (by simp [results, Try.results87, go_sem]) rfl ?_
    exact ⟨none, 0, rfl, Ints.nil, by go_grown⟩
  · go_enter Try.func87, Try.ntmps87
    go_wp2
    refine bodyPost_ret (v := .agg #[.int .i64 4, .int .i64 0, .int .i64 a2, .int .i64 0, .int .i64 0, .int .i64 0, .slice none 0 0, .int .i64 0, .int .i64 0, .int .i64 0, .int .i64 0]) (by simp [results, Try.results87, go_sem]) rfl ?_
    exact ⟨none, 0, rfl, Ints.nil, by go_grown⟩
  · go_enter Try.func87, Try.ntmps87
    go_wp2
    refine bodyPost_ret (v := .agg #[.int .i64 5, .int .i64 0, .int .i64 0, .int .i64 0, .int .i64 0, .int .i64 0, .slice A data.length c, .int .i64 ask.op, .int .i64 ask.var, .int .i64 ask.k, .int .i64 ans]) (by simp [results, Try.results87, go_sem]) rfl ?_
    exact ⟨A, c, rfl, HX.out.later (by go_grown), by go_grown⟩
end Go.Proofs.Ytnnhhmdeoedmmaa
