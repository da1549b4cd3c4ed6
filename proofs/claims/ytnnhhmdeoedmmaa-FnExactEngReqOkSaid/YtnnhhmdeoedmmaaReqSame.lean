/- Comparing two requests: both sides. -/
import Derived.Test.YtnnhhmdeoedmmaaEngReq
import Derived.Test.YtnnhhmdeoedmmaaSlEq
namespace Go.Proofs.Ytnnhhmdeoedmmaa
open Go.RowKit
set_option linter.unusedSimpArgs false

/-- Two requests are the same, but for their data. -/
def sameF (x y : GReq) : Bool := (x.kind == y.kind) && ((x.a1 == y.a1) && ((x.a2 == y.a2) && ((x.a3 == y.a3) && ((x.a4 == y.a4) && ((x.a5 == y.a5) && ((x.ask.op == y.ask.op && (x.ask.var == y.ask.var && x.ask.k == y.ask.k)) && ((x.ans == y.ans))))))))
theorem sameF_of {x y : GReq} {a b : Bool} (h : sameF x y = a) (h2 : a = b) : sameF x y = b := h.trans h2

set_option maxHeartbeats 2000000 in
theorem impl_same (x y : GReq) (A A' : Option Addr) (c c' : Nat) (w : World) (hx : Ints w w.heap.size A x.data) (hy : Ints w w.heap.size A' y.data) :
    Calls Try.prog 89 #[.agg (x.cells A c).toArray, .agg (y.cells A' c').toArray] w (Says (.bool (sameF x y && decide (x.data = y.data))) w) := by
  show Calls Try.prog 89 #[.agg #[.int .i64 x.kind, .int .i64 x.a1, .int .i64 x.a2, .int .i64 x.a3, .int .i64 x.a4, .int .i64 x.a5, .slice A x.data.length c, .int .i64 x.ask.op, .int .i64 x.ask.var, .int .i64 x.ask.k, .int .i64 x.ans], .agg #[.int .i64 y.kind, .int .i64 y.a1, .int .i64 y.a2, .int .i64 y.a3, .int .i64 y.a4, .int .i64 y.a5, .slice A' y.data.length c', .int .i64 y.ask.op, .int .i64 y.ask.var, .int .i64 y.ask.k, .int .i64 y.ans]] w _
  have HX := Lib.hid hx
  have HY := Lib.hid hy
  have he := fun a b c d e f w => eqAsk a b c d e f w
  have hg := fun op o p x y w => guardAsk op o p x y w
  clear hx hy
  cases q0 : (x.kind == y.kind) with
  | false =>
    have HF : Hid (sameF x y = false) := by show _ = _; simp only [sameF, q0, Bool.true_and, Bool.and_true, Bool.false_and, Bool.and_false]
    go_enter Try.func89, Try.ntmps89
    go_wp2
    go_ret
    exact ⟨by rw [HF.out]; rfl, by go_grown⟩
  | true =>
    cases q1 : (x.a1 == y.a1) with
    | false =>
      have HF : Hid (sameF x y = false) := by show _ = _; simp only [sameF, q0, q1, Bool.true_and, Bool.and_true, Bool.false_and, Bool.and_false]
      go_enter Try.func89, Try.ntmps89
      go_wp2
      go_ret
      exact ⟨by rw [HF.out]; rfl, by go_grown⟩
    | true =>
      cases q2 : (x.a2 == y.a2) with
      | false =>
        have HF : Hid (sameF x y = false) := by show _ = _; simp only [sameF, q0, q1, q2, Bool.true_and, Bool.and_true, Bool.false_and, Bool.and_false]
        go_enter Try.func89, Try.ntmps89
        go_wp2
        go_ret
        exact ⟨by rw [HF.out]; rfl, by go_grown⟩
      | true =>
        cases q3 : (x.a3 == y.a3) with
        | false =>
          have HF : Hid (sameF x y = false) := by show _ = _; simp only [sameF, q0, q1, q2, q3, Bool.true_and, Bool.and_true, Bool.false_and, Bool.and_false]
          go_enter Try.func89, Try.ntmps89
          go_wp2
          go_ret
          exact ⟨by rw [HF.out]; rfl, by go_grown⟩
        | true =>
          cases q4 : (x.a4 == y.a4) with
          | false =>
            have HF : Hid (sameF x y = false) := by show _ = _; simp only [sameF, q0, q1, q2, q3, q4, Bool.true_and, Bool.and_true, Bool.false_and, Bool.and_false]
            go_enter Try.func89, Try.ntmps89
            go_wp2
            go_ret
            exact ⟨by rw [HF.out]; rfl, by go_grown⟩
          | true =>
            cases q5 : (x.a5 == y.a5) with
            | false =>
              have HF : Hid (sameF x y = false) := by show _ = _; simp only [sameF, q0, q1, q2, q3, q4, q5, Bool.true_and, Bool.and_true, Bool.false_and, Bool.and_false]
              go_enter Try.func89, Try.ntmps89
              go_wp2
              go_ret
              exact ⟨by rw [HF.out]; rfl, by go_grown⟩
            | true =>
              cases q6 : (x.ask.op == y.ask.op && (x.ask.var == y.ask.var && x.ask.k == y.ask.k)) with
              | false =>
                have HF : Hid (sameF x y = false) := by show _ = _; simp only [sameF, q0, q1, q2, q3, q4, q5, q6, Bool.true_and, Bool.and_true, Bool.false_and, Bool.and_false]
                go_enter Try.func89, Try.ntmps89
                go_wp2
                go_ret
                exact ⟨by rw [HF.out]; rfl, by go_grown⟩
              | true =>
                cases q7 : (x.ans == y.ans) with
                | false =>
                  have HF : Hid (sameF x y = false) := by show _ = _; simp only [sameF, q0, q1, q2, q3, q4, q5, q6, q7, Bool.true_and, Bool.and_true, Bool.false_and, Bool.and_false]
                  go_enter Try.func89, Try.ntmps89
                  go_wp2
                  go_ret
                  exact ⟨by rw [HF.out]; rfl, by go_grown⟩
                | true =>
                  have HF : Hid (sameF x y = true) := by show _ = _; simp only [sameF, q0, q1, q2, q3, q4, q5, q6, q7, Bool.true_and]
                  go_enter Try.func89, Try.ntmps89
                  go_wp2_with fail
                  refine (slices_Equal _ _ _ _ x.data y.data _ w.heap.size (HX.out.below (by go_grown)) (HY.out.below (by go_grown))).mono ?_
                  rintro e w2 ⟨rfl, n2, rfl⟩
                  go_wp2
                  go_ret
                  exact ⟨by rw [HF.out]; rfl, bdN (by go_grown) n2⟩

set_option maxHeartbeats 4000000 in
theorem spec_l9Same (x y : GReq) (A A' : Option Addr) (c c' : Nat) (w : World) (hx : Ints w w.heap.size A x.data) (hy : Ints w w.heap.size A' y.data) :
    Calls Try.prog 86 #[.agg (x.cells A c).toArray, .agg (y.cells A' c').toArray] w (Says (.bool (sameF x y && decide (x.data = y.data))) w) := by
  show Calls Try.prog 86 #[.agg #[.int .i64 x.kind, .int .i64 x.a1, .int .i64 x.a2, .int .i64 x.a3, .int .i64 x.a4, .int .i64 x.a5, .slice A x.data.length c, .int .i64 x.ask.op, .int .i64 x.ask.var, .int .i64 x.ask.k, .int .i64 x.ans], .agg #[.int .i64 y.kind, .int .i64 y.a1, .int .i64 y.a2, .int .i64 y.a3, .int .i64 y.a4, .int .i64 y.a5, .slice A' y.data.length c', .int .i64 y.ask.op, .int .i64 y.ask.var, .int .i64 y.ask.k, .int .i64 y.ans]] w _
  have hlx := hx.1
  have hly := hy.1
  have HX := Lib.hid hx
  have HY := Lib.hid hy
  have he := fun a b c d e f w => eqAsk a b c d e f w
  have hg := fun op o p x y w => guardAsk op o p x y w
  have HE := Lib.hid he
  have HG := Lib.hid hg
  clear hx hy he hg
  by_cases hl : x.data.length = y.data.length
  · have hne : ((x.data.length : Int) != (y.data.length : Int)) = false := by simp [hl]
    have HL := Lib.hid hl
    clear hl
    go_enter Try.func86, Try.ntmps86
    go_wp2
    generalize hW : (w.alloc _).alloc _ = W
    have bx : Bk W w.heap.size 64 (x.cells A c).toArray := by rw [← hW]; exact (Bk.new rfl).alloc _
    have by_ : Bk W (w.heap.size + 1) 64 (y.cells A' c').toArray := by rw [← hW]; exact Bk.new (by simp)
    have HB : Hid (Below w.heap.size w W) := by show Below _ _ _; rw [← hW]; go_grown
    clear hW
    have kx := fun i => bx.cell i
    have ky := fun i => by_.cell i
    simp only [GReq.cells] at kx ky
    clear bx by_
    have XW := Lib.hid (HX.out.below HB.out)
    have YW := Lib.hid (HY.out.below HB.out)
    clear HX HY
    go_loopg [5] x.data.length (fun gg s5 wr => ∃ k : Nat, k ≤ x.data.length ∧ x.data.length - k ≤ gg ∧ s5 = .int .i64 k ∧ Aside (∃ n, wr = W.drewN n) ∧ Aside (x.data.take k = y.data.take k))
    case atStart => exact ⟨0, Nat.zero_le _, by omega, rfl, ⟨0, rfl⟩, by show x.data.take 0 = y.data.take 0; simp⟩
    case round =>
      obtain ⟨k, hk, hgg, rfl, DW, TK⟩ := hrel
      obtain ⟨q, rfl⟩ := DW.out
      by_cases hlt : k < x.data.length
      · have hltz : (k : Int) < (x.data.length : Int) := by omega
        have hlt2 : k < y.data.length := by have := HL.out; omega
        have hltz2 : (k : Int) < (y.data.length : Int) := by omega
        have h0 : (0 : Int) ≤ (k : Int) := by omega
        obtain ⟨b, off, rfl, hb, hc⟩ := XW.out.at_ hlt
        obtain ⟨b', off', rfl, hb', hc'⟩ := YW.out.at_ hlt2
        by_cases hee : x.data[k] = y.data[k]
        · have hbe : (x.data[k] != y.data[k]) = false := by simp [hee]
          have HEE := Lib.hid (eq_step hlt HL.out TK.out hee)
          clear hee TK
          generalize x.data[k] = x1 at hc hbe
          generalize y.data[k] = y1 at hc' hbe
          go_wp2
          go_quiet (fail)
          go_wp2
          go_roundg (x.data.length - (k + 1))
          case measure => omega
          case rel => exact ⟨k + 1, by omega, by omega, by go_num, ⟨_, rfl⟩, HEE.out⟩
        · have hbe : (x.data[k] != y.data[k]) = true := by simp [hee]
          have HEE := Lib.hid (eq_miss hlt hlt2 hee)
          clear hee TK
          generalize x.data[k] = x1 at hc hbe
          generalize y.data[k] = y1 at hc' hbe
          go_wp2
          go_quiet (fail)
          go_wp2
          go_ret
          exact ⟨by rw [HEE.out, Bool.and_false]; rfl, bdN (bdN HB.out _) _⟩
      · have hltz : ¬ (k : Int) < (x.data.length : Int) := by omega
        have hkk : k = x.data.length := by omega
        have HD : Hid (decide (x.data = y.data) = true) := by
          have h1 := TK.out
          rw [hkk, List.take_length, HL.out, List.take_length] at h1
          show _ = _
          rw [h1]; simp
        clear hkk TK
        have he := HE.out
        have hg := HG.out
        cases q0 : (x.kind == y.kind) with
        | false =>
          have HF : Hid (sameF x y = false) := by show _ = _; simp only [sameF, q0, Bool.true_and, Bool.and_true, Bool.false_and, Bool.and_false]
          go_wp2
          go_ret
          exact ⟨by rw [HF.out]; rfl, bdN HB.out _⟩
        | true =>
          cases q1 : (x.a1 == y.a1) with
          | false =>
            have HF : Hid (sameF x y = false) := by show _ = _; simp only [sameF, q0, q1, Bool.true_and, Bool.and_true, Bool.false_and, Bool.and_false]
            go_wp2
            go_ret
            exact ⟨by rw [HF.out]; rfl, bdN HB.out _⟩
          | true =>
            cases q2 : (x.a2 == y.a2) with
            | false =>
              have HF : Hid (sameF x y = false) := by show _ = _; simp only [sameF, q0, q1, q2, Bool.true_and, Bool.and_true, Bool.false_and, Bool.and_false]
              go_wp2
              go_ret
              exact ⟨by rw [HF.out]; rfl, bdN HB.out _⟩
            | true =>
              cases q3 : (x.a3 == y.a3) with
              | false =>
                have HF : Hid (sameF x y = false) := by show _ = _; simp only [sameF, q0, q1, q2, q3, Bool.true_and, Bool.and_true, Bool.false_and, Bool.and_false]
                go_wp2
                go_ret
                exact ⟨by rw [HF.out]; rfl, bdN HB.out _⟩
              | true =>
                cases q4 : (x.a4 == y.a4) with
                | false =>
                  have HF : Hid (sameF x y = false) := by show _ = _; simp only [sameF, q0, q1, q2, q3, q4, Bool.true_and, Bool.and_true, Bool.false_and, Bool.and_false]
                  go_wp2
                  go_ret
                  exact ⟨by rw [HF.out]; rfl, bdN HB.out _⟩
                | true =>
                  cases q5 : (x.a5 == y.a5) with
                  | false =>
                    have HF : Hid (sameF x y = false) := by show _ = _; simp only [sameF, q0, q1, q2, q3, q4, q5, Bool.true_and, Bool.and_true, Bool.false_and, Bool.and_false]
                    go_wp2
                    go_ret
                    exact ⟨by rw [HF.out]; rfl, bdN HB.out _⟩
                  | true =>
                    cases q6 : (x.ask.op == y.ask.op && (x.ask.var == y.ask.var && x.ask.k == y.ask.k)) with
                    | false =>
                      have HF : Hid (sameF x y = false) := by show _ = _; simp only [sameF, q0, q1, q2, q3, q4, q5, q6, Bool.true_and, Bool.and_true, Bool.false_and, Bool.and_false]
                      go_wp2
                      go_ret
                      exact ⟨by rw [HF.out]; rfl, bdN HB.out _⟩
                    | true =>
                      cases q7 : (x.ans == y.ans) with
                      | false =>
                        have HF : Hid (sameF x y = false) := by show _ = _; simp only [sameF, q0, q1, q2, q3, q4, q5, q6, q7, Bool.true_and, Bool.and_true, Bool.false_and, Bool.and_false]
                        go_wp2
                        go_ret
                        exact ⟨by rw [HF.out]; rfl, bdN HB.out _⟩
                      | true =>
                        have HF : Hid (sameF x y = true) := by show _ = _; simp only [sameF, q0, q1, q2, q3, q4, q5, q6, q7, Bool.true_and]
                        go_wp2
                        go_ret
                        exact ⟨by rw [HF.out, HD.out]; rfl, bdN HB.out _⟩
  · have hne : ((x.data.length : Int) != (y.data.length : Int)) = true := by simp; omega
    have HD : Hid (decide (x.data = y.data) = false) := by
      show _ = _
      simp only [decide_eq_false_iff_not]
      intro h
      exact hl (by rw [h])
    clear hl
    go_enter Try.func86, Try.ntmps86
    go_wp2
    go_ret
    exact ⟨by rw [HD.out, Bool.and_false]; rfl, by go_grown⟩
end Go.Proofs.Ytnnhhmdeoedmmaa
