/- A new case: its marks and its data lie in two blocks of their own, nothing is under way or done; marked by a count, and asked for its marks. -/
import Derived.Test.YtkoaaagmcjjimaaMarkCase
import Derived.Test.YtkoaaagmcjjimaaMarkOwn
namespace Go.Proofs.Ytkoaaagmcjjimaa
open Go.RowKit
set_option linter.unusedVariables false
set_option linter.unusedSimpArgs false

/-- Marks and data in two blocks of their own, from base on and below hi. -/
def NewAt (w : World) (base hi : Nat) (A1 : Option Addr) (ms : List Int) (A3 : Option Addr) (d : List Int) : Prop :=
  ∃ g1 g3, (base ≤ g1 ∧ g1 < hi ∧ base ≤ g3 ∧ g3 < hi ∧ g1 ≠ g3 ∧ hi ≤ w.heap.size) ∧ (0 < ms.length → A1 = some ⟨g1, 0, none⟩ ∧ Wr w g1 3 (iv ms)) ∧ (0 < d.length → A3 = some ⟨g3, 0, none⟩ ∧ Wr w g3 3 (iv d))
section
variable {w w' : World} {base hi : Nat} {A1 A3 : Option Addr} {ms d : List Int}
theorem NewAt.later (h : NewAt w base hi A1 ms A3 d) (hb : Below w.heap.size w w') : NewAt w' base hi A1 ms A3 d := by
  obtain ⟨g1, g3, ⟨a, b, c, e, f, i⟩, h1, h3⟩ := h
  have := hb.size
  exact ⟨g1, g3, ⟨a, b, c, e, f, by omega⟩, fun h0 => ⟨(h1 h0).1, (h1 h0).2.later hb⟩, fun h0 => ⟨(h3 h0).1, (h3 h0).2.later hb⟩⟩
theorem NewAt.inG {lo' hi' : Nat} (h : NewAt w base hi A1 ms A3 d) (hi'' : InsideG lo' hi' w w') (hh : hi' ≤ base) : NewAt w' base hi A1 ms A3 d := by
  obtain ⟨g1, g3, ⟨a, b, c, e, f, i⟩, h1, h3⟩ := h
  have := hi''.size
  exact ⟨g1, g3, ⟨a, b, c, e, f, by omega⟩, fun h0 => ⟨(h1 h0).1, (h1 h0).2.keep (hi''.block g1 (by omega) (.inr (by omega)))⟩, fun h0 => ⟨(h3 h0).1, (h3 h0).2.keep (hi''.block g3 (by omega) (.inr (by omega)))⟩⟩
theorem NewAt.marks (h : NewAt w base hi A1 ms A3 d) (hl : ms.length ≤ 9223372036854775807) : Ints w w.heap.size A1 ms := by
  obtain ⟨g1, g3, _, h1, h3⟩ := h
  exact ⟨hl, fun h0 => by
    obtain ⟨hA, hw⟩ := h1 h0
    subst hA
    exact (hw.ints hw.lt hl).2 h0⟩
theorem NewAt.data (h : NewAt w base hi A1 ms A3 d) (hl : d.length ≤ 9223372036854775807) : Ints w w.heap.size A3 d := by
  obtain ⟨g1, g3, _, h1, h3⟩ := h
  exact ⟨hl, fun h0 => by
    obtain ⟨hA, hw⟩ := h3 h0
    subst hA
    exact (hw.ints hw.lt hl).2 h0⟩
end

theorem held_items_nil (k : Int) (w : World) (hk0 : 0 ≤ k) (hk : k ≤ 4611686018427387904) :
    Calls Try.prog 153 #[.slice none 0 0, .int .i64 k] w fun e w' => e = .returned (.int .i64 k) ∧ w = w' := by
  go_enter Try.func153, Try.ntmps153
  go_wp2
  go_loopg [1, 5] 0 (fun gg s1 s5 wr => s1 = .int .i64 k ∧ s5 = .int .i64 0 ∧ Aside (w = wr))
  case atStart => exact ⟨rfl, rfl, rfl⟩
  case round =>
    obtain ⟨rfl, rfl, EW⟩ := hrel
    obtain rfl := EW.out
    go_wp2
    go_ret
    exact ⟨rfl, rfl⟩

set_option maxHeartbeats 1000000 in
theorem mark_new (st : Int) (A1 A3 : Option Addr) (c1 c3 : Nat) (ms d : List Int) (k : Int) (w : World) (base hi : Nat) (h : NewAt w base hi A1 ms A3 d) (l1 : ms.length ≤ 1048576) (l3 : d.length ≤ 1048576) (hk0 : 0 ≤ k) (hk : k ≤ 1000) :
    Calls Try.prog 75 #[.agg #[.int .i64 st, .slice A1 ms.length c1, .slice none 0 0, .slice A3 d.length c3, .slice none 0 0], .int .i64 k] w
      fun e w' => e = .returned (.int .i64 (k + ms.length + d.length)) ∧ NewAt w' base hi A1 (seqI k ms.length) A3 (seqI (k + ms.length) d.length) ∧ InsideG base hi w w' := by
  obtain ⟨g1, g3, ⟨o1, o2, o3, o4, o5, o6⟩, h1, h3⟩ := h
  have H1 := Lib.hid h1
  have H3 := Lib.hid h3
  clear h1 h3
  go_enter Try.func75, Try.ntmps75
  go_wp2_with fail
  refine callsAt fun W hW => ?_
  have b0 : Bk W w.heap.size 63 #[.int .i64 st, .slice A1 ms.length c1, .slice none 0 0, .slice A3 d.length c3, .slice none 0 0] := by rw [hW]; exact Bk.new rfl
  have hB : Below w.heap.size w W := by rw [hW]; exact (Below.refl _ _).alloc (Nat.le_refl _) _
  clear hW
  refine (laws_markIntS_own A1 c1 ms k W g1 (g1 + 1) (fun h0 => ⟨g1, (H1.out h0).1, Nat.le_refl _, (H1.out h0).2.later hB⟩) (fun h0 g hg => by rw [(H1.out h0).1] at hg; cases hg; omega) (by omega) hk0 (by omega)).mono ?_
  rintro e w1 ⟨rfl, ow1, in1⟩
  have bB1 : Bk w1 w.heap.size 63 _ := (in1.block w.heap.size (.inr (by omega))).trans b0
  have B1 := Lib.hid bB1
  clear bB1
  have O1 := Lib.hid ow1
  have I1 := Lib.hid in1
  have HB := Lib.hid hB
  clear ow1 in1 b0 hB
  have kk := fun i => B1.out.cell i
  go_wp2_with fail
  clear kk
  refine (mark_items none 0 0 _ w1 0 0 (fun hn => absurd hn (by simp)) (by omega) (by omega) (by omega)).mono ?_
  rintro e w2 ⟨rfl, in2, _⟩
  have hw2 : w2.heap.size = w1.heap.size ∧ ∀ b : Nat, w2.heap[b]? = w1.heap[b]? := ⟨in2.size, fun b => in2.block b (.inr (by omega))⟩
  have I2 := Lib.hid in2
  have bB2 : Bk w2 w.heap.size 63 _ := (in2.block w.heap.size (.inr (by omega))).trans B1.out
  have B2 := Lib.hid bB2
  clear bB2
  clear in2
  have W2 := Lib.hid hw2
  clear hw2
  have kk := fun i => B2.out.cell i
  go_wp2_with fail
  clear kk
  refine (laws_markIntS_own A3 c3 d _ w2 g3 (g3 + 1) (fun h0 => ⟨g3, (H3.out h0).1, Nat.le_refl _, (((H3.out h0).2.later HB.out).keep (I1.out.block g3 (by omega))).keep (W2.out.2 g3)⟩) (fun h0 g hg => by rw [(H3.out h0).1] at hg; cases hg; omega) (by omega) (by omega) (by omega)).mono ?_
  rintro e w3 ⟨rfl, ow3, in3⟩
  have bB3 : Bk w3 w.heap.size 63 _ := (in3.block w.heap.size (.inr (by omega))).trans B2.out
  have B3 := Lib.hid bB3
  clear bB3
  have O3 := Lib.hid ow3
  have I3 := Lib.hid in3
  clear ow3 in3
  have kk := fun i => B3.out.cell i
  go_wp2_with fail
  clear kk
  refine (mark_dids none 0 0 _ w3 0 0 (fun hn => absurd hn (by simp)) (by omega) (by omega) (by omega)).mono ?_
  rintro e w4 ⟨rfl, in4, _⟩
  have I4 := Lib.hid in4
  clear in4
  go_wp2
  go_ret
  have s1 : W.heap.size ≤ w4.heap.size := by rw [I4.out.size, I3.out.size, I2.out.size, I1.out.size]; exact Nat.le_refl _
  have s0 := HB.out.size
  refine ⟨by simp, ⟨g1, g3, ⟨o1, o2, o3, o4, o5, by omega⟩, fun h0 => ?_, fun h0 => ?_⟩, ⟨?_, ?_, ?_, by omega, fun b hb ho => ?_⟩⟩
  · rw [seqI_len] at h0
    obtain ⟨g, hg, _, hw⟩ := O1.out (by rw [seqI_len]; exact h0)
    have e1 := (H1.out h0).1
    rw [e1] at hg
    cases hg
    exact ⟨e1, ((hw.keep (W2.out.2 g1)).keep (I3.out.block g1 (by omega))).keep (I4.out.block g1 (.inr (by omega)))⟩
  · rw [seqI_len] at h0
    obtain ⟨g, hg, _, hw⟩ := O3.out (by rw [seqI_len]; exact h0)
    have e1 := (H3.out h0).1
    rw [e1] at hg
    cases hg
    refine ⟨e1, ?_⟩
    have hh := hw.keep (I4.out.block g3 (.inr (by omega)))
    simpa using hh
  · exact I4.out.os.trans (I3.out.os.trans (I2.out.os.trans (I1.out.os.trans HB.out.os)))
  · exact I4.out.tape.trans (I3.out.tape.trans (I2.out.tape.trans (I1.out.tape.trans HB.out.tape)))
  · exact I4.out.output.trans (I3.out.output.trans (I2.out.output.trans (I1.out.output.trans HB.out.output)))
  · exact (I4.out.block b (.inr (by omega))).trans ((I3.out.block b (by omega)).trans ((W2.out.2 b).trans ((I1.out.block b (by omega)).trans (HB.out.block b hb))))

set_option maxHeartbeats 1000000 in
theorem held_new (st : Int) (A1 A3 : Option Addr) (c1 c3 n m : Nat) (k : Int) (w : World) (base hi : Nat) (h : NewAt w base hi A1 (seqI k n) A3 (seqI (k + n) m)) (l1 : n ≤ 1048576) (l3 : m ≤ 1048576) (hk0 : 0 ≤ k) (hk : k ≤ 1000) :
    Calls Try.prog 76 #[.agg #[.int .i64 st, .slice A1 n c1, .slice none 0 0, .slice A3 m c3, .slice none 0 0], .int .i64 k] w
      fun e w' => e = .returned (.int .i64 (k + n + m)) ∧ Below w.heap.size w w' := by
  have H1 := Lib.hid (h.marks (by rw [seqI_len]; omega))
  have H3 := Lib.hid (h.data (by rw [seqI_len]; omega))
  clear h
  go_enter Try.func76, Try.ntmps76
  go_wp2_with fail
  refine callsAt fun W hW => ?_
  have b0 : Bk W w.heap.size 63 #[.int .i64 st, .slice A1 n c1, .slice none 0 0, .slice A3 m c3, .slice none 0 0] := by rw [hW]; exact Bk.new rfl
  have hB : Below w.heap.size w W := by rw [hW]; exact (Below.refl _ _).alloc (Nat.le_refl _) _
  clear hW
  have B0 := Lib.hid b0
  have HB := Lib.hid hB
  clear b0 hB
  have kk := fun i => B0.out.cell i
  have n0 : ¬ (k + (n : Int) < 0) := by omega
  have n1 : ¬ (k + (n : Int) + (m : Int) < 0) := by omega
  refine (laws_heldIntS A1 c1 n k W w.heap.size (H1.out.below HB.out) (by omega) hk0 (by omega)).mono ?_
  rintro e w' ⟨rfl, rfl⟩
  go_wp2_with fail
  refine (held_items_nil _ W (by omega) (by omega)).mono ?_
  rintro e w' ⟨rfl, rfl⟩
  go_wp2_with fail
  refine (laws_heldIntS A3 c3 m _ W w.heap.size (H3.out.below HB.out) (by omega) (by omega) (by omega)).mono ?_
  rintro e w' ⟨rfl, rfl⟩
  go_wp2_with fail
  have hd := held_dids none 0 0 (k + n + m) W 0 (fun h0 => by rw [seqI_len] at h0; omega) (by omega) (by omega) (by omega)
  refine hd.mono ?_
  rintro e w' ⟨he, rfl⟩
  obtain rfl : e = .returned (.int .i64 (k + n + m)) := by rw [he]; simp
  go_wp2
  go_ret
  exact ⟨rfl, HB.out⟩
theorem eq_new (y : GCase) (hy : y.busy = [] ∧ y.did = []) (A1 A1' A3 A3' : Option Addr) (c1 c1' c3 c3' : Nat) (w : World) (h1 : Ints w w.heap.size A1 y.marks) (h1' : Ints w w.heap.size A1' y.marks) (h3 : Ints w w.heap.size A3 y.data) (h3' : Ints w w.heap.size A3' y.data) :
    Calls Try.prog 70 #[.agg #[.int .i64 y.state, .slice A1 y.marks.length c1, .slice none 0 0, .slice A3 y.data.length c3, .slice none 0 0], .agg #[.int .i64 y.state, .slice A1' y.marks.length c1', .slice none 0 0, .slice A3' y.data.length c3', .slice none 0 0]] w fun e w' => e = .returned (.bool true) ∧ Below w.heap.size w w' := by
  have h := laws_eqCasCase y A1 A1' none none A3 A3' none none c1 c1' 0 0 c3 c3' 0 0 none none w h1.rows h1'.rows (by rw [hy.1]; exact Rows.nil) (by rw [hy.1]; exact Rows.nil) h3.rows h3'.rows (by rw [hy.2]; exact Rows.nil) (by rw [hy.2]; exact Rows.nil)
  rw [hy.1, hy.2] at h
  exact h
/-- Marks and data that lie somewhere below S. -/
def WantN (S : Nat) (A1 : Option Addr) (ms : List Int) (A3 : Option Addr) (d : List Int) (w : World) : Prop := S ≤ w.heap.size ∧ Ints w S A1 ms ∧ Ints w S A3 d
theorem WantN.later {S : Nat} {A1 A3 : Option Addr} {ms d : List Int} {w w' : World} (h : WantN S A1 ms A3 d w) (hb : Below w.heap.size w w') : WantN S A1 ms A3 d w' := ⟨Nat.le_trans h.1 hb.size, h.2.1.below (hb.mono h.1), h.2.2.below (hb.mono h.1)⟩
theorem WantN.inG {S lo hi : Nat} {A1 A3 : Option Addr} {ms d : List Int} {w w' : World} (h : WantN S A1 ms A3 d w) (hi' : InsideG lo hi w w') (hS : S ≤ lo) : WantN S A1 ms A3 d w' := ⟨Nat.le_trans h.1 hi'.size, h.2.1.below (hi'.below hS h.1), h.2.2.below (hi'.below hS h.1)⟩
end Go.Proofs.Ytkoaaagmcjjimaa
