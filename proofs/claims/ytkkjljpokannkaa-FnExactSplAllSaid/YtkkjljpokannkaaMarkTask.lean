/- A task marked: its copy's slices are turned, and nothing else. -/
import Derived.Test.YtkkjljpokannkaaNetAt
namespace Go.Proofs.Ytkkjljpokannkaa
open Go.RowKit

set_option maxRecDepth 100000 in
set_option maxHeartbeats 1000000 in
theorem laws_markNetTask (x : GTask) (A1 A2 A3 : Option Addr) (c1 c2 c3 : Nat) (k : Int) (w : World) (lo hi : Nat)
    (h1 : Rows intC (some lo) w hi A1 x.inn) (h2 : Rows flowC (some lo) w hi A2 x.out) (h3 : Rows intC (some lo) w hi A3 x.clear) (hw : hi ≤ w.heap.size) (hf : taskFit x) (hk0 : 0 ≤ k) (hk : k ≤ 10000000) :
    Calls Try.prog 34 #[.agg #[.int .i64 x.join, .int .i64 x.split, .slice A1 x.inn.length c1, .slice A2 x.out.length c2, .slice A3 x.clear.length c3, .int .i64 x.role, .int .i64 x.apart, .int .i64 x.all, .int .i64 x.need], .int .i64 k] w fun e w' => (∃ v : Int, e = .returned (.int .i64 v) ∧ 0 ≤ v ∧ v ≤ 9000000000000) ∧ InsideG lo hi w w' := by
  have H1 : Hid (0 < x.inn.length → _) := fun hn => ints_at h1 hn
  have H2 : Hid (0 < x.out.length → _) := fun hn => flows_at h2 hn
  have H3 : Hid (0 < x.clear.length → _) := fun hn => ints_at h3 hn
  obtain ⟨f1, f2, f3⟩ := hf
  clear h1 h2 h3
  go_enter Try.func34, Try.ntmps34
  go_wp2_with fail
  refine callsAt fun W hW => ?_
  have hB : Below w.heap.size w W := by rw [hW]; exact (Below.refl _ _).alloc (Nat.le_refl _) _
  have P : Hid (Bk W w.heap.size 42 #[.int .i64 x.join, .int .i64 x.split, .slice A1 x.inn.length c1, .slice A2 x.out.length c2, .slice A3 x.clear.length c3, .int .i64 x.role, .int .i64 x.apart, .int .i64 x.all, .int .i64 x.need]) := by show Bk _ _ _ _; rw [hW]; exact Bk.new rfl
  have HB := Lib.hid hB
  have at_ : ∀ (W' : World) (A : Option Addr) (n m : Nat), (0 < n → ∃ g off, A = some ⟨g, off, none⟩ ∧ IntAt w g off m ∧ lo ≤ g ∧ g < hi) → (∀ g o q, IntAt W g o q → IntAt W' g o q) → 0 < n → ∃ g off, A = some ⟨g, off, none⟩ ∧ IntAt W' g off m ∧ lo ≤ g ∧ g < hi := fun W' A n m h hk hn => by
    obtain ⟨g, off, hA, hi', hlo, hhi⟩ := h hn
    exact ⟨g, off, hA, hk _ _ _ (hi'.later hB (by omega)), hlo, hhi⟩
  have HA := Lib.hid at_
  have kP := fun i => P.out.cell i
  clear hW hB at_
  refine (mark_ints A1 c1 x.inn.length k W lo hi (HA.out W A1 _ _ H1.out (fun _ _ _ h => h)) (by omega) hk0 (by omega)).mono ?_
  rintro e w1 ⟨rfl, in1, kk1⟩
  have I1 := Lib.hid in1
  have K1 := Lib.hid kk1
  have P1 : Hid (Bk w1 w.heap.size 42 #[.int .i64 x.join, .int .i64 x.split, .slice A1 x.inn.length c1, .slice A2 x.out.length c2, .slice A3 x.clear.length c3, .int .i64 x.role, .int .i64 x.apart, .int .i64 x.all, .int .i64 x.need]) := (in1.block w.heap.size (.inr hw)).trans P.out
  clear in1 kk1 kP
  have kP := fun i => P1.out.cell i
  go_wp2_with fail
  clear kP
  refine (mark_flows A2 c2 x.out.length _ w1 lo hi (HA.out w1 A2 _ _ H2.out K1.out) (by omega) (by omega) (by omega)).mono ?_
  rintro e w2 ⟨rfl, in2, kk2⟩
  have I2 := Lib.hid (I1.out.trans in2)
  have K2 := Lib.hid (fun g o q h => kk2 g o q (K1.out g o q h))
  have P2 : Hid (Bk w2 w.heap.size 42 #[.int .i64 x.join, .int .i64 x.split, .slice A1 x.inn.length c1, .slice A2 x.out.length c2, .slice A3 x.clear.length c3, .int .i64 x.role, .int .i64 x.apart, .int .i64 x.all, .int .i64 x.need]) := (in2.block w.heap.size (.inr hw)).trans P1.out
  clear in2 kk2
  have kP := fun i => P2.out.cell i
  go_wp2_with fail
  clear kP
  refine (mark_ints A3 c3 x.clear.length _ w2 lo hi (HA.out w2 A3 _ _ H3.out K2.out) (by omega) (by omega) (by omega)).mono ?_
  rintro e w3 ⟨rfl, in3, kk3⟩
  have I3 := Lib.hid (I2.out.trans in3)
  clear in3 kk3
  go_wp2
  go_ret
  refine ⟨⟨_, rfl, by omega, by omega⟩, ⟨I3.out.os.trans HB.out.os, I3.out.tape.trans HB.out.tape, I3.out.output.trans HB.out.output, by rw [I3.out.size]; exact HB.out.size, fun b hb ho => (I3.out.block b ho).trans (HB.out.block b hb)⟩⟩
end Go.Proofs.Ytkkjljpokannkaa
