/- Nets measured. -/
import Derived.Test.YtkkjljpokannkaaCopyTask
import Derived.Deep.RegionHeld3
import Derived.Outline
namespace Go.Proofs.Ytkkjljpokannkaa
open Go.RowKit

/-- What measuring a task leaves. -/
def SizedT (x : GTask) (left : Int) (w : World) (e : Ending) (w' : World) : Prop :=
  ∃ v : Int, e = .returned (.int .i64 v) ∧ -1 ≤ v ∧ v ≤ left ∧ (0 ≤ v → taskFit x) ∧ Below w.heap.size w w'

set_option maxHeartbeats 1000000 in
theorem laws_szNetTask (x : GTask) (A2 A3 A4 : Option Addr) (c2 c3 c4 : Nat) (left : Int) (h0 : 0 ≤ left) (h1 : left ≤ 1048576) (n2 : x.inn.length ≤ 9223372036854775807) (n3 : x.out.length ≤ 9223372036854775807) (n4 : x.clear.length ≤ 9223372036854775807) (w : World) :
    Calls Try.prog 28 #[.agg #[.int .i64 x.join, .int .i64 x.split, .slice A2 x.inn.length c2, .slice A3 x.out.length c3, .slice A4 x.clear.length c4, .int .i64 x.role, .int .i64 x.apart, .int .i64 x.all, .int .i64 x.need], .int .i64 left] w (SizedT x left w) := by
  have l2 := szOf_le (n := x.inn.length) h0
  by_cases q2 : szOf x.inn.length left < 0
  · go_enter Try.func28, Try.ntmps28
    go_wp2_with (go_at_call 109; refine (laws_szIntS _ _ _ _ (by omega) (by omega) (by omega) _).mono ?_; rintro e w' ⟨rfl, rfl⟩)
    go_ret
    exact ⟨-1, rfl, by omega, by omega, fun h => by omega, by go_grown⟩
  · have P2 := Lib.hid (szOf_pos q2)
    have l3 := szOf_le (n := x.out.length) (left := szOf x.inn.length left) (by omega)
    by_cases q3 : szOf x.out.length (szOf x.inn.length left) < 0
    · go_enter Try.func28, Try.ntmps28
      go_wp2_with (first | (go_at_call 109; refine (laws_szIntS _ _ _ _ (by omega) (by omega) (by omega) _).mono ?_; rintro e w' ⟨rfl, rfl⟩) | (go_at_call 110; refine (laws_szNetFlowS _ _ _ _ (by omega) (by omega) (by omega) _).mono ?_; rintro e w' ⟨rfl, rfl⟩))
      go_ret
      exact ⟨-1, rfl, by omega, by omega, fun h => by omega, by go_grown⟩
    · have P3 := Lib.hid (szOf_pos q3)
      have l4 := szOf_le (n := x.clear.length) (left := szOf x.out.length (szOf x.inn.length left)) (by omega)
      by_cases q4 : szOf x.clear.length (szOf x.out.length (szOf x.inn.length left)) < 0
      · go_enter Try.func28, Try.ntmps28
        go_wp2_with (first | (go_at_call 109; refine (laws_szIntS _ _ _ _ (by omega) (by omega) (by omega) _).mono ?_; rintro e w' ⟨rfl, rfl⟩) | (go_at_call 110; refine (laws_szNetFlowS _ _ _ _ (by omega) (by omega) (by omega) _).mono ?_; rintro e w' ⟨rfl, rfl⟩))
        go_ret
        exact ⟨-1, rfl, by omega, by omega, fun h => by omega, by go_grown⟩
      · have P4 := Lib.hid (szOf_pos q4)
        go_enter Try.func28, Try.ntmps28
        go_wp2_with (first | (go_at_call 109; refine (laws_szIntS _ _ _ _ (by omega) (by omega) (by omega) _).mono ?_; rintro e w' ⟨rfl, rfl⟩) | (go_at_call 110; refine (laws_szNetFlowS _ _ _ _ (by omega) (by omega) (by omega) _).mono ?_; rintro e w' ⟨rfl, rfl⟩))
        go_ret
        have p2 := P2.out
        have p3 := P3.out
        have p4 := P4.out
        exact ⟨_, rfl, by omega, by omega, fun _ => ⟨by omega, by omega, by omega⟩, by go_grown⟩

/-- What measuring tasks leaves. -/
def SizedTs (xs : List GTask) (w : World) (e : Ending) (w' : World) : Prop :=
  ∃ v : Int, e = .returned (.int .i64 v) ∧ -1 ≤ v ∧ v ≤ 1048576 ∧ (0 ≤ v → xs.length ≤ 1048576 ∧ ∀ x ∈ xs, taskFit x) ∧ Below w.heap.size w w'

set_option maxHeartbeats 1000000 in
theorem laws_szNetTaskS (A : Option Addr) (c : Nat) (xs : List GTask) (m : Option Nat) (left : Int) (hl0 : -1 ≤ left) (hl1 : left ≤ 1048576) (w : World) (hx : Rows taskC m w w.heap.size A xs) :
    Calls Try.prog 145 #[.slice A xs.length c, .int .i64 left] w (SizedTs xs w) := by
  have hlen := hx.1
  have HX := Lib.hid hx
  clear hx
  by_cases h : left - xs.length < 0
  · go_enter Try.func145, Try.ntmps145
    go_wp2
    go_ret
    exact ⟨-1, rfl, by omega, by omega, fun h => by omega, Below.refl _ _⟩
  · go_enter Try.func145, Try.ntmps145
    go_wp2
    go_loopg [1, 5] xs.length (fun gg s1 s5 wr => ∃ (k : Nat) (l : Int), k ≤ xs.length ∧ xs.length - k ≤ gg ∧ s5 = .int .i64 k ∧ s1 = .int .i64 l ∧ 0 ≤ l ∧ l ≤ 1048576 ∧ Aside (∀ x ∈ xs.take k, taskFit x) ∧ Aside (Below w.heap.size w wr))
    case atStart => exact ⟨0, left - xs.length, Nat.zero_le _, by omega, rfl, rfl, by omega, by omega, by show ∀ x ∈ xs.take 0, _; simp, Below.refl _ _⟩
    case round =>
      obtain ⟨k, l, hk, hg, rfl, rfl, hl0, hl1, SM, BW⟩ := hrel
      by_cases hlt : k < xs.length
      · have hltz : (k : Int) < (xs.length : Int) := by omega
        obtain ⟨b, off, A2, c2, A3, c3, A4, c4, rfl, hb, ⟨hr2, hr3, hr4⟩, hc0, hc1, hc2, hc3, hc4, hc5, hc6, hc7, hc8⟩ := task_at HX.out hlt
        have hd0 := (BW.out.cell (p := ⟨b, off + k * 9, none⟩) (by show b < w.heap.size; omega)).trans hc0
        have hd1 := (BW.out.cell (p := ⟨b, off + k * 9 + 1, none⟩) (by show b < w.heap.size; omega)).trans hc1
        have hd2 := (BW.out.cell (p := ⟨b, off + k * 9 + 2, none⟩) (by show b < w.heap.size; omega)).trans hc2
        have hd3 := (BW.out.cell (p := ⟨b, off + k * 9 + 3, none⟩) (by show b < w.heap.size; omega)).trans hc3
        have hd4 := (BW.out.cell (p := ⟨b, off + k * 9 + 4, none⟩) (by show b < w.heap.size; omega)).trans hc4
        have hd5 := (BW.out.cell (p := ⟨b, off + k * 9 + 5, none⟩) (by show b < w.heap.size; omega)).trans hc5
        have hd6 := (BW.out.cell (p := ⟨b, off + k * 9 + 6, none⟩) (by show b < w.heap.size; omega)).trans hc6
        have hd7 := (BW.out.cell (p := ⟨b, off + k * 9 + 7, none⟩) (by show b < w.heap.size; omega)).trans hc7
        have hd8 := (BW.out.cell (p := ⟨b, off + k * 9 + 8, none⟩) (by show b < w.heap.size; omega)).trans hc8
        have hn2 := hr2.1
        have hn3 := hr3.1
        have hn4 := hr4.1
        clear hc0 hc1 hc2 hc3 hc4 hc5 hc6 hc7 hc8 hr2 hr3 hr4
        have HY : Hid (xs.take (k + 1) = xs.take k ++ [xs[k]]) := List.take_succ_eq_append_getElem hlt
        generalize xs[k] = y at hd0 hd1 hd2 hd3 hd4 hd5 hd6 hd7 hd8 HY hn2 hn3 hn4
        go_wp2_with fail
        refine (laws_szNetTask y _ _ _ _ _ _ _ hl0 hl1 hn2 hn3 hn4 _).mono ?_
        rintro e w1 ⟨v, rfl, hv0, hv1, hv2, hb1⟩
        have HB1 := Lib.hid hb1
        have HV := Lib.hid hv2
        clear hb1 hv2
        by_cases q : v < 0
        · go_wp2
          go_ret
          exact ⟨-1, rfl, by omega, by omega, fun h => by omega, BW.out.trans (HB1.out.mono BW.out.size)⟩
        · go_wp2
          go_roundg (xs.length - (k + 1))
          case measure => omega
          case rel =>
            refine ⟨k + 1, v, by omega, by omega, by go_num, rfl, by omega, by omega, ?_, BW.out.trans (HB1.out.mono BW.out.size)⟩
            show ∀ x ∈ xs.take (k + 1), taskFit x
            rw [HY.out]
            intro x hx
            rcases List.mem_append.1 hx with h1 | h1
            · exact SM.out x h1
            · rw [List.mem_singleton.1 h1]; exact HV.out (by omega)
      · have hltz : ¬ (k : Int) < (xs.length : Int) := by omega
        have he : k = xs.length := by omega
        have HE := Lib.hid he
        clear he
        go_wp2
        go_ret
        refine ⟨l, rfl, by omega, hl1, fun _ => ⟨by omega, fun x hx => SM.out x ?_⟩, BW.out⟩
        rw [HE.out, List.take_length]; exact hx

/-- What measuring a net leaves. -/
def SizedN (x : GNet) (w : World) (e : Ending) (w' : World) : Prop :=
  ∃ v : Int, e = .returned (.int .i64 v) ∧ -1 ≤ v ∧ v ≤ 1048576 ∧ (0 ≤ v → x.tasks.length ≤ 1048576 ∧ ∀ y ∈ x.tasks, taskFit y) ∧ Below w.heap.size w w'

set_option maxHeartbeats 1000000 in
theorem laws_szNetNet (x : GNet) (A : Option Addr) (c : Nat) (m : Option Nat) (left : Int) (hl0 : -1 ≤ left) (hl1 : left ≤ 1048576) (w : World) (hx : Rows taskC m w w.heap.size A x.tasks) :
    Calls Try.prog 67 #[.agg #[.int .i64 x.places, .slice A x.tasks.length c], .int .i64 left] w (SizedN x w) := by
  have HX := Lib.hid hx
  clear hx
  go_enter Try.func67, Try.ntmps67
  go_wp2_with fail
  refine callsAt fun W0 hW0 => ?_
  have hB : Below w.heap.size w W0 := by rw [hW0]; go_grown
  clear hW0
  refine (laws_szNetTaskS A c x.tasks m left hl0 hl1 _ (HX.out.later hB)).mono ?_
  rintro e w1 ⟨v, rfl, hv0, hv1, hv2, hb1⟩
  have HB1 := Lib.hid (hB.trans (hb1.mono hB.size))
  have HV := Lib.hid hv2
  clear hb1 hv2 hB
  by_cases q : v < 0
  · go_wp2
    go_ret
    exact ⟨-1, rfl, by omega, by omega, fun h => by omega, HB1.out⟩
  · go_wp2
    go_ret
    exact ⟨v, rfl, by omega, by omega, HV.out, HB1.out⟩
end Go.Proofs.Ytkkjljpokannkaa
