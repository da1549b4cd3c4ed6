/- The people of whom something holds: impl.persons. -/
import Derived.Test.YtkkjljpokannkaaPpl
import Derived.Test.YtkkjljpokannkaaMarks
namespace Go.Proofs.Ytkkjljpokannkaa
open Go.RowKit

/-- What a function that hands back a new slice of ints leaves. -/
def GivesInts (out : List Int) (w : World) (e : Ending) (w' : World) : Prop := ∃ v, e = .returned v ∧ OwnV w' w.heap.size v out ∧ Below w.heap.size w w'

def personsTo (p : Int → Bool) (k : Nat) : List Int := ((List.range k).map fun i => ((i : Nat) : Int) + 1).filter p
theorem personsTo_yes {p : Int → Bool} {k : Nat} (h : p ((k : Int) + 1) = true) : personsTo p (k + 1) = personsTo p k ++ [(k : Int) + 1] := by
  simp [personsTo, List.range_succ, h]
theorem personsTo_no {p : Int → Bool} {k : Nat} (h : p ((k : Int) + 1) = false) : personsTo p (k + 1) = personsTo p k := by
  simp [personsTo, List.range_succ, h]
theorem personsTo_len (p : Int → Bool) (k : Nat) : (personsTo p k).length ≤ k := by
  unfold personsTo
  exact Nat.le_trans (List.length_filter_le _ _) (by simp)
/-- The people of whom something holds; none, if the people are not valid. -/
def personsOf (xs : List Int) (p : Int → Bool) : List Int := if pplOk xs = true then personsTo p xs.length else []

set_option maxHeartbeats 400000 in
theorem impl_persons (g : Nat) (lb : Array Value) (p : Int → Bool) (eg : ∀ args w, (callFunc g args).run Try.prog w = .ok (.enter g args) w)
    (A : Option Addr) (c : Nat) (xs : List Int) (w : World) (hp : PredInt g lb p w) (hx : Ints w w.heap.size A xs) :
    Calls Try.prog 99 #[.slice A xs.length c, .func (.func g) #[] lb] w (GivesInts (personsOf xs p) w) := by
  have HK := Lib.hid (impl_PplOk A c xs w hx)
  have HP := Lib.hid hp
  clear hx hp
  cases h1 : pplOk xs with
  | false =>
    have HF : Hid (personsOf xs p = []) := by show _ = _; simp [personsOf, h1]
    go_enter Try.func99, Try.ntmps99
    go_wp2_with (go_at_call 134; refine HK.out.mono ?_; rintro e w' ⟨rfl, hb⟩)
    go_ret
    exact ⟨_, rfl, by rw [HF.out]; exact OwnV.nil _ _, hb⟩
  | true =>
    have HF : Hid (personsOf xs p = personsTo p xs.length) := by show _ = _; simp [personsOf, h1]
    have hl4 := (pplOk_bounds h1).2.1
    go_enter Try.func99, Try.ntmps99
    go_wp2_with (go_at_call 134; refine HK.out.mono ?_; rintro e w0 ⟨rfl, hb0⟩; have HB0 := Lib.hid hb0; clear hb0)
    clear h1
    go_loopg [5, 6, 12] xs.length (fun gg s5 _ s12 wr => ∃ k : Nat, k ≤ xs.length ∧ xs.length - k ≤ gg ∧ s12 = .int .i64 k ∧ Aside (Below w.heap.size w wr) ∧ Aside (OwnV wr w.heap.size s5 (personsTo p k)))
    case atStart => exact ⟨0, Nat.zero_le _, by omega, rfl, HB0.out, OwnV.nil _ _⟩
    case round =>
      obtain ⟨k, hk, hg, rfl, BW, OW⟩ := hrel
      by_cases hlt : k < xs.length
      · have hltz : (k : Int) < (xs.length : Int) := by omega
        have hcall := HP.out _ ((k : Int) + 1) BW.out
        have hpl := personsTo_len p k
        cases hq : p ((k : Int) + 1) with
        | true =>
          rw [hq] at hcall
          have HE := Lib.hid (personsTo_yes hq)
          clear hq
          go_wp2_with (first
            | (go_at_fn g; refine hcall.mono ?_; rintro e w1 ⟨rfl, hb1⟩; have HB1 := Lib.hid hb1; have HS := Lib.hid (BW.out.trans (hb1.mono BW.out.size)); clear hb1)
            | (at_builtin; refine append_int rfl (.tmp 19) (.tmp 22) rfl w.heap.size _ _ rfl ((OW.out.later HB1.out).alloc _) w1.heap.size ((k : Int) + 1) rfl (by simp) (by omega) (by have := HS.out.size; simp; omega) ?_; intro v' w2 hown2 hb2; have HO2 := Lib.hid hown2; have HB2 := Lib.hid hb2; clear hown2 hb2))
          go_roundg (xs.length - (k + 1))
          case measure => omega
          case rel => exact ⟨k + 1, by omega, by omega, by go_num, (HS.out.alloc HS.out.size _).trans HB2.out, by show OwnV _ _ _ _; rw [HE.out]; exact HO2.out⟩
        | false =>
          rw [hq] at hcall
          have HE := Lib.hid (personsTo_no hq)
          clear hq
          go_wp2_with (go_at_fn g; refine hcall.mono ?_; rintro e w1 ⟨rfl, hb1⟩; have HB1 := Lib.hid hb1; have HS := Lib.hid (BW.out.trans (hb1.mono BW.out.size)); clear hb1)
          go_roundg (xs.length - (k + 1))
          case measure => omega
          case rel => exact ⟨k + 1, by omega, by omega, by go_num, HS.out, by show OwnV _ _ _ _; rw [HE.out]; exact OW.out.later HB1.out⟩
      · have hltz : ¬ (k : Int) < (xs.length : Int) := by omega
        have he : k = xs.length := by omega
        have HE := Lib.hid he
        clear he
        go_wp2
        go_ret
        refine ⟨_, rfl, ?_, BW.out⟩
        rw [HF.out, ← HE.out]
        exact OW.out

theorem personsOf_len (xs : List Int) (p : Int → Bool) : (personsOf xs p).length ≤ 4 := by
  unfold personsOf
  split
  · rename_i h
    exact Nat.le_trans (personsTo_len p _) (pplOk_bounds h).2.1
  · simp
end Go.Proofs.Ytkkjljpokannkaa
