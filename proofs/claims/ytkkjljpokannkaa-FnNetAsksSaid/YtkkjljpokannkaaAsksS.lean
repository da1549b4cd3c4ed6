/- The roles that a net asks for: spec.NetAsks. -/
import Derived.Test.YtkkjljpokannkaaNetSpec
import Derived.Test.YtkkjljpokannkaaAny0
import Derived.Test.YtkkjljpokannkaaMrkOk
import Derived.Test.YtkkjljpokannkaaOwn0
namespace Go.Proofs.Ytkkjljpokannkaa
open Go.RowKit
set_option linter.unusedSimpArgs false
set_option linter.unusedVariables false

def asksR (x : GNet) (r : Int) : Bool := x.tasks.any fun t => t.role == r
/-- The roles that a net asks for, in their order. -/
def asksOf (x : GNet) : List Int := if netOk x = true then personsTo (asksR x) 3 else []
theorem role_take (ts : List GTask) (r : Int) (i : Nat) (hi : i < ts.length) : (ts.take (i + 1)).any (fun t => t.role == r) = ((ts.take i).any (fun t => t.role == r) || (ts[i].role == r)) := by
  rw [List.take_succ_eq_append_getElem hi, List.any_append]
  simp

set_option maxRecDepth 100000 in
set_option maxHeartbeats 2000000 in
theorem spec_NetAsks (x : GNet) (A : Option Addr) (c : Nat) (m : Option Nat) (w : World) (hx : Rows taskC m w w.heap.size A x.tasks) :
    Calls Try.prog 66 #[.agg (netCells x A c)] w (GivesInts (asksOf x) w) := by
  have nx := hx.1
  have HX := Lib.hid hx
  clear hx
  go_enter Try.func66, Try.ntmps66
  go_wp2
  generalize hW : World.alloc (World.alloc w _) _ = W
  have N0 : Hid (Bk W w.heap.size 37 (netCells x A c)) := by show Bk _ _ _ _; rw [← hW]; exact (Bk.new rfl).alloc _
  have B0 : Hid (Below w.heap.size w W) := by show Below _ _ _; rw [← hW]; go_grown
  have O0 : Hid (OwnV W (w.heap.size + 1) (.slice (some ⟨w.heap.size + 1, 0, none⟩) 0 0) []) := by
    show OwnV _ _ _ _
    rw [← hW]
    have h := OwnV.made' (w := World.alloc w (.cells (netCells x A c) 37)) (base := w.heap.size + 1) (by simp)
    simpa using h
  clear hW
  go_loopg [3, 4] 3 (fun gg s3 s4 wr => ∃ k : Nat, k ≤ 3 ∧ 3 - k ≤ gg ∧ s4 = .int .i64 ((k : Int) + 1) ∧ (0 < k → netOk x = true) ∧ Aside (Bk wr w.heap.size 37 (netCells x A c)) ∧ Aside (Below w.heap.size w wr) ∧ Aside (OwnV wr (w.heap.size + 1) s3 (personsTo (asksR x) k)))
  case atStart => exact ⟨0, by omega, by omega, rfl, by omega, N0.out, B0.out, O0.out⟩
  case round =>
    obtain ⟨k, hk, hg, rfl, hnk, NW, BW, OW⟩ := hrel
    by_cases hlt : k < 3
    · have hltz : (k : Int) + 1 ≤ 3 := by omega
      have kN := fun i => NW.out.cell i
      go_wp2_with fail
      clear kN
      refine (spec_NetOk x _ _ _ ⟨A, c, rfl, HX.out.later BW.out⟩).mono ?_
      rintro e w1 ⟨rfl, hb⟩
      have N1 := Lib.hid (NW.out.later hb)
      have B1 := Lib.hid (BW.out.trans (hb.mono BW.out.size))
      have O1 := Lib.hid (OW.out.later hb)
      clear hb
      cases hok : netOk x with
      | false =>
        have hk0 : k = 0 := by
          rcases Nat.eq_zero_or_pos k with h | h
          · exact h
          · rw [hok] at hnk; exact absurd (hnk h) (by simp)
        subst hk0
        clear hnk
        go_wp2
        go_ret
        exact ⟨_, rfl, by rw [asksOf, hok]; exact O1.out.low (by omega), B1.out⟩
      | true =>
        clear hnk
        go_wp2
        go_loopg [5, 6] x.tasks.length (fun gg s5 s6 wr => ∃ i : Nat, i ≤ x.tasks.length ∧ x.tasks.length - i ≤ gg ∧ s5 = .bool ((x.tasks.take i).any fun t => t.role == (k : Int) + 1) ∧ s6 = .int .i64 i ∧ Aside (w1 = wr))
        case atStart => exact ⟨0, Nat.zero_le _, by omega, by simp, rfl, rfl⟩
        case round =>
          obtain ⟨i, hi, hgi, rfl, rfl, EV⟩ := hrel
          obtain rfl := EV.out
          have kN := fun i => N1.out.cell i
          by_cases hil : i < x.tasks.length
          · have hilz : (i : Int) < (x.tasks.length : Int) := by omega
            have HD := Lib.hid (role_take x.tasks ((k : Int) + 1) i hil)
            obtain ⟨b, off, C1, e1, C2, e2, C3, e3, hA, _, _, _, _, _, _, _, t5, _, _, _⟩ := task_at (HX.out.later B1.out) hil
            subst hA
            generalize x.tasks[i].role = ro at t5 HD
            cases hq : (x.tasks.take i).any (fun t => t.role == (k : Int) + 1) with
            | true =>
              rw [hq] at HD
              go_wp2
              go_roundg (x.tasks.length - (i + 1))
              case measure => omega
              case rel => exact ⟨i + 1, by omega, by omega, by rw [HD.out]; rfl, by go_num, rfl⟩
            | false =>
              rw [hq] at HD
              go_wp2
              go_roundg (x.tasks.length - (i + 1))
              case measure => omega
              case rel => exact ⟨i + 1, by omega, by omega, by rw [HD.out]; rfl, by go_num, rfl⟩
          · have hilz : ¬ (i : Int) < (x.tasks.length : Int) := by omega
            have he : i = x.tasks.length := by omega
            have HE : Hid ((x.tasks.take i).any (fun t => t.role == (k : Int) + 1) = asksR x ((k : Int) + 1)) := by show _ = _; rw [he, List.take_length]; rfl
            rw [HE.out]
            clear he
            have hs := B1.out.size
            cases hq : asksR x ((k : Int) + 1) with
            | true =>
              have HY := Lib.hid (personsTo_yes (p := asksR x) hq)
              have hpl := personsTo_len (asksR x) k
              go_wp2_with (at_builtin; refine append_int rfl (.tmp 35) (.tmp 37) rfl (w.heap.size + 1) _ _ rfl (O1.out.later ((Below.refl _ _).alloc (Nat.le_refl _) _)) w1.heap.size ((k : Int) + 1) rfl (by simp) (by omega) (by simp; omega) ?_; intro v' w4 hown hb4; have O4 := Lib.hid hown; have B4 := Lib.hid hb4; clear hown hb4)
              go_roundg (3 - (k + 1))
              case measure => omega
              case rel =>
                have hba : Below w1.heap.size w1 (w1.alloc (.cells #[.int .i64 ((k : Int) + 1)] 3)) := (Below.refl _ _).alloc (Nat.le_refl _) _
                exact ⟨k + 1, by omega, by omega, by go_num, fun _ => hok, (B4.out.block w.heap.size (by omega)).trans (N1.out.later hba), B1.out.trans ((hba.mono hs).trans (B4.out.mono (by omega))), by show OwnV _ _ _ _; rw [HY.out]; exact O4.out⟩
            | false =>
              have HY := Lib.hid (personsTo_no (p := asksR x) hq)
              go_wp2
              go_roundg (3 - (k + 1))
              case measure => omega
              case rel => exact ⟨k + 1, by omega, by omega, by go_num, fun _ => hok, N1.out, B1.out, by show OwnV _ _ _ _; rw [HY.out]; exact O1.out⟩
    · have hltz : ¬ (k : Int) + 1 ≤ 3 := by omega
      have hk3 : k = 3 := by omega
      subst hk3
      have HOK := Lib.hid (hnk (by omega))
      clear hnk
      go_wp2
      go_ret
      exact ⟨_, rfl, by rw [asksOf, HOK.out]; exact OW.out.low (by omega), BW.out⟩
end Go.Proofs.Ytkkjljpokannkaa
