/- The roles that a net asks for: impl.NetAsks, upon what slices.Sort and slices.Compact do. -/
import Derived.Test.YtkkjljpokannkaaAsksS
import Derived.Test.YtkkjljpokannkaaAsksP
import Derived.Test.YtkkjljpokannkaaNetOk
import Derived.Test.YtkkjljpokannkaaMarks
import Derived.Test.YtkkjljpokannkaaDraw1
namespace Go.Proofs.Ytkkjljpokannkaa
open Go.RowKit
set_option linter.unusedSimpArgs false
set_option linter.unusedVariables false

/-- slices.Sort over ints, in a row of the call's own. -/
def SortLaw : Prop := ∀ (base : Nat) (A : Option Addr) (c : Nat) (xs : List Int) (w : World), OwnI w base A xs → xs.length ≤ 1000 → base ≤ w.heap.size →
    Calls Try.prog 143 #[.slice A xs.length c] w fun e w' => e = .returned (.tuple #[]) ∧ OwnI w' base A (xs.mergeSort fun x y => decide (x ≤ y)) ∧ Below base w w'
/-- slices.Compact over ints, in a row of the call's own. -/
def CompactLaw : Prop := ∀ (base : Nat) (A : Option Addr) (c : Nat) (xs : List Int) (w : World), OwnI w base A xs → xs.length ≤ 1000 → xs.length ≤ c → base ≤ w.heap.size →
    Calls Try.prog 144 #[.slice A xs.length c] w fun e w' => e = .returned (.slice A (Go.Lib.compact xs).length c) ∧ OwnI w' base A (Go.Lib.compact xs) ∧ Below base w w'
def rolesOf (x : GNet) (k : Nat) : List Int := (x.tasks.take k).map GTask.role
theorem roles_snoc (x : GNet) (k : Nat) (hk : k < x.tasks.length) : rolesOf x (k + 1) = rolesOf x k ++ [x.tasks[k].role] := by
  unfold rolesOf
  rw [List.take_succ_eq_append_getElem hk, List.map_append]; rfl
theorem asks_eq (x : GNet) (h : netOk x = true) : Go.Lib.compact ((rolesOf x x.tasks.length).mergeSort fun x y => decide (x ≤ y)) = asksOf x := by
  unfold rolesOf
  rw [List.take_length, compact_roles, asksOf, if_pos h]
  · unfold personsTo asksR
    simp only [List.any_map]
    rfl
  · intro z hz
    obtain ⟨t, ht, rfl⟩ := List.mem_map.1 hz
    unfold netOk at h
    simp only [Bool.and_eq_true, List.all_eq_true] at h
    have h2 := h.2.2 t ht
    unfold taskOk at h2
    simp only [Bool.and_eq_true, inB_iff] at h2
    omega

/-- What a function that hands back ints of the call's own leaves. -/
def GivesI (xs : List Int) (w : World) (e : Ending) (w' : World) : Prop := ∃ A c, e = .returned (.slice A xs.length c) ∧ OwnI w' w.heap.size A xs ∧ Below w.heap.size w w'

set_option maxRecDepth 100000 in
set_option maxHeartbeats 2000000 in
theorem impl_NetAsks (HS : SortLaw) (HCL : CompactLaw) (x : GNet) (A : Option Addr) (c : Nat) (m : Option Nat) (w : World) (hx : Rows taskC m w w.heap.size A x.tasks) :
    Calls Try.prog 65 #[.agg (netCells x A c)] w (GivesI (asksOf x) w) := by
  have nx := hx.1
  have HX := Lib.hid hx
  have HSH := Lib.hid HS
  have HCH := Lib.hid HCL
  clear hx HS HCL
  go_enter Try.func65, Try.ntmps65
  go_wp2_with fail
  refine callsAt fun W hW => ?_
  have N : Hid (Bk W w.heap.size 37 (netCells x A c)) := by show Bk _ _ _ _; rw [hW]; exact Bk.new rfl
  have B : Hid (Below w.heap.size w W) := by show Below _ _ _; rw [hW]; go_grown
  clear hW
  refine (impl_NetOk x _ m W ⟨A, c, rfl, HX.out.later B.out⟩).mono ?_
  rintro e w1 ⟨rfl, hb⟩
  have N := Lib.hid (N.out.later hb)
  have B := Lib.hid (B.out.trans (hb.mono B.out.size))
  have zN := N.out.lt
  clear hb
  cases hok : netOk x with
  | false =>
    have HF : Hid (asksOf x = []) := by show _ = _; rw [asksOf, hok]; rfl
    clear hok
    go_wp2
    go_ret
    exact ⟨none, 0, by rw [HF.out]; rfl, by rw [HF.out]; exact fun h => absurd h (by simp), B.out⟩
  | true =>
  have HAS := Lib.hid (asks_eq x hok)
  have h6 : x.tasks.length ≤ 6 := by
    unfold netOk at hok
    simp only [Bool.and_eq_true, inB_iff] at hok
    omega
  clear hok
  have kN := fun i => N.out.cell i
  go_wp2
  clear kN
  go_loopg [3, 12] x.tasks.length (fun gg s3 s12 wr => ∃ k : Nat, k ≤ x.tasks.length ∧ x.tasks.length - k ≤ gg ∧ s12 = .int .i64 k ∧ Aside (Bk wr w.heap.size 37 (netCells x A c)) ∧ Aside (Below w.heap.size w wr) ∧ Aside (OwnV wr (w.heap.size + 1) s3 (rolesOf x k)))
  case atStart => exact ⟨0, by omega, by omega, rfl, N.out, B.out, OwnV.nil _ _⟩
  case round =>
    obtain ⟨k, hk, hg, rfl, NW, BW, OW⟩ := hrel
    have zW := NW.out.lt
    by_cases hlt : k < x.tasks.length
    · have hltz : (k : Int) < (x.tasks.length : Int) := by omega
      have HY := Lib.hid (roles_snoc x k hlt)
      have hrl : (rolesOf x k).length ≤ 6 := by unfold rolesOf; simp; omega
      obtain ⟨b, off, C1, e1, C2, e2, C3, e3, hA, _, _, t0, t1, t2, t3, t4, t5, t6, t7, t8⟩ := task_at (HX.out.later BW.out) hlt
      subst hA
      generalize x.tasks[k] = y at t0 t1 t2 t3 t4 t5 t6 t7 t8 HY
      generalize rolesOf x k = pre at OW HY hrl
      go_upto_region 7 with fail
      generalize hV : World.alloc wr _ = w2
      have hb : Below wr.heap.size wr w2 := by rw [← hV]; exact (Below.refl _ _).alloc (Nat.le_refl _) _
      have E : Hid (Bk w2 wr.heap.size 42 #[.int .i64 y.join, .int .i64 y.split, .slice C1 y.inn.length e1, .slice C2 y.out.length e2, .slice C3 y.clear.length e3, .int .i64 y.role, .int .i64 y.apart, .int .i64 y.all, .int .i64 y.need]) := by show Bk _ _ _ _; rw [← hV]; exact Bk.new rfl
      have N2 := Lib.hid (NW.out.later hb)
      have B2 := Lib.hid (BW.out.trans (hb.mono BW.out.size))
      have O2 := Lib.hid (OW.out.later hb)
      have z2 := hb.size
      clear hV hb t0 t1 t2 t3 t4 t5 t6 t7 t8
      have kE := fun i => E.out.cell i
      go_wp2_with (at_builtin; refine append_int rfl (.tmp 16) (.tmp 19) rfl (w.heap.size + 1) _ _ rfl (O2.out.later ((Below.refl _ _).alloc (Nat.le_refl _) _)) w2.heap.size y.role rfl (by simp) (by omega) (by simp; omega) ?_; intro v' w4 hown hb4; have O4 := Lib.hid hown; have B4 := Lib.hid hb4; clear hown hb4)
      go_roundg (x.tasks.length - (k + 1))
      case measure => omega
      case rel =>
        have hba : Below w2.heap.size w2 (w2.alloc (.cells #[.int .i64 y.role] 3)) := (Below.refl _ _).alloc (Nat.le_refl _) _
        exact ⟨k + 1, by omega, by omega, by go_num, (B4.out.block w.heap.size (by omega)).trans (N2.out.later hba), B2.out.trans ((hba.mono (by omega)).trans (B4.out.mono (by omega))), by show OwnV _ _ _ _; rw [HY.out]; exact O4.out⟩
    · have hltz : ¬ (k : Int) < (x.tasks.length : Int) := by omega
      have he : k = x.tasks.length := by omega
      subst he
      have hrl : (rolesOf x x.tasks.length).length ≤ 6 := by unfold rolesOf; simp; omega
      obtain ⟨A5, c5, rfl, hcap, hA⟩ := OW.out.form'
      have O : Hid (OwnI wr (w.heap.size + 1) A5 (rolesOf x x.tasks.length)) := hA
      generalize rolesOf x x.tasks.length = rs at O HAS hrl hcap
      go_wp2_with fail
      refine (HSH.out (w.heap.size + 1) A5 c5 rs _ O.out (by omega) (by omega)).mono ?_
      rintro e w5 ⟨rfl, ho5, hb5⟩
      have hsl : (rs.mergeSort fun x y => decide (x ≤ y)).length = rs.length := List.length_mergeSort _
      have z5 := hb5.size
      go_wp2_with fail
      rw [← hsl]
      refine (HCH.out (w.heap.size + 1) A5 c5 _ _ ho5 (by omega) (by omega) (by omega)).mono ?_
      rintro e w6 ⟨rfl, ho6, hb6⟩
      rw [HAS.out] at ho6 ⊢
      have B6 := Lib.hid (BW.out.trans ((hb5.mono (by omega : w.heap.size ≤ w.heap.size + 1)).trans (hb6.mono (by omega))))
      have O6 := Lib.hid ho6
      clear hb5 hb6 ho5 ho6
      go_wp2
      go_ret
      exact ⟨A5, c5, rfl, O6.out.mono (by omega), B6.out⟩
end Go.Proofs.Ytkkjljpokannkaa
