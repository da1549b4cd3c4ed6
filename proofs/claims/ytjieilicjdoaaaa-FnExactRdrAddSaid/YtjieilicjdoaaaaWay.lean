/- The program's way, RdrWay, RdrHeld, RdrAsk. -/
import Derived.Test.YtjieilicjdoaaaaRdrOkI
import Derived.Test.YtjieilicjdoaaaaOwn0
namespace Go.Proofs.Ytjieilicjdoaaaa
open Go.RowKit

theorem pos_next {t : List GRule} {d : List Int} {n i : Nat} (h : pos t d n = (i : Int)) (hi : i < t.length) : pos t d (n + 1) = if holds t[i].ask d then t[i].yes else t[i].no := by
  show next t d (pos t d n) = _
  rw [h]
  unfold next
  rw [if_neg (by omega), rule_get hi]
theorem pos_nat {t : List GRule} (h : treeOk t = true) {d : List Int} {n : Nat} (hp : pos t d n ≠ -1) : ∃ i : Nat, pos t d n = i ∧ n ≤ i ∧ i < t.length := by
  rcases pos_ok h d n with h1 | ⟨h1, h2⟩
  · exact absurd h1 hp
  · exact ⟨(pos t d n).toNat, by omega, by omega, by omega⟩
theorem pos_all {t : List GRule} {d : List Int} {n : Nat} (h : ∀ j, j < n → pos t d j ≠ -1) (hp : pos t d n ≠ -1) : ∀ j, j < n + 1 → pos t d j ≠ -1 := fun j hj => by
  rcases (by omega : j < n ∨ j = n) with h1 | h1
  · exact h j h1
  · rw [h1]; exact hp

set_option maxRecDepth 100000 in
set_option maxHeartbeats 2000000 in
theorem impl_way (A A' : Option Addr) (c c' : Nat) (t : List GRule) (d : List Int) (m : Option Nat) (w : World) (hx : Rows ruleC m w w.heap.size A t) (hd : Ints w w.heap.size A' d) (hok : treeOk t = true) :
    Calls Try.prog 56 #[.slice A t.length c, .slice A' d.length c'] w (GivesL (wayL t d) w) := by
  have hlen := treeOk_len hok
  have HX := Lib.hid hx
  have HD := Lib.hid hd
  have HOK := Lib.hid hok
  clear hx hd hok
  by_cases h0 : t.length = 0
  · have HW : Hid (wayL t d = []) := way_eq (n := 0) (by unfold pos; rw [if_pos h0]) (fun j hj => absurd hj (Nat.not_lt_zero _)) (by omega)
    have hz : ¬ (0 : Int) < (t.length : Int) := by omega
    clear h0
    go_enter Try.func56, Try.ntmps56
    go_wp2
    go_rounds 1
    go_ret
    exact ⟨_, rfl, by rw [HW.out]; exact OwnV.nil _ _, Below.refl _ _⟩
  have hp0 : pos t d 0 = 0 := by unfold pos; rw [if_neg h0]
  have hz : (0 : Int) < (t.length : Int) := by omega
  have HP := Lib.hid hp0
  clear hp0 h0
  go_enter Try.func56, Try.ntmps56
  go_wp2
  go_loopg [5, 6] t.length (fun gg s5 s6 wr => ∃ n : Nat, n ≤ t.length ∧ t.length - n ≤ gg ∧ s6 = .int .i64 (pos t d n) ∧ Aside (∀ j, j < n → pos t d j ≠ -1) ∧ Aside (OwnV wr w.heap.size s5 (posTo t d n)) ∧ Aside (Below w.heap.size w wr))
  case atStart => exact ⟨0, Nat.zero_le _, by omega, by rw [HP.out], fun j hj => absurd hj (Nat.not_lt_zero _), OwnV.nil _ _, Below.refl _ _⟩
  case round =>
    obtain ⟨n, hn, hg, rfl, AL, OW, BW⟩ := hrel
    by_cases hp : pos t d n = -1
    · have HW := Lib.hid (way_eq hp AL.out (by omega))
      rw [hp]
      clear hp
      go_wp2
      go_ret
      exact ⟨_, rfl, by rw [HW.out]; exact OW.out, BW.out⟩
    · obtain ⟨i, hi, hni, hil⟩ := pos_nat HOK.out hp
      have hiz : (i : Int) < (t.length : Int) := by omega
      have hb1 : ((i : Int) != -1) = true := by simp
      have HN := Lib.hid (pos_next hi hil)
      have HS := Lib.hid (posTo_succ t d n)
      have HA := Lib.hid (pos_all AL.out hp)
      have hpl := posTo_len t d n
      rw [hi] at HS
      rw [hi]
      clear hp hi
      go_upto_region 5 with (at_builtin; refine append_int rfl (.tmp 14) (.tmp 16) rfl w.heap.size _ _ rfl (OW.out.alloc _) wr.heap.size (i : Int) rfl (by simp) (by omega) (by have := BW.out.size; simp only [World.size_alloc]; omega) ?_; intro v' w2 hown2 hb2; have HO2 := Lib.hid hown2; have HB2 := Lib.hid hb2; clear hown2 hb2)
      have EW := Lib.hid ((BW.out.alloc BW.out.size _).trans HB2.out)
      obtain ⟨b, off, A1, c1, rfl, hb, hr, hd0, hd1, hd2, hd3, hd4, hd5, hd6⟩ := rule_at (HX.out.below EW.out) hil
      clear hr hd3 hd4 hd5 hd6
      go_wp2_with fail
      refine (impl_ExpHolds t[i].ask _ _ d _ ((HD.out.below EW.out).more EW.out.size)).mono ?_
      rintro e w3 ⟨rfl, hb3⟩
      have EW3 := Lib.hid (EW.out.trans (hb3.mono EW.out.size))
      have HO3 := Lib.hid (HO2.out.later hb3)
      clear hb3 hd0 hd1 hd2 hb
      obtain ⟨b', off', A1', c1', hA', hb', hr', hd0, hd1, hd2, hd3, hd4, hd5, hd6⟩ := rule_at (HX.out.below EW3.out) hil
      cases hA'
      clear hr' hd0 hd1 hd2 hd5 hd6
      generalize t[i] = y at hd3 hd4 HN ⊢
      cases q : holds y.ask d with
      | true =>
        rw [q, if_pos rfl] at HN
        go_wp2
        go_roundg (t.length - (n + 1))
        case measure => omega
        case rel => exact ⟨n + 1, by omega, by omega, by rw [HN.out], HA.out, by show OwnV _ _ _ _; rw [HS.out]; exact HO3.out, EW3.out⟩
      | false =>
        rw [q, if_neg (by decide)] at HN
        go_wp2
        go_roundg (t.length - (n + 1))
        case measure => omega
        case rel => exact ⟨n + 1, by omega, by omega, by rw [HN.out], HA.out, by show OwnV _ _ _ _; rw [HS.out]; exact HO3.out, EW3.out⟩

theorem rdrWay_no {t : List GRule} {d : List Int} (h : treeOk t = false ∨ datOk d = false) : rdrWay t d = [] := by
  unfold rdrWay
  rcases h with h | h <;> simp [h]
theorem rdrWay_yes {t : List GRule} {d : List Int} (h : treeOk t = true) (h2 : datOk d = true) : rdrWay t d = wayL t d := by
  unfold rdrWay
  rw [h, h2]; rfl

theorem own_ints {w : World} {base : Nat} {v : Value} {xs : List Int} (h : OwnV w base v xs) (hl : xs.length ≤ 9223372036854775807) : ∃ A c, v = .slice A xs.length c ∧ Ints w w.heap.size A xs := by
  obtain ⟨A, c, hv, hA⟩ := h.form
  refine ⟨A, c, hv, hl, fun h0 => ?_⟩
  obtain ⟨g, rfl, _, hw⟩ := hA h0
  exact (hw.ints hw.lt hl).2 h0

end Go.Proofs.Ytjieilicjdoaaaa
