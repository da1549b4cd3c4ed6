/- The walk of FnPplAny: it returns true. -/
import Derived.Test.YtkngpmmjmhidcaaDrawPpl
import Derived.Test.YtkngpmmjmhidcaaAny
import Derived.Test.YtkngpmmjmhidcaaDat
namespace Go.Proofs.Ytkngpmmjmhidcaa
open Go.RowKit

theorem iota_to (p : Int → Bool) (k : Nat) (h : p ((k : Int) + 1) = true) (m : Nat) (hm : k + 1 ≤ m) : (personsTo p m)[(personsTo p k).length]? = some ((k : Int) + 1) := by
  have hm' : m = k + 1 + (m - (k + 1)) := by omega
  generalize m - (k + 1) = d at hm'
  subst hm'
  induction d with
  | zero => rw [Nat.add_zero, personsTo_yes h, List.getElem?_append_right (Nat.le_refl _)]; simp
  | succ d ih =>
    have hl : (personsTo p k).length < (personsTo p (k + 1 + d)).length := (List.getElem?_eq_some_iff.1 (ih (by omega))).1
    cases hq : p (((k + 1 + d : Nat) : Int) + 1) with
    | true => rw [← Nat.add_assoc, personsTo_yes hq, List.getElem?_append_left hl]; exact ih (by omega)
    | false => rw [← Nat.add_assoc, personsTo_no hq]; exact ih (by omega)

theorem persons_all (xs : List Int) (role : Int) : personsOf xs (fun who => pplHas xs who role) = personsTo (fun who => pplHas xs who role) 5 := by
  unfold personsOf
  cases h : pplOk xs with
  | true =>
    have h4 := (pplOk_bounds h).2.1
    have key : ∀ d, personsTo (fun who => pplHas xs who role) (xs.length + d) = personsTo (fun who => pplHas xs who role) xs.length := by
      intro d
      induction d with
      | zero => rfl
      | succ d ih =>
        rw [← Nat.add_assoc, personsTo_no, ih]
        simp [pplHas, h]
        intro hin
        rw [inB_iff] at hin
        omega
    rw [if_pos rfl, ← key (5 - xs.length)]
    congr 1
    omega
  | false =>
    rw [if_neg (by simp)]
    unfold personsTo
    simp [pplHas, h]

theorem pplHas_zero (xs : List Int) (role : Int) : pplHas xs 0 role = false := by
  have : inB 0 1 (xs.length : Int) = false := inB_not.2 (.inl (by omega))
  simp [pplHas, this]

set_option maxHeartbeats 1000000 in
theorem walk_FnPplAny (A : Option Addr) (c : Nat) (xs : List Int) (w : World) (h : Code w w.heap.size A c xs) :
    Calls Try.prog 10 #[.slice A xs.length c] w fun e w' => e = .returned (.bool true) ∧ Below w.heap.size w w' := by
  have hlen := h.1.1
  have HC := Lib.hid h
  clear h
  by_cases hl : 1048576 < xs.length
  · have hlz : (1048576 : Int) < (xs.length : Int) := by omega
    go_enter Try.func10, Try.ntmps10
    go_wp2
    go_ret
    exact ⟨rfl, Below.refl _ _⟩
  have hlz : ¬ (1048576 : Int) < (xs.length : Int) := by omega
  go_enter Try.func10, Try.ntmps10
  go_wp2_with fail
  refine (DrawPplAny A c xs w HC.out).mono ?_
  rintro e w1 ⟨A', c', ps, role, rfl, hd5, hrow, hr0, hr4, hb1⟩
  have D1 := Lib.hid hrow
  have B1 := Lib.hid hb1
  clear hrow hb1
  go_wp2_with fail
  refine (impl_PplAny A' c' ps role w1 D1.out).mono ?_
  rintro e w2 ⟨v2, rfl, hv2, hb2⟩
  obtain ⟨G, cg, rfl, og⟩ := OwnI.of_v hv2
  have hol := personsOf_len ps fun who => pplHas ps who role
  have D2 := Lib.hid (D1.out.later hb2)
  have B2 := Lib.hid (B1.out.trans (hb2.mono B1.out.size))
  have G2 := Lib.hid (og.ints (by omega))
  have HO := Lib.hid (persons_all ps role)
  have HI := Lib.hid (fun k hk m hm => iota_to (fun who => pplHas ps who role) k hk m hm)
  generalize hout : (personsOf ps fun who => pplHas ps who role) = out at *
  have HOUT := Lib.hid hout
  clear hb2 hv2 og hout
  go_wp2_with fail
  refine (spec_PplAny A' c' ps role w2 D2.out).mono ?_
  rintro e w3 ⟨v3, rfl, hv3, hb3⟩
  rw [HOUT.out] at hv3
  obtain ⟨G', cg', rfl, og'⟩ := OwnI.of_v hv3
  have D3 := Lib.hid (D2.out.later hb3)
  have B3 := Lib.hid (B2.out.trans (hb3.mono B2.out.size))
  have G3 := Lib.hid (G2.out.later hb3)
  have O3 := Lib.hid (og'.ints (by omega))
  clear hb3 hv3 og'
  go_wp2_with fail
  refine (laws_guInts _ _ _ _ out out _ w3.heap.size G3.out O3.out).mono ?_
  rintro e w4 ⟨rfl, n4, rfl⟩
  have D4 := Lib.hid (D3.out.below (bdN (Below.refl w3.heap.size w3) n4))
  have B4 := Lib.hid (bdN B3.out n4)
  have G4 := Lib.hid (G3.out.below (bdN (Below.refl w3.heap.size w3) n4))
  have hdec : decide (out = out) = true := by simp
  go_wp2
  go_loopg [6, 7] 6 (fun gg s6 s7 wr => ∃ i : Nat, i ≤ 6 ∧ 6 - i ≤ gg ∧ s7 = .int .i64 i ∧ s6 = .int .i64 ((personsTo (fun who => pplHas ps who role) (i - 1)).length : Nat) ∧ Aside (Below w3.heap.size w3 wr))
  case atStart => exact ⟨0, by omega, by omega, rfl, rfl, bdN (Below.refl _ _) _⟩
  case round =>
    obtain ⟨i, hi, hg, rfl, rfl, BW⟩ := hrel
    by_cases hlt : i ≤ 5
    · have hltz : (i : Int) ≤ 5 := by omega
      go_wp2_with fail
      refine (impl_PplHas A' c' ps _ role wr (D3.out.later BW.out)).mono ?_
      rintro e w5 ⟨rfl, hb5⟩
      have B5 := Lib.hid (BW.out.trans (hb5.mono BW.out.size))
      clear hb5
      cases hq : pplHas ps (i : Int) role with
      | true =>
        obtain ⟨j, rfl⟩ : ∃ j, i = j + 1 := ⟨i - 1, by
          cases i with
          | zero => rw [show ((0 : Nat) : Int) = 0 from rfl, pplHas_zero] at hq; cases hq
          | succ i => omega⟩
        have hat := HI.out j (by simpa using hq) 5 (by omega)
        rw [← HO.out] at hat
        have hY := Lib.hid (personsTo_yes (p := fun who => pplHas ps who role) (k := j) (by simpa using hq))
        rw [Nat.add_sub_cancel]
        obtain ⟨hklt, hkat⟩ := List.getElem?_eq_some_iff.1 hat
        generalize hkk : (personsTo (fun who => pplHas ps who role) j).length = kk at *
        have HKK := Lib.hid hkk
        obtain ⟨b, off, rfl, hb, hc⟩ := (G3.out.later B5.out).at_ hklt
        rw [hkat] at hc
        have hnlt : ¬ ((out.length : Int) ≤ (kk : Int)) := by omega
        have hne : (((j : Int) + 1) == ((j : Int) + 1)) = true := by simp
        clear hkk hat hkat hq
        go_wp2
        go_roundg (6 - (j + 1 + 1))
        case measure => omega
        case rel => exact ⟨j + 1 + 1, by omega, by omega, by go_num, by rw [Nat.add_sub_cancel, hY.out, List.length_append, HKK.out]; go_num, B5.out⟩
      | false =>
        have hN := Lib.hid (fun j (hj : i = j + 1) => personsTo_no (p := fun who => pplHas ps who role) (k := j) (by subst hj; simpa using hq))
        clear hq
        go_wp2
        go_roundg (6 - (i + 1))
        case measure => omega
        case rel =>
          refine ⟨i + 1, by omega, by omega, by go_num, ?_, B5.out⟩
          cases i with
          | zero => rfl
          | succ j => rw [Nat.add_sub_cancel, Nat.add_sub_cancel, hN.out j rfl]
    · have hltz : ¬ (i : Int) ≤ 5 := by omega
      have he : i = 6 := by omega
      subst he
      have hfin : ((personsTo (fun who => pplHas ps who role) (6 - 1)).length : Int) = out.length := by rw [HO.out]
      rw [hfin]
      have hbq : ((out.length : Int) == (out.length : Int)) = true := by simp
      go_wp2_with (go_at_call 29; refine (laws_guOk _).mono ?_; rintro e w6 ⟨rfl, hb6⟩)
      go_ret
      exact ⟨rfl, B3.out.trans ((BW.out.trans (hb6.mono BW.out.size)).mono B3.out.size)⟩
end Go.Proofs.Ytkngpmmjmhidcaa
