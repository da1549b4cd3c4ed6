/- The walk of FnPplFree: it returns true. -/
import Derived.Test.YtkkjljpokannkaaDrawPF
import Derived.Test.YtkkjljpokannkaaFree
import Derived.Test.YtkkjljpokannkaaDat
namespace Go.Proofs.Ytkkjljpokannkaa
open Go.RowKit
set_option linter.unusedSimpArgs false
set_option linter.unusedVariables false

theorem personsTo_any (p : Int → Bool) (n : Nat) (k : Nat) (hk : k < n) : ((personsTo p n).any fun x => decide (x = (k : Int) + 1)) = p ((k : Int) + 1) := by
  rw [Bool.eq_iff_iff, List.any_eq_true]
  unfold personsTo
  constructor
  · rintro ⟨x, hx, he⟩
    rw [decide_eq_true_eq] at he
    subst he
    exact (List.mem_filter.1 hx).2
  · intro hp
    refine ⟨(k : Int) + 1, List.mem_filter.2 ⟨List.mem_map.2 ⟨k, List.mem_range.2 hk, rfl⟩, hp⟩, by simp⟩
theorem personsTo_all (n : Nat) (p : Int → Bool) (h : ∀ x, p x = true) : (personsTo p n).length = n := by
  unfold personsTo
  rw [List.filter_eq_self.2 (fun x _ => h x)]
  simp
theorem doing_take (bs : List GItem) (who : Int) (i : Nat) (hi : i < bs.length) : doing (bs.take (i + 1)) who = (doing (bs.take i) who || (bs[i].who == who)) := by
  unfold doing
  rw [List.take_succ_eq_append_getElem hi, List.any_append]
  simp

set_option maxRecDepth 100000 in
set_option maxHeartbeats 2000000 in
theorem walk_FnPplFree_of (HBL : BusyLaw) (A : Option Addr) (c : Nat) (xs : List Int) (w : World) (h : Code w w.heap.size A c xs) :
    Calls Try.prog 3 #[.slice A xs.length c] w fun e w' => e = .returned (.bool true) ∧ Below w.heap.size w w' := by
  have hlen := h.1.1
  have HC := Lib.hid h
  have HBLH := Lib.hid HBL
  clear h HBL
  by_cases hl : 1048576 < xs.length
  · have hlz : (1048576 : Int) < (xs.length : Int) := by omega
    go_enter Try.func3, Try.ntmps3
    go_wp2
    go_ret
    exact ⟨rfl, Below.refl _ _⟩
  have hlz : ¬ (1048576 : Int) < (xs.length : Int) := by omega
  go_enter Try.func3, Try.ntmps3
  go_wp2_with fail
  refine (spec_DrawPplFree HBLH.out A c xs w HC.out).mono ?_
  rintro e w1 ⟨A1, c1, ps, A2, c2, bs, rfl, hps, hp5, hb3, hbs, hb⟩
  have P := Lib.hid hps
  have Q := Lib.hid hbs
  have B := Lib.hid hb
  clear hps hbs hb
  go_wp2_with fail
  refine (impl_PplFree A1 A2 c1 c2 ps bs none w1 P.out Q.out).mono ?_
  rintro e w2 ⟨v2, rfl, hv2, hb⟩
  obtain ⟨G, cg, rfl, og⟩ := OwnI.of_v hv2
  have hol := personsOf_len ps fun who => !doing bs who
  have P2 := Lib.hid (P.out.below hb)
  have Q2 := Lib.hid (Q.out.later hb)
  have B := Lib.hid (B.out.trans (hb.mono B.out.size))
  have G2 := Lib.hid (og.ints (by omega))
  have z2 := hb.size
  clear hb hv2 og
  obtain ⟨F, hF⟩ : ∃ F, F = personsOf ps fun who => !doing bs who := ⟨_, rfl⟩
  have HF := Lib.hid hF
  rw [← hF] at hol G2 ⊢
  clear hF
  go_wp2_with fail
  refine (spec_PplFree A1 A2 c1 c2 ps bs none w2 (P2.out.more z2) Q2.out).mono ?_
  rintro e w3 ⟨v3, rfl, hv3, hb⟩
  rw [← HF.out] at hv3
  obtain ⟨G', cg', rfl, og⟩ := OwnI.of_v hv3
  have P3 := Lib.hid (P2.out.below (hb.mono z2))
  have Q3 := Lib.hid (Q2.out.later hb)
  have G3 := Lib.hid (G2.out.later hb)
  have H3 := Lib.hid (og.ints (by omega))
  have B := Lib.hid (B.out.trans (hb.mono B.out.size))
  have z3 := hb.size
  clear hb hv3 og P Q P2 Q2 G2
  go_wp2_with fail
  refine (laws_guInts _ _ _ _ F F w3 w3.heap.size G3.out H3.out).mono ?_
  rintro e _ ⟨rfl, q1, rfl⟩
  have hd1 : decide (F = F) = true := by simp
  rw [hd1]
  clear hd1 H3
  have hb : Below w3.heap.size w3 (w3.drewN q1) := bdN (Below.refl _ _) _
  generalize w3.drewN q1 = w4 at hb ⊢
  have P4 := Lib.hid (P3.out.below (hb.mono (by omega)))
  have Q4 := Lib.hid (Q3.out.later hb)
  have G4 := Lib.hid (G3.out.later hb)
  have B := Lib.hid (B.out.trans (hb.mono B.out.size))
  have z4 := hb.size
  clear hb P3 Q3 G3
  go_wp2_with fail
  refine (spec_PplOk A1 c1 ps w4 _ P4.out).mono ?_
  rintro e w' ⟨rfl, rfl⟩
  cases hok : pplOk ps with
  | false =>
    have hF0 : F = [] := by rw [HF.out, personsOf, hok]; rfl
    clear HF hok
    subst hF0
    go_wp2_with (go_at_call 22; refine (laws_guOk _).mono ?_; rintro e w10 ⟨rfl, hb⟩; have B := Lib.hid (B.out.trans (hb.mono B.out.size)); clear hb)
    go_ret
    exact ⟨rfl, B.out⟩
  | true =>
  have HAS : Hid (∀ k : Nat, k < ps.length → (F.any fun x => decide (x = (k : Int) + 1)) = !doing bs ((k : Int) + 1)) := fun k hk => by rw [HF.out, personsOf, hok, if_pos rfl]; exact personsTo_any _ _ _ hk
  have ALL : Hid ((personsOf ps fun who => !doing [] who).length = ps.length) := by show _ = _; rw [personsOf, hok, if_pos rfl]; exact personsTo_all _ _ fun x => rfl
  clear HF hok
  go_wp2
  go_loopg [6] ps.length (fun gg s6 wr => ∃ k : Nat, k ≤ ps.length ∧ ps.length - k ≤ gg ∧ s6 = .int .i64 ((k : Int) + 1) ∧ Aside (w4 = wr))
  case atStart => exact ⟨0, Nat.zero_le _, by omega, rfl, rfl⟩
  case round =>
    obtain ⟨k, hk, hg, rfl, EW⟩ := hrel
    obtain rfl := EW.out
    by_cases hlt : k < ps.length
    · have hltz : (k : Int) + 1 ≤ (ps.length : Int) := by omega
      have HK := Lib.hid (HAS.out k hlt)
      go_wp2
      go_loopg [7, 8] bs.length (fun gg s7 s8 wr => ∃ i : Nat, i ≤ bs.length ∧ bs.length - i ≤ gg ∧ s7 = .bool (doing (bs.take i) ((k : Int) + 1)) ∧ s8 = .int .i64 i ∧ Aside (w4 = wr))
      case atStart => exact ⟨0, Nat.zero_le _, by omega, by simp [doing], rfl, rfl⟩
      case round =>
        obtain ⟨i, hi, hgi, rfl, rfl, EV⟩ := hrel
        obtain rfl := EV.out
        by_cases hil : i < bs.length
        · have hilz : (i : Int) < (bs.length : Int) := by omega
          have HD := Lib.hid (doing_take bs ((k : Int) + 1) i hil)
          obtain ⟨b, off, rfl, hbb, hc0, hc1, hc2⟩ := item_at Q4.out hil
          generalize bs[i] = y at hc0 hc1 hc2 HD
          cases hq : doing (bs.take i) ((k : Int) + 1) with
          | true =>
            rw [hq] at HD
            go_wp2
            go_roundg (bs.length - (i + 1))
            case measure => omega
            case rel => exact ⟨i + 1, by omega, by omega, by rw [HD.out]; rfl, by go_num, rfl⟩
          | false =>
            rw [hq] at HD
            go_wp2
            go_roundg (bs.length - (i + 1))
            case measure => omega
            case rel => exact ⟨i + 1, by omega, by omega, by rw [HD.out]; rfl, by go_num, rfl⟩
        · have hilz : ¬ (i : Int) < (bs.length : Int) := by omega
          have he : i = bs.length := by omega
          subst he
          rw [List.take_length]
          cases hq : doing bs ((k : Int) + 1) with
          | true =>
            rw [hq] at HK
            go_wp2_with fail
            refine (laws_guHas G cg F ((k : Int) + 1) _ _ G4.out).mono ?_
            rintro e w' ⟨rfl, rfl⟩
            rw [HK.out]
            go_wp2
            go_roundg (ps.length - (k + 1))
            case measure => omega
            case rel => exact ⟨k + 1, by omega, by omega, by go_num, rfl⟩
          | false =>
            rw [hq] at HK
            go_wp2_with fail
            refine (laws_guHas G cg F ((k : Int) + 1) _ _ G4.out).mono ?_
            rintro e w' ⟨rfl, rfl⟩
            rw [HK.out]
            go_wp2
            go_roundg (ps.length - (k + 1))
            case measure => omega
            case rel => exact ⟨k + 1, by omega, by omega, by go_num, rfl⟩
    · have hltz : ¬ (k : Int) + 1 ≤ (ps.length : Int) := by omega
      go_wp2_with fail
      refine callsAt fun V hV => ?_
      have hb : Below w4.heap.size w4 V := by rw [hV]; go_grown
      have PV := Lib.hid ((P4.out.below (hb.mono (by omega))).more (by have := hb.size; omega : w1.heap.size ≤ V.heap.size))
      have B := Lib.hid (B.out.trans (hb.mono B.out.size))
      clear hV hb
      refine (impl_PplFree A1 _ c1 _ ps [] none V PV.out Rows.nil).mono ?_
      rintro e w5 ⟨v5, rfl, hv5, hb⟩
      obtain ⟨G5, cg5, rfl, _⟩ := OwnI.of_v hv5
      rw [ALL.out]
      have B := Lib.hid (B.out.trans (hb.mono B.out.size))
      clear hb hv5
      go_wp2
      go_ret
      exact ⟨rfl, B.out⟩
theorem walk_FnPplFree (A : Option Addr) (c : Nat) (xs : List Int) (w : World) (h : Code w w.heap.size A c xs) :
    Calls Try.prog 3 #[.slice A xs.length c] w fun e w' => e = .returned (.bool true) ∧ Below w.heap.size w w' := walk_FnPplFree_of busyLaw A c xs w h
end Go.Proofs.Ytkkjljpokannkaa
