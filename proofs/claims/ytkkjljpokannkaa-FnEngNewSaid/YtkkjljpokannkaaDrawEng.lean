/- Nets and people drawn: DrawEngNew. -/
import Derived.Test.YtkkjljpokannkaaDrawSnd
import Derived.Test.YtkkjljpokannkaaDrawPeople
import Derived.Test.YtkkjljpokannkaaApp5
namespace Go.Proofs.Ytkkjljpokannkaa
open Go.RowKit
set_option linter.unusedSimpArgs false
set_option linter.unusedVariables false

/-- What drawing nets and people leaves, seen from outside. -/
def DrawnE (w : World) (e : Ending) (w' : World) : Prop :=
  ∃ (A : Option Addr) (c : Nat) (ns : List GNet) (AP : Option Addr) (cP : Nat) (ps : List Int),
    e = .returned (.tuple #[.slice A ns.length c, .slice AP ps.length cP]) ∧ Rows netC none w' w'.heap.size A ns ∧ ns.length ≤ 4 ∧ (∀ x ∈ ns, anyOk x) ∧ Ints w' w'.heap.size AP ps ∧ ps.length ≤ 5 ∧ Below w.heap.size w w'
theorem info_Net : (Try.prog.info? 37).map (fun i => (i.zero, i.size, i.bytes)) = some (some (.agg #[.int .i64 0, .slice none 0 0]), 2, 32) := by kernel_rfl

set_option maxRecDepth 100000 in
set_option maxHeartbeats 4000000 in
theorem spec_DrawEngNew (A : Option Addr) (c : Nat) (xs : List Int) (w : World) (h : Code w w.heap.size A c xs) :
    Calls Try.prog 77 #[.slice A xs.length c] w (DrawnE w) := by
  have HC := Lib.hid h
  clear h
  go_enter Try.func77, Try.ntmps77
  go_wp2_with fail
  refine (l20Open A c xs w HC.out).mono ?_
  rintro e w1 ⟨rfl, hr1, hb1⟩
  have B := Lib.hid hb1
  have R := Lib.hid hr1
  have hRl := hr1.lt
  clear hr1 hb1
  go_wp2_with fail
  refine callsAt fun W2 hW => ?_
  have hb : Below w1.heap.size w1 W2 := by rw [hW]; exact (Below.refl _ _).alloc (Nat.le_refl _) _
  have O : Hid (OwnC netC 37 W2 (w.heap.size + 1) (.slice (some ⟨w1.heap.size, 0, none⟩) 0 0) []) := by
    show OwnC _ _ _ _ _ _
    rw [hW]
    exact OwnC.made (by omega) 0 #[] (by decide) rfl
  have B := Lib.hid (B.out.trans (hb.mono B.out.size))
  have R := Lib.hid (R.out.low hb hRl)
  clear hW hb
  refine (l20Rd_pick _ _ 5 _ R.out (by omega) (by omega)).mono ?_
  rintro e w3 ⟨v, rfl, hv0, hv1, _, hr, ht⟩
  have hv2 : v ≤ 4 := by have := hv1 (by omega); omega
  have O := Lib.hid (O.out.kept (Kept.of_turned ht (by omega)))
  have B := Lib.hid (turned_below B.out ht (Nat.le_refl _) (Nat.le_refl _))
  have R := Lib.hid hr
  clear hr ht hv1
  go_wp2
  go_loopg [5, 6] 4 (fun gg s5 s6 wr => ∃ (k : Nat) (ns : List GNet), k ≤ 4 ∧ k ≤ gg ∧ ns.length + k ≤ 4 ∧ s6 = .int .i64 k ∧ Aside (OwnC netC 37 wr (w.heap.size + 1) s5 ns) ∧ Aside (Below w.heap.size w wr) ∧ Aside (RdB wr w.heap.size (1 + 400 * ns.length)) ∧ Aside (∀ x ∈ ns, anyOk x))
  case atStart => exact ⟨v.toNat, [], by omega, by omega, by simp; omega, by simp; omega, O.out, B.out, R.out, fun x hx => by cases hx⟩
  case round =>
    obtain ⟨k, ns, hk, hg, hnk, rfl, OW, BW, RW, AW⟩ := hrel
    have hRW := RW.out.lt
    by_cases hlt : 0 < k
    · have hltz : (0 : Int) < (k : Int) := by omega
      go_wp2_with fail
      refine (l20AnyNet _ _ 9 _ RW.out (by omega) (by omega)).mono ?_
      rintro e w2 ⟨x, g, c2, rfl, hng, hok, hr2, ht2⟩
      have O2 := Lib.hid (OW.out.kept (Kept.of_turned ht2 (by omega)))
      have B2 := Lib.hid (turned_below BW.out ht2 (Nat.le_refl _) (Nat.le_refl _))
      have R2 := Lib.hid hr2
      have G2 := Lib.hid (hng.rows (by have := hok.2.1; omega))
      have HOK := Lib.hid hok
      have z2 := ht2.size
      have r2 := hr2.lt
      have hs0 := BW.out.size
      clear hng hok hr2 ht2
      go_wp2_with (at_builtin; refine append_C5 rfl (.tmp 16) (.tmp 19) 96 rfl netC 37 _ 32 Try.underlying96 info_Net rfl (by decide) (by decide) (w.heap.size + 1) _ ns rfl (O2.out.later ((Below.refl _ _).alloc (Nat.le_refl _) _)) x [.int .i64 x.places, .slice (some ⟨g, 0, none⟩) x.tasks.length c2] wr.heap.size w2.heap.size ⟨some ⟨g, 0, none⟩, c2, rfl, G2.out.keep (Agree.of_below ((Below.refl _ _).alloc (Nat.le_refl _) _))⟩ (by omega) (by simp) (fun g' hg' => .inl (OW.out.lt g' hg').2) w2.heap.size rfl (fun j u hu => by rw [Bk.cell (Bk.new rfl)]; simpa using hu) (by simp [Value.oneCell']) (by omega) (by simp; omega) ?_; intro v' w7 hown7 hg7 hb7 h57; have O7 := Lib.hid hown7; have B7 := Lib.hid hb7; clear hown7 hg7 hb7 h57)
      go_roundg (k - 1)
      case measure => omega
      case rel =>
        have hba : Below w2.heap.size w2 (w2.alloc (.cells #[.int .i64 x.places, .slice (some ⟨g, 0, none⟩) x.tasks.length c2] 37)) := (Below.refl _ _).alloc (Nat.le_refl _) _
        refine ⟨k - 1, ns ++ [x], by omega, by omega, by simp; omega, by go_num, O7.out, ?_, ?_, fun y hy => ?_⟩
        · exact B2.out.trans ((hba.mono B2.out.size).trans (B7.out.mono (by omega)))
        · show RdB _ _ _
          exact ((R2.out.low hba r2).low B7.out (by omega)).mono (by simp; omega)
        · rcases List.mem_append.1 hy with hy | hy
          · exact AW.out y hy
          · rw [List.mem_singleton] at hy
            subst hy
            exact HOK.out
    · have hltz : ¬ (0 : Int) < (k : Int) := by omega
      have hs0 := BW.out.size
      go_wp2_with fail
      refine (l20People _ _ 6 _ RW.out (by omega) (by omega)).mono ?_
      rintro e w4 ⟨AP, cP, ps, rfl, hp5, _, hown, _, ht⟩
      have O4 := Lib.hid (OW.out.kept (Kept.of_turned ht (by omega)))
      have B4 := Lib.hid (turned_below BW.out ht (Nat.le_refl _) (Nat.le_refl _))
      have P4 := Lib.hid (hown.ints (by omega))
      clear hown ht
      obtain ⟨A9, c9, rfl, hrow⟩ := O4.out.rows (by omega)
      have HR9 := Lib.hid hrow
      clear hrow O4 OW
      go_wp2
      refine bodyPost_ret (v := .tuple #[.slice A9 ns.length c9, .slice AP ps.length cP]) (by simp [results, Try.results77, go_sem]) rfl ?_
      have hrow := HR9.out
      exact ⟨A9, c9, ns, AP, cP, ps, rfl, hrow.weak (Weaker.none _), by omega, AW.out, P4.out, hp5, B4.out⟩
end Go.Proofs.Ytkkjljpokannkaa
