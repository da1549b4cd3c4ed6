/- The walk of FnFirSum: it returns true. -/
import Derived.Test.YtkoaaagmcjjimaaDrawFir
import Derived.Test.YtkoaaagmcjjimaaFirSumP
import Derived.Test.YtkoaaagmcjjimaaMrkSum
import Derived.Test.YtkoaaagmcjjimaaDat
import Derived.Deep.RegionHeld3
namespace Go.Proofs.Ytkoaaagmcjjimaa
open Go.RowKit
set_option linter.unusedSimpArgs false
set_option linter.unusedVariables false

theorem firOf_none {x : GNet} {ms d out : List Int} {t : Int} (h : firOf x ms t d = (out, false)) : out = [] := by
  unfold firOf at h
  split at h
  · split at h
    · simp at h
    · simp at h; exact h.symm ▸ rfl
  · simp at h; exact h.symm ▸ rfl

set_option maxRecDepth 100000 in
set_option maxHeartbeats 4000000 in
theorem walk_FnFirSum (A : Option Addr) (c : Nat) (xs : List Int) (w : World) (h : Code w w.heap.size A c xs) :
    Calls Try.prog 9 #[.slice A xs.length c] w fun e w' => e = .returned (.bool true) ∧ Below w.heap.size w w' := by
  have hlen := h.1.1
  have HC := Lib.hid h
  clear h
  by_cases hl : 1048576 < xs.length
  · have hlz : (1048576 : Int) < (xs.length : Int) := by omega
    go_enter Try.func9, Try.ntmps9
    go_wp2
    go_ret
    exact ⟨rfl, Below.refl _ _⟩
  have hlz : ¬ (1048576 : Int) < (xs.length : Int) := by omega
  go_enter Try.func9, Try.ntmps9
  go_wp2_with fail
  refine (spec_DrawFirGive A c xs w HC.out).mono ?_
  rintro e w1 ⟨x, g, c2, A1, c1, ms, t, A3, c3, ds, rfl, hrow, hok, hms, hml, ht0, ht7, hds, hd4, hb1⟩
  have X := Lib.hid hrow
  have M := Lib.hid hms
  have D := Lib.hid hds
  have B := Lib.hid hb1
  clear hrow hb1 hok hds hms
  go_wp2_with fail
  refine callsAt fun V hV => ?_
  have P : Hid (Bk V w1.heap.size 37 #[.int .i64 x.places, .slice (some ⟨g, 0, none⟩) x.tasks.length c2]) := by show Bk _ _ _ _; rw [hV]; exact Bk.new rfl
  have hb : Below w1.heap.size w1 V := by rw [hV]; exact (Below.refl _ _).alloc (Nat.le_refl _) _
  have X := Lib.hid (X.out.later hb)
  have M := Lib.hid (M.out.below hb)
  have D := Lib.hid (D.out.below hb)
  have B := Lib.hid (B.out.trans (hb.mono B.out.size))
  have zV := hb.size
  clear hV hb
  have HFL := Lib.hid (firOf_len x ms t ds (by omega))
  obtain ⟨r, hr⟩ : ∃ r, r = firOf x ms t ds := ⟨_, rfl⟩
  have HR := Lib.hid hr.symm
  refine (impl_FirGive x (some ⟨g, 0, none⟩) c2 A1 c1 ms t A3 c3 ds none V X.out (M.out.more zV) (D.out.more zV)).mono ?_
  rintro e w2 ⟨v1, rfl, o1, hb⟩
  rw [← hr] at o1 HFL ⊢
  clear hr
  obtain ⟨A5, c5, rfl, h5⟩ := OwnI.of_v o1
  have P := Lib.hid (P.out.later hb)
  have X := Lib.hid (X.out.later hb)
  have M := Lib.hid (M.out.below (hb.mono zV))
  have D := Lib.hid (D.out.below (hb.mono zV))
  have B := Lib.hid (B.out.trans (hb.mono B.out.size))
  have O := Lib.hid h5
  have z2 := hb.size
  clear hb o1 h5
  obtain ⟨out, ok⟩ := r
  simp only at O HFL ⊢
  have hol := HFL.out
  have kP := fun i => P.out.cell i
  go_wp2_with fail
  clear kP
  refine (spec_FirGive x (some ⟨g, 0, none⟩) c2 A1 c1 ms t A3 c3 ds none w2 X.out (M.out.more (by omega)) (D.out.more (by omega))).mono ?_
  rintro e w3 ⟨v2, rfl, o2, hb⟩
  rw [HR.out] at o2 ⊢
  obtain ⟨A6, c6, rfl, h6⟩ := OwnI.of_v o2
  have P := Lib.hid (P.out.later hb)
  have X := Lib.hid (X.out.later hb)
  have M := Lib.hid (M.out.below (hb.mono (by omega)))
  have D := Lib.hid (D.out.below (hb.mono (by omega)))
  have B := Lib.hid (B.out.trans (hb.mono B.out.size))
  have O := Lib.hid (O.out.later hb)
  have Q := Lib.hid h6
  have z3 := hb.size
  clear hb o2 h6
  simp only at Q ⊢
  cases ok with
  | false =>
    have ho := firOf_none HR.out
    clear HFL hol HR
    subst ho
    have kP := fun i => P.out.cell i
    simp only [List.length_nil]
    go_wp2_with fail
    clear kP
    refine (laws_guInts _ _ _ _ [] [] w3 w3.heap.size Ints.nil Ints.nil).mono ?_
    rintro e _ ⟨rfl, q1, rfl⟩
    have hd1 : decide (([] : List Int) = []) = true := by simp
    rw [hd1]
    clear hd1
    have BN : Hid (Below w.heap.size w (w3.drewN q1)) := bdN B.out _
    generalize w3.drewN q1 = w4 at BN ⊢
    go_wp2_with (go_at_call 22; refine (laws_guOk _).mono ?_; rintro e w10 ⟨rfl, hb⟩; have BN := Lib.hid (BN.out.trans (hb.mono BN.out.size)); clear hb)
    go_ret
    exact ⟨rfl, BN.out⟩
  | true =>
  obtain ⟨j, hj, rfl, hx6, holm, hms8, hmo, hoo, hto3, hsum1, hto1, hcl⟩ := fir_law HR.out
  have ho8 : out.length ≤ 8 := by omega
  have HOL := Lib.hid holm
  clear holm HFL hol HR
  have kP := fun i => P.out.cell i
  go_wp2_with fail
  refine (laws_guInts _ _ _ _ out out w3 w3.heap.size (O.out.ints (by omega)) (Q.out.ints (by omega))).mono ?_
  rintro e _ ⟨rfl, q1, rfl⟩
  have hd1 : decide (out = out) = true := by simp
  rw [hd1]
  clear hd1 kP Q
  have hb : Below w3.heap.size w3 (w3.drewN q1) := bdN (Below.refl _ _) _
  generalize w3.drewN q1 = w4 at hb ⊢
  have P := Lib.hid (P.out.later hb)
  have X := Lib.hid (X.out.later hb)
  have M := Lib.hid (M.out.below (hb.mono (by omega)))
  have D := Lib.hid (D.out.below (hb.mono (by omega)))
  have B := Lib.hid (B.out.trans (hb.mono B.out.size))
  have O := Lib.hid (O.out.later hb)
  have z4 := hb.size
  clear hb
  have HMO : Hid (∀ z ∈ ms, -1000 ≤ z ∧ z ≤ 1000) := fun z hz => by have := hmo z hz; omega
  have HOO : Hid (∀ z ∈ out, -1000 ≤ z ∧ z ≤ 1000) := fun z hz => by have := hoo z hz; omega
  have hs1 := sum_bd ms HMO.out
  have hs2 := sum_bd out HOO.out
  obtain ⟨b, off, C1, e1, C2, e2, C3, e3, hA, _, ⟨_, hfl, _⟩, t0, t1, t2, t3, t4, t5, t6, t7, t8⟩ := task_at X.out hj
  cases hA
  simp only [Nat.zero_add] at t0 t1 t2 t3 t4 t5 t6 t7 t8
  have HF := Lib.hid hfl
  have HCL := Lib.hid hcl
  have HSP := Lib.hid (impl_SplTo x.tasks[j] C1 e1 C2 e2 C3 e3 A3 c3 ds none w4 hfl (D.out.more (by omega)) (by omega))
  have hjz : (j : Int) < (x.tasks.length : Int) := by omega
  clear hfl hcl hmo hoo
  generalize hy : x.tasks[j] = y at t0 t1 t2 t3 t4 t5 t6 t7 t8 HF HCL HSP hto3 hsum1 hto1
  clear hy
  unfold taskV at HSP
  have hspl := splTo_len y ds y.out.length
  generalize hspx : splTo y ds y.out.length = sp at HSP HCL hsum1 hto1 hspl
  clear hspx
  have HOS := Lib.hid (impl_MrkSum A5 c5 out w4 w4.heap.size (O.out.ints (by omega)) HOO.out (by omega))
  have HMS := Lib.hid (impl_MrkSum A1 c1 ms w4 w1.heap.size M.out HMO.out (by omega))
  have HMM : Hid ((∀ (i : Nat) (h : i < out.length) (h' : i < ms.length), ms[i] ≤ out[i]) → ∀ W : World, Below w4.heap.size w4 W → Calls Try.prog 57 #[.slice A5 out.length c5, .slice A1 ms.length c1] W fun e w' => e = .returned (.bool true) ∧ W = w') := fun hle W hb => impl_MrkMore A5 c5 out A1 c1 ms W W.heap.size ((O.out.later hb).ints (by omega)) ((M.out.below (hb.mono (by omega))).more (by have := hb.size; omega)) HOL.out hle
  have hs3 : -8000 ≤ ms.sum := by omega
  have hs4 : ms.sum ≤ 8000 := by omega
  have hs5 : -8000 ≤ out.sum := by omega
  have hs6 : out.sum ≤ 8000 := by omega
  clear hs1 hs2
  generalize ms.sum = sm at *
  generalize out.sum = so at *
  have kP := fun i => P.out.cell i
  go_wp2_with fail
  refine HOS.out.mono ?_
  rintro e _ ⟨rfl, rfl⟩
  go_wp2_with fail
  refine HMS.out.mono ?_
  rintro e _ ⟨rfl, rfl⟩
  go_wp2_with fail
  refine HSP.out.mono ?_
  rintro e w5 ⟨v5, rfl, hv5, hb⟩
  obtain ⟨A7, c7, rfl, _⟩ := OwnI.of_v hv5
  have P := Lib.hid (P.out.later hb)
  have B := Lib.hid (B.out.trans (hb.mono B.out.size))
  have BB := Lib.hid hb
  have z5 := hb.size
  have hgl : g < w4.heap.size := World.block_lt_of_cell? _ _ t4
  have t4' : w5.cell? ⟨g, j * 9 + 4, none⟩ = some (.slice C3 y.clear.length e3) := (hb.cell (p := ⟨g, j * 9 + 4, none⟩) hgl).trans t4
  clear hb hv5 kP t0 t1 t2 t3 t4 t5 t6 t7 t8 HOS HMS HSP
  have kP := fun i => P.out.cell i
  have q1 : so - sm ≤ (sp.length : Int) := hsum1
  have q2 : (1 : Int) ≤ (sp.length : Int) := by omega
  generalize y.clear.length = cl at t4' HCL
  by_cases hc : cl = 0
  · obtain ⟨h1, h2⟩ := HCL.out hc
    have HMMx := Lib.hid (HMM.out h2 w5 BB.out)
    have q3 : ¬ (0 : Int) < (cl : Int) := by omega
    have q4 : (so - sm == (sp.length : Int)) = true := by rw [beq_iff_eq]; exact h1
    clear h1 h2 hc HMM HCL hsum1 hto1
    go_wp2_with fail
    refine HMMx.out.mono ?_
    rintro e _ ⟨rfl, rfl⟩
    go_wp2
    go_ret
    exact ⟨rfl, B.out⟩
  · have q3 : (0 : Int) < (cl : Int) := by omega
    clear hc HMM HCL hsum1 hto1
    go_wp2
    go_ret
    exact ⟨rfl, B.out⟩
end Go.Proofs.Ytkoaaagmcjjimaa
