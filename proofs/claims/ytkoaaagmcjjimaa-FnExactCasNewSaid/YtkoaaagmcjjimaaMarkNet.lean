/- Nets marked: their copy's cells are turned, and nothing else. -/
import Derived.Test.YtkoaaagmcjjimaaNetAt
namespace Go.Proofs.Ytkoaaagmcjjimaa
open Go.RowKit

set_option maxRecDepth 100000 in
set_option maxHeartbeats 4000000 in
theorem laws_markNetTaskS (g c : Nat) (t : List GTask) (k : Int) (w : World) (lo hi : Nat) (h : NetAt w g hi t) (hlo : lo ≤ g) (hhi : g < hi) (hl : t.length ≤ 1048576) (hs : ∀ x ∈ t, taskFit x) (hk0 : 0 ≤ k) (hk : k ≤ 10000000) :
    Calls Try.prog 150 #[.slice (some ⟨g, 0, none⟩) t.length c, .int .i64 k] w fun e w' => (∃ v : Int, e = .returned (.int .i64 v) ∧ 0 ≤ v ∧ v ≤ 9000000000000) ∧ Inside lo hi w w' ∧ ∀ g o n, IntAt w g o n → IntAt w' g o n := by
  have HH := Lib.hid h
  have HSM := Lib.hid hs
  clear h hs
  go_enter Try.func150, Try.ntmps150
  go_wp2
  go_loopg [1, 5] t.length (fun gg s1 s5 wr => ∃ (j : Nat) (v : Int), j ≤ t.length ∧ t.length - j ≤ gg ∧ s5 = .int .i64 j ∧ s1 = .int .i64 v ∧ 0 ≤ v ∧ v ≤ 10000000 + j * 7000000 ∧ Aside (Inside lo hi w wr) ∧ Aside (NetAt wr g hi t) ∧ Aside (∀ g o n, IntAt w g o n → IntAt wr g o n))
  case atStart => exact ⟨0, k, Nat.zero_le _, by omega, rfl, rfl, hk0, by omega, Inside.refl _ _ _, HH.out, fun _ _ _ h => h⟩
  case round =>
    obtain ⟨j, v, hj, hg, rfl, rfl, hv0, hv1, IN, TA, IK⟩ := hrel
    by_cases hlt : j < t.length
    · have hltz : (j : Int) < (t.length : Int) := by omega
      obtain ⟨h3, _⟩ := TA.out.2 j hlt
      obtain ⟨z0, y0⟩ := h3 0 (by omega)
      obtain ⟨z1, y1⟩ := h3 1 (by omega)
      rw [Nat.add_zero] at y0
      have hfr := fun i => TA.out.frozen i
      obtain ⟨hs1, hs2, hs3⟩ := HSM.out t[j] (List.getElem_mem hlt)
      clear h3
      go_upto_region 8 with fail
      have T2 := Lib.hid ((TA.out.set j 0 (by omega) v).set j 1 (by omega) (v + 1))
      have I2 := Lib.hid ((IN.out.trans (Inside.setCell (p := ⟨g, j * 9 + 0, none⟩) hlo hhi (.int .i64 v))).trans (Inside.setCell (p := ⟨g, j * 9 + 1, none⟩) hlo hhi (.int .i64 (v + 1))))
      have K2 := Lib.hid (fun g' o' n' hg' => ((IK.out g' o' n' hg').any ⟨g, j * 9 + 0, none⟩ rfl v).any ⟨g, j * 9 + 1, none⟩ rfl (v + 1))
      rw [Nat.add_zero] at T2 I2 K2
      generalize hU : (wr.setCell _ _).setCell _ _ = U at T2 I2 K2 ⊢
      clear hU y0 y1 hfr TA IN IK
      obtain ⟨_, ⟨A, c1, h4, h5⟩, _, _⟩ := T2.out.2 j hlt
      go_wp2_with fail
      refine (mark_ints A c1 t[j].inn.length _ U (g + 1) hi (fun hn => by have h := h5 hn; rw [Nat.mul_one] at h; exact h) (by omega) (by omega) (by omega)).mono ?_
      rintro e w1 ⟨rfl, in1, kk⟩
      have T3 := Lib.hid (T2.out.data in1 kk)
      have K3 := Lib.hid (fun g' o' n' hg' => kk g' o' n' (K2.out g' o' n' hg'))
      have I3 := Lib.hid (I2.out.trans (⟨in1.os, in1.tape, in1.output, in1.size, fun b hb => in1.block b (by omega)⟩ : Inside lo hi U w1))
      clear in1 kk h4 h5 T2 I2 K2
      obtain ⟨_, _, ⟨A, c1, h4, h5⟩, _⟩ := T3.out.2 j hlt
      go_wp2_with fail
      refine (mark_flows A c1 t[j].out.length _ w1 (g + 1) hi h5 (by omega) (by omega) (by omega)).mono ?_
      rintro e w2 ⟨rfl, in1, kk⟩
      have T4 := Lib.hid (T3.out.data in1 kk)
      have K4 := Lib.hid (fun g' o' n' hg' => kk g' o' n' (K3.out g' o' n' hg'))
      have I4 := Lib.hid (I3.out.trans (⟨in1.os, in1.tape, in1.output, in1.size, fun b hb => in1.block b (by omega)⟩ : Inside lo hi w1 w2))
      clear in1 kk h4 h5 T3 I3 K3
      obtain ⟨_, _, _, ⟨A, c1, h4, h5⟩⟩ := T4.out.2 j hlt
      go_wp2_with fail
      refine (mark_ints A c1 t[j].clear.length _ w2 (g + 1) hi (fun hn => by have h := h5 hn; rw [Nat.mul_one] at h; exact h) (by omega) (by omega) (by omega)).mono ?_
      rintro e w3 ⟨rfl, in1, kk⟩
      have T5 := Lib.hid (T4.out.data in1 kk)
      have K5 := Lib.hid (fun g' o' n' hg' => kk g' o' n' (K4.out g' o' n' hg'))
      have I5 := Lib.hid (I4.out.trans (⟨in1.os, in1.tape, in1.output, in1.size, fun b hb => in1.block b (by omega)⟩ : Inside lo hi w2 w3))
      clear in1 kk h4 h5 T4 I4 K4
      obtain ⟨u, hu0, hu1, hue⟩ : ∃ u : Int, 0 ≤ u ∧ u ≤ v + 6500000 ∧ u = v + 1 + 1 + (t[j].inn.length : Int) + (t[j].out.length : Int) * 4 + (t[j].clear.length : Int) := ⟨v + 1 + 1 + (t[j].inn.length : Int) + (t[j].out.length : Int) * 4 + (t[j].clear.length : Int), by omega, by omega, rfl⟩
      rw [← hue]
      clear hue
      obtain ⟨h3, _⟩ := T5.out.2 j hlt
      obtain ⟨z5, y5⟩ := h3 5 (by omega)
      obtain ⟨z6, y6⟩ := h3 6 (by omega)
      obtain ⟨z7, y7⟩ := h3 7 (by omega)
      obtain ⟨z8, y8⟩ := h3 8 (by omega)
      have hfr := fun i => T5.out.frozen i
      clear h3
      go_wp2
      have T6 := Lib.hid ((((T5.out.set j 5 (by omega) u).set j 6 (by omega) (u + 1)).set j 7 (by omega) (u + 1 + 1)).set j 8 (by omega) (u + 1 + 1 + 1))
      have I6 := Lib.hid ((((I5.out.trans (Inside.setCell (p := ⟨g, j * 9 + 5, none⟩) hlo hhi (.int .i64 u))).trans (Inside.setCell (p := ⟨g, j * 9 + 6, none⟩) hlo hhi (.int .i64 (u + 1)))).trans (Inside.setCell (p := ⟨g, j * 9 + 7, none⟩) hlo hhi (.int .i64 (u + 1 + 1)))).trans (Inside.setCell (p := ⟨g, j * 9 + 8, none⟩) hlo hhi (.int .i64 (u + 1 + 1 + 1))))
      have K6 := Lib.hid (fun g' o' n' hg' => ((((K5.out g' o' n' hg').any ⟨g, j * 9 + 5, none⟩ rfl u).any ⟨g, j * 9 + 6, none⟩ rfl (u + 1)).any ⟨g, j * 9 + 7, none⟩ rfl (u + 1 + 1)).any ⟨g, j * 9 + 8, none⟩ rfl (u + 1 + 1 + 1))
      go_roundg (t.length - (j + 1))
      case measure => omega
      case rel => exact ⟨j + 1, _, by omega, by omega, by go_num, rfl, by omega, by omega, I6.out, T6.out, K6.out⟩
    · have hltz : ¬ (j : Int) < (t.length : Int) := by omega
      go_wp2
      go_ret
      exact ⟨⟨v, rfl, hv0, by omega⟩, IN.out, IK.out⟩

set_option maxHeartbeats 1000000 in
theorem laws_markNetNet (g c : Nat) (x : GNet) (k : Int) (w : World) (lo hi : Nat) (h : NetAt w g hi x.tasks) (hlo : lo ≤ g) (hhi : g < hi) (hw : hi ≤ w.heap.size) (hl : x.tasks.length ≤ 1048576) (hs : ∀ y ∈ x.tasks, taskFit y) (hk0 : 0 ≤ k) (hk : k ≤ 10000000) :
    Calls Try.prog 73 #[.agg #[.int .i64 x.places, .slice (some ⟨g, 0, none⟩) x.tasks.length c], .int .i64 k] w fun e w' => (∃ v : Int, e = .returned (.int .i64 v) ∧ 0 ≤ v ∧ v ≤ 9000000000000) ∧ InsideG lo hi w w' ∧ ∀ g o n, IntAt w g o n → IntAt w' g o n := by
  have HH := Lib.hid h
  have HS := Lib.hid hs
  clear h hs
  go_enter Try.func73, Try.ntmps73
  go_wp2_with fail
  refine callsAt fun W hW => ?_
  have hB : Below w.heap.size w W := by rw [hW]; exact (Below.refl _ _).alloc (Nat.le_refl _) _
  clear hW
  refine (laws_markNetTaskS g c x.tasks k W lo hi (HH.out.later hB (by omega) hw) hlo hhi hl HS.out hk0 hk).mono ?_
  rintro e w1 ⟨⟨v, rfl, hv0, hv1⟩, hin, hkk⟩
  have HI := Lib.hid hin
  have HB := Lib.hid hB
  have HK := Lib.hid hkk
  clear hin hB hkk
  go_wp2
  go_ret
  exact ⟨⟨v, rfl, hv0, hv1⟩, ⟨HI.out.os.trans HB.out.os, HI.out.tape.trans HB.out.tape, HI.out.output.trans HB.out.output, by rw [HI.out.size]; exact HB.out.size, fun b hb ho => (HI.out.block b ho).trans (HB.out.block b hb)⟩, fun g' o' n' hg' => HK.out g' o' n' (hg'.later HB.out (by obtain ⟨⟨cur, t, hc⟩, _⟩ := hg'; exact (Array.getElem?_eq_some_iff.1 hc).1))⟩
end Go.Proofs.Ytkoaaagmcjjimaa
