/- The walk of FnExactEngReqOk: it returns true. -/
import Derived.Test.YtnnhhmdeoedmmaaReqCopy
import Derived.Test.YtnnhhmdeoedmmaaReqOkI
namespace Go.Proofs.Ytnnhhmdeoedmmaa
open Go.RowKit
set_option linter.unusedSimpArgs false

set_option maxRecDepth 100000 in
set_option maxHeartbeats 4000000 in
theorem walk_FnExactEngReqOk (v : Value) (x : GReq) (w : World) (h : ∃ cs : List Value, v = .agg cs.toArray ∧ reqC.R none w w.heap.size x cs) :
    Calls Try.prog 16 #[v] w fun e w' => e = .returned (.bool true) ∧ Below w.heap.size w w' := by
  obtain ⟨cs, rfl, A, c, rfl, h1⟩ := h
  show Calls Try.prog 16 #[.agg #[.int .i64 x.kind, .int .i64 x.a1, .int .i64 x.a2, .int .i64 x.a3, .int .i64 x.a4, .int .i64 x.a5, .slice A x.data.length c, .int .i64 x.ask.op, .int .i64 x.ask.var, .int .i64 x.ask.k, .int .i64 x.ans]] w _
  have HX := Lib.hid h1.ints
  have hn := h1.1
  clear h1
  by_cases hs : szOf x.data.length 1048576 < 0
  · go_enter Try.func16, Try.ntmps16
    go_wp2_with fail
    refine callsAt fun W hW => ?_
    have hB : Below w.heap.size w W := by rw [hW]; go_grown
    clear hW
    refine (laws_szEngReq x A c 1048576 (by omega) (by omega) hn _).mono ?_
    rintro e w1 ⟨rfl, hb⟩
    have Q1 := Lib.hid (hB.trans (hb.mono hB.size))
    clear hb hB
    go_wp2
    go_ret
    exact ⟨rfl, Q1.out⟩
  · have hl : x.data.length ≤ 1048576 := by have := szOf_pos hs; omega
    go_enter Try.func16, Try.ntmps16
    go_wp2_with fail
    refine callsAt fun W hW => ?_
    have b0 : Bk W w.heap.size 60 #[.int .i64 x.kind, .int .i64 x.a1, .int .i64 x.a2, .int .i64 x.a3, .int .i64 x.a4, .int .i64 x.a5, .slice A x.data.length c, .int .i64 x.ask.op, .int .i64 x.ask.var, .int .i64 x.ask.k, .int .i64 x.ans] := by rw [hW]; exact Bk.new rfl
    have hB : Below w.heap.size w W := by rw [hW]; go_grown
    clear hW
    refine (laws_szEngReq x A c 1048576 (by omega) (by omega) hn _).mono ?_
    rintro e w1 ⟨rfl, hb⟩
    have K1 := Lib.hid (b0.later hb)
    have Q1 := Lib.hid (hB.trans (hb.mono hB.size))
    have k1 := fun i => K1.out.cell i
    clear hb hB b0
    go_wp2_with fail
    refine (laws_toEngReq x A c _ (HX.out.later Q1.out) hl).mono ?_
    rintro e w2 ⟨A2, c2, rfl, hi2, hb2⟩
    have I2 := Lib.hid hi2
    have K2 := Lib.hid (K1.out.later hb2)
    have Q2 := Lib.hid (Q1.out.trans (hb2.mono Q1.out.size))
    clear hi2 hb2 k1 K1 Q1
    go_wp2_with fail
    refine (spec_EngReqOk x A2 c2 _ I2.out).mono ?_
    rintro e w3 ⟨rfl, hb3⟩
    have K3 := Lib.hid (K2.out.later hb3)
    have Q3 := Lib.hid (Q2.out.trans (hb3.mono Q2.out.size))
    have k3 := fun i => K3.out.cell i
    clear hb3 K2 Q2 I2
    go_wp2_with fail
    refine (laws_toEngReq x A c _ (HX.out.later Q3.out) hl).mono ?_
    rintro e w4 ⟨A4, c4, rfl, hi4, hb4⟩
    rw [show (x.cells A4 c4).toArray = #[.int .i64 x.kind, .int .i64 x.a1, .int .i64 x.a2, .int .i64 x.a3, .int .i64 x.a4, .int .i64 x.a5, .slice A4 x.data.length c4, .int .i64 x.ask.op, .int .i64 x.ask.var, .int .i64 x.ask.k, .int .i64 x.ans] from rfl]
    have I4 := Lib.hid hi4
    have K4 := Lib.hid (K3.out.later hb4)
    have Q4 := Lib.hid (Q3.out.trans (hb4.mono Q3.out.size))
    clear hi4 hb4 k3 K3 Q3
    go_wp2_with fail
    refine callsAt fun V hV => ?_
    have bE : Bk V w4.heap.size 64 #[.int .i64 x.kind, .int .i64 x.a1, .int .i64 x.a2, .int .i64 x.a3, .int .i64 x.a4, .int .i64 x.a5, .slice A4 x.data.length c4, .int .i64 x.ask.op, .int .i64 x.ask.var, .int .i64 x.ask.k, .int .i64 x.ans] := by
      rw [hV]
      exact Bk.new rfl
    have hBV : Below w4.heap.size w4 V := by rw [hV]; go_grown
    clear hV
    refine (impl_EngReqOk x A4 c4 V (I4.out.later hBV)).mono ?_
    rintro e w5 ⟨rfl, hb5⟩
    have E5 := Lib.hid (bE.later hb5)
    have K5 := Lib.hid ((K4.out.later hBV).later hb5)
    have Q5 := Lib.hid (Q4.out.trans ((hBV.trans (hb5.mono hBV.size)).mono Q4.out.size))
    have I5 := Lib.hid ((I4.out.later hBV).later hb5)
    clear hb5 hBV bE K4 Q4 I4
    have hne : (reqOk x != reqOk x) = false := by simp
    go_upto_region 10 with fail
    have XD : Hid (Ints w5.drew w5.drew.heap.size A x.data) := HX.out.later Q5.out.drew
    have ID : Hid (Ints w5.drew w5.drew.heap.size A4 x.data) := I5.out
    have KD : Hid (Bk w5.drew w.heap.size 60 #[.int .i64 x.kind, .int .i64 x.a1, .int .i64 x.a2, .int .i64 x.a3, .int .i64 x.a4, .int .i64 x.a5, .slice A x.data.length c, .int .i64 x.ask.op, .int .i64 x.ask.var, .int .i64 x.ask.k, .int .i64 x.ans]) := K5.out
    have ED : Hid (Bk w5.drew w4.heap.size 64 #[.int .i64 x.kind, .int .i64 x.a1, .int .i64 x.a2, .int .i64 x.a3, .int .i64 x.a4, .int .i64 x.a5, .slice A4 x.data.length c4, .int .i64 x.ask.op, .int .i64 x.ask.var, .int .i64 x.ask.k, .int .i64 x.ans]) := E5.out
    have S5 := Lib.hid (And.intro (reqS KD.out) (reqS ED.out))
    refine wp_region_held_drew (S := (fun V : World => (V.cell? ⟨w.heap.size, 0, none⟩ = some (.int .i64 x.kind) ∧ V.cell? ⟨w.heap.size, 1, none⟩ = some (.int .i64 x.a1) ∧ V.cell? ⟨w.heap.size, 2, none⟩ = some (.int .i64 x.a2) ∧ V.cell? ⟨w.heap.size, 3, none⟩ = some (.int .i64 x.a3) ∧ V.cell? ⟨w.heap.size, 4, none⟩ = some (.int .i64 x.a4) ∧ V.cell? ⟨w.heap.size, 5, none⟩ = some (.int .i64 x.a5) ∧ V.cell? ⟨w.heap.size, 6, none⟩ = some (.slice A x.data.length c) ∧ V.cell? ⟨w.heap.size, 7, none⟩ = some (.int .i64 x.ask.op) ∧ V.cell? ⟨w.heap.size, 8, none⟩ = some (.int .i64 x.ask.var) ∧ V.cell? ⟨w.heap.size, 9, none⟩ = some (.int .i64 x.ask.k) ∧ V.cell? ⟨w.heap.size, 10, none⟩ = some (.int .i64 x.ans)) ∧ (V.cell? ⟨w4.heap.size, 0, none⟩ = some (.int .i64 x.kind) ∧ V.cell? ⟨w4.heap.size, 1, none⟩ = some (.int .i64 x.a1) ∧ V.cell? ⟨w4.heap.size, 2, none⟩ = some (.int .i64 x.a2) ∧ V.cell? ⟨w4.heap.size, 3, none⟩ = some (.int .i64 x.a3) ∧ V.cell? ⟨w4.heap.size, 4, none⟩ = some (.int .i64 x.a4) ∧ V.cell? ⟨w4.heap.size, 5, none⟩ = some (.int .i64 x.a5) ∧ V.cell? ⟨w4.heap.size, 6, none⟩ = some (.slice A4 x.data.length c4) ∧ V.cell? ⟨w4.heap.size, 7, none⟩ = some (.int .i64 x.ask.op) ∧ V.cell? ⟨w4.heap.size, 8, none⟩ = some (.int .i64 x.ask.var) ∧ V.cell? ⟨w4.heap.size, 9, none⟩ = some (.int .i64 x.ask.k) ∧ V.cell? ⟨w4.heap.size, 10, none⟩ = some (.int .i64 x.ans)))) (by kernel_rfl) S5.out (fun hHeld => ?_)
    refine wpAnyH_take (i := 0) (v := ?_) rfl (by kernel_rfl) (by kernel_rfl) (by kernel_rfl) (fun _ _ _ h => h) (Or.inl ⟨by rfl, ?_⟩) (by assumption) ?_
    rotate_left
    · intro V hSw
      (try dsimp only at hSw)
      go_simp
      (try with_reducible rfl)
    simp only [List.getElem_toArray, List.getElem_cons_succ, List.getElem_cons_zero, Act.put, List.setIfInBounds_toArray, List.set_cons_zero, List.set_cons_succ]
    refine wpAnyH_take (i := 1) (v := ?_) rfl (by kernel_rfl) (by kernel_rfl) (by kernel_rfl) (fun _ _ _ h => h) (Or.inl ⟨by rfl, ?_⟩) (by assumption) ?_
    rotate_left
    · intro V hSw
      (try dsimp only at hSw)
      go_simp
      (try with_reducible rfl)
    simp only [List.getElem_toArray, List.getElem_cons_succ, List.getElem_cons_zero, Act.put, List.setIfInBounds_toArray, List.set_cons_zero, List.set_cons_succ]
    refine wpAnyH_ready (rs := [2]) (by kernel_rfl) (by simp) ?_
    refine AllReadyH.cons rfl (fun K hK => ?_) ?_
    rotate_left
    · exact AllReadyH.nil
    go_simp
    go_wp2_with (go_at_call 54; refine (laws_toEngReq x A c _ XD.out hl).mono ?_; rintro e w6 ⟨A6, c6, rfl, hi6, hb6⟩; have I6 := Lib.hid hi6; have S6 := Lib.hid (And.intro (reqS (KD.out.later hb6)) (reqS (ED.out.later hb6))))
    refine hK.out _ _ S6.out (fun hHeld => ?_)
    clear hK K
    refine wpAnyH_ready (rs := [3]) (by kernel_rfl) (by simp) ?_
    refine AllReadyH.cons rfl (fun K hK => ?_) ?_
    rotate_left
    · exact AllReadyH.nil
    go_simp
    go_wp2_with (go_at_call 56; refine (laws_eqEngReq x A4 A6 c4 c6 _ (ID.out.later hb6) I6.out).mono ?_; rintro e w7 ⟨rfl, hb7⟩; have S7 := Lib.hid (And.intro (reqS ((KD.out.later hb6).later hb7)) (reqS ((ED.out.later hb6).later hb7))))
    refine hK.out _ _ S7.out (fun hHeld => ?_)
    clear hK K
    refine wpAnyH_take (i := 4) (v := ?_) rfl (by kernel_rfl) (by kernel_rfl) (by kernel_rfl) (fun _ _ _ h => h) (Or.inl ⟨by rfl, ?_⟩) (by assumption) ?_
    rotate_left
    · intro V hSw
      (try dsimp only at hSw)
      go_simp
      (try with_reducible rfl)
    simp only [List.getElem_toArray, List.getElem_cons_succ, List.getElem_cons_zero, Act.put, List.setIfInBounds_toArray, List.set_cons_zero, List.set_cons_succ]
    refine wpAnyH_done (by kernel_rfl) ?_ _
    go_wp2
    go_ret
    exact ⟨rfl, Q5.out.drew.trans ((hb6.trans (hb7.mono hb6.size)).mono Q5.out.size)⟩
end Go.Proofs.Ytnnhhmdeoedmmaa
