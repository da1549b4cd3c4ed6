/- guTask, guNet: nets that are the same are found the same. -/
import Derived.Test.YtkkjljpokannkaaNet
import Derived.Test.YtkkjljpokannkaaAsk
import Derived.Deep.RegionHeld3
namespace Go.Proofs.Ytkkjljpokannkaa
open Go.RowKit
set_option linter.unusedSimpArgs false
set_option linter.unusedVariables false

theorem neFlow (a b c d : Int) (w : World) : (binOp .neq 142 (.agg #[.int .i64 a, .int .i64 b, .int .i64 c, .int .i64 d]) (.agg #[.int .i64 a, .int .i64 b, .int .i64 c, .int .i64 d])).run Try.prog w = .ok (.bool false) w := by
  have u3 := Try.underlying3
  have a3 := Try.isAgg3
  have z3 := Try.sizeOf3
  have uA := Try.underlying120
  have aA := Try.isAgg120
  have zA := Try.sizeOf120
  have hS : Try.prog.underlying 142 = some (.struct (Try.prog.fieldsOf 142)) := by kernel_rfl
  have hp : Try.prog.stoodInHeld 142 = false := by kernel_rfl
  have hSA : Try.prog.underlying 120 = some (.struct (Try.prog.fieldsOf 120)) := by kernel_rfl
  have hpA : Try.prog.stoodInHeld 120 = false := by kernel_rfl
  rw [run_neq_struct, show (10000 : Nat) = 9999 + 1 from rfl, run_equalIn_agg w 9999 142 _ _ hS hp]
  simp only [Program.fieldsOf, Try.underlying142]
  go_simp
theorem guardFlow (op : BinOp) (o p : Operand) (x y : Array Value) (w : World) : (eqGuard op 142 o p (.agg x) (.agg y)).run Try.prog w = .ok () w :=
  run_eqGuard_agg w op 142 o p x y (by kernel_rfl)

set_option maxRecDepth 100000 in
set_option maxHeartbeats 4000000 in
theorem laws_guTask (x : GTask) (A2 A2' A3 A3' A4 A4' : Option Addr) (c2 c2' c3 c3' c4 c4' : Nat) (m m' : Option Nat) (w : World)
    (h2 : Rows intC m w w.heap.size A2 x.inn) (h2' : Rows intC m' w w.heap.size A2' x.inn) (h3 : Rows flowC m w w.heap.size A3 x.out) (h3' : Rows flowC m' w w.heap.size A3' x.out) (h4 : Rows intC m w w.heap.size A4 x.clear) (h4' : Rows intC m' w w.heap.size A4' x.clear) :
    Calls Try.prog 162 #[.agg #[.int .i64 x.join, .int .i64 x.split, .slice A2 x.inn.length c2, .slice A3 x.out.length c3, .slice A4 x.clear.length c4, .int .i64 x.role, .int .i64 x.apart, .int .i64 x.all, .int .i64 x.need], .agg #[.int .i64 x.join, .int .i64 x.split, .slice A2' x.inn.length c2', .slice A3' x.out.length c3', .slice A4' x.clear.length c4', .int .i64 x.role, .int .i64 x.apart, .int .i64 x.all, .int .i64 x.need]] w fun e w' => e = .returned (.bool true) ∧ Below w.heap.size w w' := by
  have n3 := h3.1
  have H2 := Lib.hid h2.ints
  have H2' := Lib.hid h2'.ints
  have H3 := Lib.hid h3
  have H3' := Lib.hid h3'
  have H4 := Lib.hid h4.ints
  have H4' := Lib.hid h4'.ints
  clear h2 h2' h3 h3' h4 h4'
  have hne := Lib.hid (fun a b c d w => neFlow a b c d w)
  have hng := Lib.hid (fun op o p x y w => guardFlow op o p x y w)
  have e1 : (x.join != x.join) = false := by simp
  have e2 : (x.split != x.split) = false := by simp
  have e3 : (x.role != x.role) = false := by simp
  have e4 : (x.apart != x.apart) = false := by simp
  have e5 : (x.all != x.all) = false := by simp
  have e6 : (x.need != x.need) = false := by simp
  go_enter Try.func162, Try.ntmps162
  go_wp2_with fail
  refine callsAt fun W hW => ?_
  have B : Hid (Below w.heap.size w W) := by show Below _ _ _; rw [hW]; go_grown
  have P : Hid (Bk W w.heap.size 42 #[.int .i64 x.join, .int .i64 x.split, .slice A2 x.inn.length c2, .slice A3 x.out.length c3, .slice A4 x.clear.length c4, .int .i64 x.role, .int .i64 x.apart, .int .i64 x.all, .int .i64 x.need]) := by show Bk _ _ _ _; rw [hW]; exact (Bk.new rfl).alloc _
  have P' : Hid (Bk W (w.heap.size + 1) 42 #[.int .i64 x.join, .int .i64 x.split, .slice A2' x.inn.length c2', .slice A3' x.out.length c3', .slice A4' x.clear.length c4', .int .i64 x.role, .int .i64 x.apart, .int .i64 x.all, .int .i64 x.need]) := by show Bk _ _ _ _; rw [hW]; exact Bk.new (by simp)
  clear hW
  have hQ : ∀ (ys : List Int) (A A' : Option Addr) (c c' q : Nat), Ints w w.heap.size A ys → Ints w w.heap.size A' ys → Calls Try.prog 19 #[.slice A ys.length c, .slice A' ys.length c'] (W.drewN q) fun e w'' => e = .returned (.bool true) ∧ ∃ m, w'' = W.drewN m := fun ys A A' c c' q h h' => (laws_guInts A A' c c' ys ys (W.drewN q) W.heap.size ((h.later B.out : Ints W W.heap.size A ys)) (h'.later B.out : Ints W W.heap.size A' ys)).mono fun e w'' ⟨h1, k, h2⟩ => ⟨by rw [h1]; simp, q + k, h2.trans (by rw [World.drewN_drewN])⟩
  have HQ := Lib.hid hQ
  clear hQ
  refine (HQ.out x.inn A2 A2' c2 c2' 0 H2.out H2'.out).mono ?_
  rintro e _ ⟨rfl, q1, rfl⟩
  have kP := fun i => P.out.cell i
  have kP' := fun i => P'.out.cell i
  go_wp2_with fail
  refine (HQ.out x.clear A4 A4' c4 c4' q1 H4.out H4'.out).mono ?_
  rintro e _ ⟨rfl, q2, rfl⟩
  go_wp2
  go_loopg [5] x.out.length (fun gg s5 wr => ∃ k : Nat, k ≤ x.out.length ∧ x.out.length - k ≤ gg ∧ s5 = .int .i64 k ∧ Aside (∃ n, wr = W.drewN n))
  case atStart => exact ⟨0, Nat.zero_le _, by omega, rfl, _, rfl⟩
  case round =>
    obtain ⟨k, hk, hg, rfl, DW⟩ := hrel
    obtain ⟨q, rfl⟩ := DW.out
    by_cases hlt : k < x.out.length
    · have hltz : (k : Int) < (x.out.length : Int) := by omega
      have hk0 : (0 : Int) ≤ (k : Int) := by omega
      obtain ⟨b, off, rfl, hb, hc0, hc1, hc2, hc3⟩ := flow_at (H3.out.later B.out) hlt
      obtain ⟨b', off', rfl, hb', hd0, hd1, hd2, hd3⟩ := flow_at (H3'.out.later B.out) hlt
      generalize x.out[k] = f at hc0 hc1 hc2 hc3 hd0 hd1 hd2 hd3
      obtain ⟨fto, fop, fvar, fk⟩ := f
      have hE := hne.out
      have hG := hng.out
      go_wp2
      go_quiet (fail)
      go_wp2
      go_roundg (x.out.length - (k + 1))
      case measure => omega
      case rel => exact ⟨k + 1, by omega, by omega, by go_num, _, rfl⟩
    · have hltz : ¬ (k : Int) < (x.out.length : Int) := by omega
      go_wp2
      go_ret
      exact ⟨rfl, bdN B.out _⟩

set_option maxRecDepth 100000 in
set_option maxHeartbeats 4000000 in
theorem laws_guNet (x : GNet) (A A' : Option Addr) (c c' : Nat) (m m' : Option Nat) (w : World) (h : Rows taskC m w w.heap.size A x.tasks) (h' : Rows taskC m' w w.heap.size A' x.tasks) :
    Calls Try.prog 82 #[.agg #[.int .i64 x.places, .slice A x.tasks.length c], .agg #[.int .i64 x.places, .slice A' x.tasks.length c']] w fun e w' => e = .returned (.bool true) ∧ Below w.heap.size w w' := by
  have n3 := h.1
  have H := Lib.hid h
  have H' := Lib.hid h'
  clear h h'
  have e1 : (x.places != x.places) = false := by simp
  go_enter Try.func82, Try.ntmps82
  go_wp2
  generalize hW : World.alloc (World.alloc w _) _ = W
  have B : Hid (Below w.heap.size w W) := by show Below _ _ _; rw [← hW]; go_grown
  have P : Hid (Bk W w.heap.size 37 #[.int .i64 x.places, .slice A x.tasks.length c]) := by show Bk _ _ _ _; rw [← hW]; exact (Bk.new rfl).alloc _
  have P' : Hid (Bk W (w.heap.size + 1) 37 #[.int .i64 x.places, .slice A' x.tasks.length c']) := by show Bk _ _ _ _; rw [← hW]; exact Bk.new (by simp)
  clear hW
  go_loopg [5] x.tasks.length (fun gg s5 wr => ∃ k : Nat, k ≤ x.tasks.length ∧ x.tasks.length - k ≤ gg ∧ s5 = .int .i64 k ∧ Aside (Below W.heap.size W wr))
  case atStart => exact ⟨0, Nat.zero_le _, by omega, rfl, Below.refl _ _⟩
  case round =>
    obtain ⟨k, hk, hg, rfl, BW⟩ := hrel
    have kP := fun i => (P.out.later BW.out).cell i
    have kP' := fun i => (P'.out.later BW.out).cell i
    by_cases hlt : k < x.tasks.length
    · have hltz : (k : Int) < (x.tasks.length : Int) := by omega
      have hk0 : (0 : Int) ≤ (k : Int) := by omega
      have BB := Lib.hid (B.out.trans (BW.out.mono B.out.size))
      obtain ⟨b, off, C1, i1, C2, i2, C3, i3, rfl, hb, hr, t0, t1, t2, t3, t4, t5, t6, t7, t8⟩ := task_at (H.out.later BB.out) hlt
      obtain ⟨b', off', D1, j1, D2, j2, D3, j3, rfl, hb', hr', u0, u1, u2, u3, u4, u5, u6, u7, u8⟩ := task_at (H'.out.later BB.out) hlt
      have HR := Lib.hid hr
      have HR' := Lib.hid hr'
      clear hr hr'
      generalize x.tasks[k] = y at HR HR' t0 t1 t2 t3 t4 t5 t6 t7 t8 u0 u1 u2 u3 u4 u5 u6 u7 u8
      go_wp2
      have hbd : Below wr.heap.size wr wr.drew := (Below.refl _ _).drew
      refine wp_region_held_drew (S := (fun V : World => V.cell? ⟨w.heap.size, 1, none⟩ = some (.slice (some ⟨b, off, none⟩) x.tasks.length c) ∧ V.cell? ⟨w.heap.size + 1, 1, none⟩ = some (.slice (some ⟨b', off', none⟩) x.tasks.length c') ∧ V.cell? ⟨b, off + k * 9, none⟩ = some (.int .i64 y.join) ∧ V.cell? ⟨b, off + k * 9 + 1, none⟩ = some (.int .i64 y.split) ∧ V.cell? ⟨b, off + k * 9 + 2, none⟩ = some (.slice C1 y.inn.length i1) ∧ V.cell? ⟨b, off + k * 9 + 3, none⟩ = some (.slice C2 y.out.length i2) ∧ V.cell? ⟨b, off + k * 9 + 4, none⟩ = some (.slice C3 y.clear.length i3) ∧ V.cell? ⟨b, off + k * 9 + 5, none⟩ = some (.int .i64 y.role) ∧ V.cell? ⟨b, off + k * 9 + 6, none⟩ = some (.int .i64 y.apart) ∧ V.cell? ⟨b, off + k * 9 + 7, none⟩ = some (.int .i64 y.all) ∧ V.cell? ⟨b, off + k * 9 + 8, none⟩ = some (.int .i64 y.need) ∧ V.cell? ⟨b', off' + k * 9, none⟩ = some (.int .i64 y.join) ∧ V.cell? ⟨b', off' + k * 9 + 1, none⟩ = some (.int .i64 y.split) ∧ V.cell? ⟨b', off' + k * 9 + 2, none⟩ = some (.slice D1 y.inn.length j1) ∧ V.cell? ⟨b', off' + k * 9 + 3, none⟩ = some (.slice D2 y.out.length j2) ∧ V.cell? ⟨b', off' + k * 9 + 4, none⟩ = some (.slice D3 y.clear.length j3) ∧ V.cell? ⟨b', off' + k * 9 + 5, none⟩ = some (.int .i64 y.role) ∧ V.cell? ⟨b', off' + k * 9 + 6, none⟩ = some (.int .i64 y.apart) ∧ V.cell? ⟨b', off' + k * 9 + 7, none⟩ = some (.int .i64 y.all) ∧ V.cell? ⟨b', off' + k * 9 + 8, none⟩ = some (.int .i64 y.need))) (by kernel_rfl) ⟨(P.out.later BW.out).cell 1, (P'.out.later BW.out).cell 1, t0, t1, t2, t3, t4, t5, t6, t7, t8, u0, u1, u2, u3, u4, u5, u6, u7, u8⟩ (fun hHeld => ?_)
      have BV := Lib.hid (BW.out.trans (hbd.mono BW.out.size))
      have HR : Hid (Rows intC m wr.drew wr.drew.heap.size C1 y.inn ∧ Rows flowC m wr.drew wr.drew.heap.size C2 y.out ∧ Rows intC m wr.drew wr.drew.heap.size C3 y.clear) := HR.out
      have HR' : Hid (Rows intC m' wr.drew wr.drew.heap.size D1 y.inn ∧ Rows flowC m' wr.drew wr.drew.heap.size D2 y.out ∧ Rows intC m' wr.drew wr.drew.heap.size D3 y.clear) := HR'.out
      have Lb : b < wr.drew.heap.size := hb
      have Lb' : b' < wr.drew.heap.size := hb'
      have TC : Hid (wr.drew.cell? ⟨w.heap.size, 1, none⟩ = some (.slice (some ⟨b, off, none⟩) x.tasks.length c) ∧ wr.drew.cell? ⟨w.heap.size + 1, 1, none⟩ = some (.slice (some ⟨b', off', none⟩) x.tasks.length c') ∧ wr.drew.cell? ⟨b, off + k * 9, none⟩ = some (.int .i64 y.join) ∧ wr.drew.cell? ⟨b, off + k * 9 + 1, none⟩ = some (.int .i64 y.split) ∧ wr.drew.cell? ⟨b, off + k * 9 + 2, none⟩ = some (.slice C1 y.inn.length i1) ∧ wr.drew.cell? ⟨b, off + k * 9 + 3, none⟩ = some (.slice C2 y.out.length i2) ∧ wr.drew.cell? ⟨b, off + k * 9 + 4, none⟩ = some (.slice C3 y.clear.length i3) ∧ wr.drew.cell? ⟨b, off + k * 9 + 5, none⟩ = some (.int .i64 y.role) ∧ wr.drew.cell? ⟨b, off + k * 9 + 6, none⟩ = some (.int .i64 y.apart) ∧ wr.drew.cell? ⟨b, off + k * 9 + 7, none⟩ = some (.int .i64 y.all) ∧ wr.drew.cell? ⟨b, off + k * 9 + 8, none⟩ = some (.int .i64 y.need) ∧ wr.drew.cell? ⟨b', off' + k * 9, none⟩ = some (.int .i64 y.join) ∧ wr.drew.cell? ⟨b', off' + k * 9 + 1, none⟩ = some (.int .i64 y.split) ∧ wr.drew.cell? ⟨b', off' + k * 9 + 2, none⟩ = some (.slice D1 y.inn.length j1) ∧ wr.drew.cell? ⟨b', off' + k * 9 + 3, none⟩ = some (.slice D2 y.out.length j2) ∧ wr.drew.cell? ⟨b', off' + k * 9 + 4, none⟩ = some (.slice D3 y.clear.length j3) ∧ wr.drew.cell? ⟨b', off' + k * 9 + 5, none⟩ = some (.int .i64 y.role) ∧ wr.drew.cell? ⟨b', off' + k * 9 + 6, none⟩ = some (.int .i64 y.apart) ∧ wr.drew.cell? ⟨b', off' + k * 9 + 7, none⟩ = some (.int .i64 y.all) ∧ wr.drew.cell? ⟨b', off' + k * 9 + 8, none⟩ = some (.int .i64 y.need)) := hHeld
      generalize wr.drew = wd at BV HR HR' Lb Lb' TC hHeld ⊢
      clear hbd t0 t1 t2 t3 t4 t5 t6 t7 t8 u0 u1 u2 u3 u4 u5 u6 u7 u8 kP kP' hb hb'
      refine wpAnyH_take (i := 0) (v := ?_) rfl (by kernel_rfl) (by kernel_rfl) (by kernel_rfl) (fun _ _ _ h => h) (Or.inl ⟨by rfl, ?_⟩) (by assumption) ?_
      rotate_left
      · intro V hSw
        (try dsimp only at hSw)
        go_simp
        (try with_reducible rfl)
      simp only [List.getElem_toArray, List.getElem_cons_succ, List.getElem_cons_zero, Act.put, List.setIfInBounds_toArray, List.set_cons_zero, List.set_cons_succ]
      refine wpAnyH_take (i := 1) (v := ?_) rfl (by kernel_rfl) (by kernel_rfl) (by kernel_rfl) (fun _ _ _ h => h) (Or.inl ⟨by rfl, ?_⟩) (by assumption) ?_
      rotate_left
      · intro V hSw
        (try dsimp only at hSw)
        go_simp
        (try with_reducible rfl)
      simp only [List.getElem_toArray, List.getElem_cons_succ, List.getElem_cons_zero, Act.put, List.setIfInBounds_toArray, List.set_cons_zero, List.set_cons_succ]
      refine wpAnyH_take (i := 2) (v := ?_) rfl (by kernel_rfl) (by kernel_rfl) (by kernel_rfl) (fun _ _ _ h => h) (Or.inl ⟨by rfl, ?_⟩) (by assumption) ?_
      rotate_left
      · intro V hSw
        (try dsimp only at hSw)
        go_simp
        (try with_reducible rfl)
      simp only [List.getElem_toArray, List.getElem_cons_succ, List.getElem_cons_zero, Act.put, List.setIfInBounds_toArray, List.set_cons_zero, List.set_cons_succ]
      refine wpAnyH_take (i := 5) (v := ?_) rfl (by kernel_rfl) (by kernel_rfl) (by kernel_rfl) (fun _ _ _ h => h) (Or.inl ⟨by rfl, ?_⟩) (by assumption) ?_
      rotate_left
      · intro V hSw
        (try dsimp only at hSw)
        go_simp
        (try with_reducible rfl)
      simp only [List.getElem_toArray, List.getElem_cons_succ, List.getElem_cons_zero, Act.put, List.setIfInBounds_toArray, List.set_cons_zero, List.set_cons_succ]
      refine wpAnyH_take (i := 6) (v := ?_) rfl (by kernel_rfl) (by kernel_rfl) (by kernel_rfl) (fun _ _ _ h => h) (Or.inl ⟨by rfl, ?_⟩) (by assumption) ?_
      rotate_left
      · intro V hSw
        (try dsimp only at hSw)
        go_simp
        (try with_reducible rfl)
      simp only [List.getElem_toArray, List.getElem_cons_succ, List.getElem_cons_zero, Act.put, List.setIfInBounds_toArray, List.set_cons_zero, List.set_cons_succ]
      refine wpAnyH_take (i := 7) (v := ?_) rfl (by kernel_rfl) (by kernel_rfl) (by kernel_rfl) (fun _ _ _ h => h) (Or.inl ⟨by rfl, ?_⟩) (by assumption) ?_
      rotate_left
      · intro V hSw
        (try dsimp only at hSw)
        go_simp
        (try with_reducible rfl)
      simp only [List.getElem_toArray, List.getElem_cons_succ, List.getElem_cons_zero, Act.put, List.setIfInBounds_toArray, List.set_cons_zero, List.set_cons_succ]
      refine wpAnyH_take (i := 3) (v := ?_) rfl (by kernel_rfl) (by kernel_rfl) (by kernel_rfl) (fun _ _ _ h => h) (Or.inl ⟨by rfl, ?_⟩) (by assumption) ?_
      rotate_left
      · intro V hSw
        (try dsimp only at hSw)
        go_simp
        (try with_reducible rfl)
      simp only [List.getElem_toArray, List.getElem_cons_succ, List.getElem_cons_zero, Act.put, List.setIfInBounds_toArray, List.set_cons_zero, List.set_cons_succ]
      refine wpAnyH_take (i := 4) (v := ?_) rfl (by kernel_rfl) (by kernel_rfl) (by kernel_rfl) (fun _ _ _ h => h) (Or.inl ⟨by rfl, ?_⟩) (by assumption) ?_
      rotate_left
      · intro V hSw
        (try dsimp only at hSw)
        go_simp
        (try with_reducible rfl)
      simp only [List.getElem_toArray, List.getElem_cons_succ, List.getElem_cons_zero, Act.put, List.setIfInBounds_toArray, List.set_cons_zero, List.set_cons_succ]
      refine wpAnyH_take (i := 8) (v := ?_) rfl (by kernel_rfl) (by kernel_rfl) (by kernel_rfl) (fun _ _ _ h => h) (Or.inl ⟨by rfl, ?_⟩) (by assumption) ?_
      rotate_left
      · intro V hSw
        (try dsimp only at hSw)
        go_simp
        (try with_reducible rfl)
      simp only [List.getElem_toArray, List.getElem_cons_succ, List.getElem_cons_zero, Act.put, List.setIfInBounds_toArray, List.set_cons_zero, List.set_cons_succ]
      refine wpAnyH_take (i := 9) (v := ?_) rfl (by kernel_rfl) (by kernel_rfl) (by kernel_rfl) (fun _ _ _ h => h) (Or.inl ⟨by rfl, ?_⟩) (by assumption) ?_
      rotate_left
      · intro V hSw
        (try dsimp only at hSw)
        go_simp
        (try with_reducible rfl)
      simp only [List.getElem_toArray, List.getElem_cons_succ, List.getElem_cons_zero, Act.put, List.setIfInBounds_toArray, List.set_cons_zero, List.set_cons_succ]
      refine wpAnyH_ready (rs := [10]) (by kernel_rfl) (by simp) ?_
      refine AllReadyH.cons rfl (fun K hK => ?_) AllReadyH.nil
      go_simp
      go_wp2_with (go_at_call 162; refine (laws_guTask y C1 D1 C2 D2 C3 D3 i1 j1 i2 j2 i3 j3 m m' wd HR.out.1 HR'.out.1 HR.out.2.1 HR'.out.2.1 HR.out.2.2 HR'.out.2.2).mono ?_; rintro e w7 ⟨rfl, hb0⟩)
      have BV := Lib.hid (BV.out.trans (hb0.mono BV.out.size))
      refine hK.out _ _ ⟨(P.out.later BV.out).cell 1, (P'.out.later BV.out).cell 1, (hb0.cell (p := ⟨b, off + k * 9, none⟩) Lb).trans TC.out.2.2.1, (hb0.cell (p := ⟨b, off + k * 9 + 1, none⟩) Lb).trans TC.out.2.2.2.1, (hb0.cell (p := ⟨b, off + k * 9 + 2, none⟩) Lb).trans TC.out.2.2.2.2.1, (hb0.cell (p := ⟨b, off + k * 9 + 3, none⟩) Lb).trans TC.out.2.2.2.2.2.1, (hb0.cell (p := ⟨b, off + k * 9 + 4, none⟩) Lb).trans TC.out.2.2.2.2.2.2.1, (hb0.cell (p := ⟨b, off + k * 9 + 5, none⟩) Lb).trans TC.out.2.2.2.2.2.2.2.1, (hb0.cell (p := ⟨b, off + k * 9 + 6, none⟩) Lb).trans TC.out.2.2.2.2.2.2.2.2.1, (hb0.cell (p := ⟨b, off + k * 9 + 7, none⟩) Lb).trans TC.out.2.2.2.2.2.2.2.2.2.1, (hb0.cell (p := ⟨b, off + k * 9 + 8, none⟩) Lb).trans TC.out.2.2.2.2.2.2.2.2.2.2.1, (hb0.cell (p := ⟨b', off' + k * 9, none⟩) Lb').trans TC.out.2.2.2.2.2.2.2.2.2.2.2.1, (hb0.cell (p := ⟨b', off' + k * 9 + 1, none⟩) Lb').trans TC.out.2.2.2.2.2.2.2.2.2.2.2.2.1, (hb0.cell (p := ⟨b', off' + k * 9 + 2, none⟩) Lb').trans TC.out.2.2.2.2.2.2.2.2.2.2.2.2.2.1, (hb0.cell (p := ⟨b', off' + k * 9 + 3, none⟩) Lb').trans TC.out.2.2.2.2.2.2.2.2.2.2.2.2.2.2.1, (hb0.cell (p := ⟨b', off' + k * 9 + 4, none⟩) Lb').trans TC.out.2.2.2.2.2.2.2.2.2.2.2.2.2.2.2.1, (hb0.cell (p := ⟨b', off' + k * 9 + 5, none⟩) Lb').trans TC.out.2.2.2.2.2.2.2.2.2.2.2.2.2.2.2.2.1, (hb0.cell (p := ⟨b', off' + k * 9 + 6, none⟩) Lb').trans TC.out.2.2.2.2.2.2.2.2.2.2.2.2.2.2.2.2.2.1, (hb0.cell (p := ⟨b', off' + k * 9 + 7, none⟩) Lb').trans TC.out.2.2.2.2.2.2.2.2.2.2.2.2.2.2.2.2.2.2.1, (hb0.cell (p := ⟨b', off' + k * 9 + 8, none⟩) Lb').trans TC.out.2.2.2.2.2.2.2.2.2.2.2.2.2.2.2.2.2.2.2⟩ (fun hHeld => ?_)
      clear hK K hb0 TC
      refine wpAnyH_take (i := 11) (v := ?_) rfl (by kernel_rfl) (by kernel_rfl) (by kernel_rfl) (fun _ _ _ h => h) (Or.inl ⟨by rfl, ?_⟩) (by assumption) ?_
      rotate_left
      · intro V hSw
        (try dsimp only at hSw)
        go_simp
        (try with_reducible rfl)
      simp only [List.getElem_toArray, List.getElem_cons_succ, List.getElem_cons_zero, Act.put, List.setIfInBounds_toArray, List.set_cons_zero, List.set_cons_succ]
      refine wpAnyH_done (by kernel_rfl) ?_ _
      clear hHeld
      go_wp2
      go_roundg (x.tasks.length - (k + 1))
      case measure => omega
      case rel => exact ⟨k + 1, by omega, by omega, by go_num, BV.out⟩
    · have hltz : ¬ (k : Int) < (x.tasks.length : Int) := by omega
      go_wp2
      go_ret
      exact ⟨rfl, B.out.trans (BW.out.mono B.out.size)⟩
end Go.Proofs.Ytkkjljpokannkaa
