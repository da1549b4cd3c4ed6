/- A net copied by the program: clone. -/
import Derived.Test.YtkkjljpokannkaaCloneN
namespace Go.Proofs.Ytkkjljpokannkaa
open Go.RowKit
set_option linter.unusedSimpArgs false
set_option linter.unusedVariables false

set_option maxRecDepth 100000 in
set_option maxHeartbeats 4000000 in
theorem impl_cloneNet (x : GNet) (A : Option Addr) (c : Nat) (m : Option Nat) (w : World) (h : Rows taskC m w w.heap.size A x.tasks) (hl : x.tasks.length ≤ 1000) (hs : ∀ t ∈ x.tasks, taskFew t) :
    Calls Try.prog 206 #[.agg #[.int .i64 x.places, .slice A x.tasks.length c]] w (MadeR netC x w) := by
  have H := Lib.hid h
  have HS := Lib.hid hs
  clear h hs
  go_enter Try.func206, Try.ntmps206
  go_wp2
  generalize hW : World.alloc (World.alloc (World.alloc w _) _) _ = W
  have Z : Hid (Bk W (w.heap.size + 1) 37 #[.int .i64 0, .slice none 0 0]) := by show Bk _ _ _ _; rw [← hW]; exact (Bk.new (by simp)).alloc _
  have N : Hid (Bk W (w.heap.size + 1 + 1) 37 #[.int .i64 x.places, .slice none 0 0]) := by show Bk _ _ _ _; rw [← hW]; exact Bk.new (by simp)
  have B : Hid (Below w.heap.size w W) := by show Below _ _ _; rw [← hW]; go_grown
  clear hW
  go_loopg [5, 12] x.tasks.length (fun gg _ s12 wr => ∃ (i : Nat) (v : Value), i ≤ x.tasks.length ∧ x.tasks.length - i ≤ gg ∧ s12 = .int .i64 i ∧ Aside (Bk wr (w.heap.size + 1) 37 #[.int .i64 0, .slice none 0 0]) ∧ Aside (Bk wr (w.heap.size + 1 + 1) 37 #[.int .i64 x.places, v]) ∧ Aside (Below w.heap.size w wr) ∧ Aside (OwnC taskC 42 wr (w.heap.size + 3) v (x.tasks.take i)))
  case atStart => exact ⟨0, _, Nat.zero_le _, by omega, rfl, Z.out, N.out, B.out, OwnC.nil _ _⟩
  case round =>
    obtain ⟨i, v, hi, hg, rfl, ZWa, NWa, BWa, OWa⟩ := hrel
    have Z := Lib.hid ZWa.out
    have N := Lib.hid NWa.out
    have B := Lib.hid BWa.out
    have OW := Lib.hid OWa.out
    clear ZWa NWa BWa OWa
    have zN := N.out.lt
    have zB := B.out.size
    obtain ⟨A9, c9, hv9, hrow9⟩ := OW.out.rows (by simp; omega)
    by_cases hlt : i < x.tasks.length
    · have hltz : (i : Int) < (x.tasks.length : Int) := by omega
      have hv : v = .slice A9 i c9 := by rw [hv9, List.length_take, Nat.min_eq_left (by omega)]
      clear hrow9 hv9
      subst hv
      obtain ⟨b, off, C1, i1, C2, i2, C3, i3, rfl, hb, hr, t0, t1, t2, t3, t4, t5, t6, t7, t8⟩ := task_at (H.out.later B.out) hlt
      have HT : Hid (x.tasks.take (i + 1) = x.tasks.take i ++ [x.tasks[i]]) := List.take_succ_eq_append_getElem hlt
      have HL8 : Hid ((x.tasks.take i ++ [x.tasks[i]]).length = i + 1) := by show _ = _; rw [List.length_append, List.length_take, Nat.min_eq_left (by omega)]; rfl
      have HF := Lib.hid (HS.out _ (List.getElem_mem hlt))
      generalize x.tasks[i] = y at hr t0 t1 t2 t3 t4 t5 t6 t7 t8 HT HL8 HF
      have Q := Lib.hid hr
      have HMS : Hid (x.tasks.length - (i + 1) < x.tasks.length - i) := by show _ < _; omega
      have HG := Lib.hid hg
      have HLO : Hid (∀ g, (Value.slice A9 i c9).ownBlock = some g → w.heap.size + 3 ≤ g ∧ g < wr.heap.size) := fun g hg => OW.out.lt g hg
      clear hr
      go_upto_region 5 with fail
      generalize hV : World.alloc wr _ = V1
      have E : Hid (Bk V1 wr.heap.size 42 #[.int .i64 y.join, .int .i64 y.split, .slice C1 y.inn.length i1, .slice C2 y.out.length i2, .slice C3 y.clear.length i3, .int .i64 y.role, .int .i64 y.apart, .int .i64 y.all, .int .i64 y.need]) := by show Bk _ _ _ _; rw [← hV]; exact Bk.new rfl
      have hb1 : Below wr.heap.size wr V1 := by rw [← hV]; exact (Below.refl _ _).alloc (Nat.le_refl _) _
      have hb := hb1
      have SB : Hid (wr.heap.size ≤ wr.heap.size) := Nat.le_refl _
      have Z := Lib.hid (Z.out.later hb)
      have N := Lib.hid (N.out.later hb)
      have OW := Lib.hid (OW.out.later hb)
      have B := Lib.hid (B.out.trans (hb.mono B.out.size))
      have SB := Lib.hid (Nat.le_trans SB.out hb.size)
      have Q1 := Lib.hid (Q.out.1.later hb)
      have Q2 := Lib.hid (Q.out.2.1.later hb)
      have Q3 := Lib.hid (Q.out.2.2.later hb)
      have yE := E.out.lt
      clear hV hb hb1 t0 t1 t2 t3 t4 t5 t6 t7 t8 Q
      refine wp_region_heldD (d := 7) (S := (fun V : World => V.cell? ⟨w.heap.size + 1 + 1, 1, none⟩ = some (.slice A9 i c9) ∧ V.cell? ⟨wr.heap.size, 0, none⟩ = some (.int .i64 y.join) ∧ V.cell? ⟨wr.heap.size, 1, none⟩ = some (.int .i64 y.split) ∧ V.cell? ⟨wr.heap.size, 2, none⟩ = some (.slice C1 y.inn.length i1) ∧ V.cell? ⟨wr.heap.size, 3, none⟩ = some (.slice C2 y.out.length i2) ∧ V.cell? ⟨wr.heap.size, 4, none⟩ = some (.slice C3 y.clear.length i3) ∧ V.cell? ⟨wr.heap.size, 5, none⟩ = some (.int .i64 y.role) ∧ V.cell? ⟨wr.heap.size, 6, none⟩ = some (.int .i64 y.apart) ∧ V.cell? ⟨wr.heap.size, 7, none⟩ = some (.int .i64 y.all) ∧ V.cell? ⟨wr.heap.size, 8, none⟩ = some (.int .i64 y.need))) (by kernel_rfl) ?_
      have hb : Below V1.heap.size V1 V1.drew := (Below.refl _ _).drew
      have Z := Lib.hid (Z.out.later hb)
      have N := Lib.hid (N.out.later hb)
      have E := Lib.hid (E.out.later hb)
      have OW := Lib.hid (OW.out.later hb)
      have B := Lib.hid (B.out.trans (hb.mono B.out.size))
      have SB := Lib.hid (Nat.le_trans SB.out hb.size)
      have Q1 := Lib.hid (Q1.out.later hb)
      have Q2 := Lib.hid (Q2.out.later hb)
      have Q3 := Lib.hid (Q3.out.later hb)
      have yE : wr.heap.size < V1.drew.heap.size := yE
      generalize V1.drew = wd at Z N E OW B SB Q1 Q2 Q3 yE ⊢
      clear hb
      have hHeld : (fun V : World => V.cell? ⟨w.heap.size + 1 + 1, 1, none⟩ = some (.slice A9 i c9) ∧ V.cell? ⟨wr.heap.size, 0, none⟩ = some (.int .i64 y.join) ∧ V.cell? ⟨wr.heap.size, 1, none⟩ = some (.int .i64 y.split) ∧ V.cell? ⟨wr.heap.size, 2, none⟩ = some (.slice C1 y.inn.length i1) ∧ V.cell? ⟨wr.heap.size, 3, none⟩ = some (.slice C2 y.out.length i2) ∧ V.cell? ⟨wr.heap.size, 4, none⟩ = some (.slice C3 y.clear.length i3) ∧ V.cell? ⟨wr.heap.size, 5, none⟩ = some (.int .i64 y.role) ∧ V.cell? ⟨wr.heap.size, 6, none⟩ = some (.int .i64 y.apart) ∧ V.cell? ⟨wr.heap.size, 7, none⟩ = some (.int .i64 y.all) ∧ V.cell? ⟨wr.heap.size, 8, none⟩ = some (.int .i64 y.need)) wd := ⟨N.out.cell 1, E.out.cell 0, E.out.cell 1, E.out.cell 2, E.out.cell 3, E.out.cell 4, E.out.cell 5, E.out.cell 6, E.out.cell 7, E.out.cell 8⟩
      refine wpAnyD_take (i := 0) (v := ?_) rfl (by kernel_rfl) (by kernel_rfl) (by kernel_rfl) (by kernel_rfl) (by kernel_rfl) (by kernel_rfl) (fun _ _ _ h => h) (Or.inl ⟨by rfl, ?_⟩) (by assumption) ?_
      rotate_left
      · intro V hSw
        (try dsimp only at hSw)
        go_simp
        (try with_reducible rfl)
      simp only [List.getElem_toArray, List.getElem_cons_succ, List.getElem_cons_zero, Act.put, List.setIfInBounds_toArray, List.set_cons_zero, List.set_cons_succ]
      refine wpAnyD_take (i := 1) (v := ?_) rfl (by kernel_rfl) (by kernel_rfl) (by kernel_rfl) (by kernel_rfl) (by kernel_rfl) (by kernel_rfl) (fun _ _ _ h => h) (Or.inl ⟨by rfl, ?_⟩) (by assumption) ?_
      rotate_left
      · intro V hSw
        (try dsimp only at hSw)
        go_simp
        (try with_reducible rfl)
      simp only [List.getElem_toArray, List.getElem_cons_succ, List.getElem_cons_zero, Act.put, List.setIfInBounds_toArray, List.set_cons_zero, List.set_cons_succ]
      refine wpAnyD_take (i := 2) (v := ?_) rfl (by kernel_rfl) (by kernel_rfl) (by kernel_rfl) (by kernel_rfl) (by kernel_rfl) (by kernel_rfl) (fun _ _ _ h => h) (Or.inl ⟨by rfl, ?_⟩) (by assumption) ?_
      rotate_left
      · intro V hSw
        (try dsimp only at hSw)
        go_simp
        (try with_reducible rfl)
      simp only [List.getElem_toArray, List.getElem_cons_succ, List.getElem_cons_zero, Act.put, List.setIfInBounds_toArray, List.set_cons_zero, List.set_cons_succ]
      clear hHeld
      refine wpAnyD_ready (rs := [3]) (by kernel_rfl) (by simp) ?_
      refine AllReadyD.cons rfl (fun K hK => ?_) AllReadyD.nil
      go_simp
      go_wp2_with (go_at_call 233; refine (impl_cloneTask y C1 C2 C3 i1 i2 i3 m wd Q1.out Q2.out Q3.out HF.out).mono ?_; rintro e w1 ⟨cs, rfl, ⟨D1, j1, D2, j2, D3, j3, rfl, hr1, hr2, hr3⟩, hb⟩)
      have R1 := Lib.hid (hr1.weak (Weaker.some SB.out))
      have R2 := Lib.hid (hr2.weak (Weaker.some SB.out))
      have R3 := Lib.hid (hr3.weak (Weaker.some SB.out))
      have Z := Lib.hid (Z.out.later hb)
      have N := Lib.hid (N.out.later hb)
      have E := Lib.hid (E.out.later hb)
      have OW := Lib.hid (OW.out.later hb)
      have B := Lib.hid (B.out.trans (hb.mono B.out.size))
      have SB := Lib.hid (Nat.le_trans SB.out hb.size)
      clear hb hr1 hr2 hr3 Q1 Q2 Q3
      have hHeld : (fun V : World => V.cell? ⟨w.heap.size + 1 + 1, 1, none⟩ = some (.slice A9 i c9) ∧ V.cell? ⟨wr.heap.size, 0, none⟩ = some (.int .i64 y.join) ∧ V.cell? ⟨wr.heap.size, 1, none⟩ = some (.int .i64 y.split) ∧ V.cell? ⟨wr.heap.size, 2, none⟩ = some (.slice C1 y.inn.length i1) ∧ V.cell? ⟨wr.heap.size, 3, none⟩ = some (.slice C2 y.out.length i2) ∧ V.cell? ⟨wr.heap.size, 4, none⟩ = some (.slice C3 y.clear.length i3) ∧ V.cell? ⟨wr.heap.size, 5, none⟩ = some (.int .i64 y.role) ∧ V.cell? ⟨wr.heap.size, 6, none⟩ = some (.int .i64 y.apart) ∧ V.cell? ⟨wr.heap.size, 7, none⟩ = some (.int .i64 y.all) ∧ V.cell? ⟨wr.heap.size, 8, none⟩ = some (.int .i64 y.need)) w1 := ⟨N.out.cell 1, E.out.cell 0, E.out.cell 1, E.out.cell 2, E.out.cell 3, E.out.cell 4, E.out.cell 5, E.out.cell 6, E.out.cell 7, E.out.cell 8⟩
      refine hK.out _ _ (fun _ => hHeld) ?_
      clear hK K hHeld
      refine wpAnyD_ready (rs := [4]) (by kernel_rfl) (by simp) ?_
      refine AllReadyD.cons rfl (fun K hK => ?_) AllReadyD.nil
      go_simp
      obtain ⟨w2, hV⟩ : ∃ V, V = World.alloc w1 (.cells #[.int .i64 y.join, .int .i64 y.split, .slice D1 y.inn.length j1, .slice D2 y.out.length j2, .slice D3 y.clear.length j3, .int .i64 y.role, .int .i64 y.apart, .int .i64 y.all, .int .i64 y.need] 42) := ⟨_, rfl⟩
      have hb : Below w1.heap.size w1 w2 := by rw [hV]; exact (Below.refl _ _).alloc (Nat.le_refl _) _
      obtain ⟨gl, hgl⟩ : ∃ g, g = w1.heap.size := ⟨_, rfl⟩
      have LT : Hid (Bk w2 gl 42 #[.int .i64 y.join, .int .i64 y.split, .slice D1 y.inn.length j1, .slice D2 y.out.length j2, .slice D3 y.clear.length j3, .int .i64 y.role, .int .i64 y.apart, .int .i64 y.all, .int .i64 y.need]) := by show Bk _ _ _ _; rw [hV, hgl]; exact Bk.new rfl
      rw [← hV, ← hgl]
      clear hV hgl
      have R1 := Lib.hid (R1.out.later hb)
      have R2 := Lib.hid (R2.out.later hb)
      have R3 := Lib.hid (R3.out.later hb)
      have Z := Lib.hid (Z.out.later hb)
      have N := Lib.hid (N.out.later hb)
      have E := Lib.hid (E.out.later hb)
      have OW := Lib.hid (OW.out.later hb)
      have B := Lib.hid (B.out.trans (hb.mono B.out.size))
      have SB := Lib.hid (Nat.le_trans SB.out hb.size)
      clear hb
      have hHeld : (fun V : World => V.cell? ⟨w.heap.size + 1 + 1, 1, none⟩ = some (.slice A9 i c9) ∧ V.cell? ⟨wr.heap.size, 0, none⟩ = some (.int .i64 y.join) ∧ V.cell? ⟨wr.heap.size, 1, none⟩ = some (.int .i64 y.split) ∧ V.cell? ⟨wr.heap.size, 2, none⟩ = some (.slice C1 y.inn.length i1) ∧ V.cell? ⟨wr.heap.size, 3, none⟩ = some (.slice C2 y.out.length i2) ∧ V.cell? ⟨wr.heap.size, 4, none⟩ = some (.slice C3 y.clear.length i3) ∧ V.cell? ⟨wr.heap.size, 5, none⟩ = some (.int .i64 y.role) ∧ V.cell? ⟨wr.heap.size, 6, none⟩ = some (.int .i64 y.apart) ∧ V.cell? ⟨wr.heap.size, 7, none⟩ = some (.int .i64 y.all) ∧ V.cell? ⟨wr.heap.size, 8, none⟩ = some (.int .i64 y.need)) w2 := ⟨N.out.cell 1, E.out.cell 0, E.out.cell 1, E.out.cell 2, E.out.cell 3, E.out.cell 4, E.out.cell 5, E.out.cell 6, E.out.cell 7, E.out.cell 8⟩
      refine hK.out _ _ (fun _ => hHeld) ?_
      clear hK K hHeld
      refine wpAnyD_ready (rs := [5]) (by kernel_rfl) (by simp) ?_
      refine AllReadyD.cons rfl (fun K hK => ?_) AllReadyD.nil
      refine step_C6 rfl (.tmp 17) (.tmp 20) 35 rfl taskC 42 _ 120 Try.underlying35 info_Task5 rfl (by decide) (by decide) (w.heap.size + 3) _ (x.tasks.take i) rfl OW.out y _ wr.heap.size w2.heap.size ⟨D1, j1, D2, j2, D3, j3, rfl, R1.out, R2.out, R3.out⟩ (by omega) (Nat.le_refl _) (fun g hg => .inl (HLO.out g hg).2) gl rfl (fun j u hu => by rw [LT.out.cell]; simpa using hu) (by simp [Value.oneCell']) (Nat.le_trans (List.length_take_le _ _) (by omega)) (by have := SB.out; omega) ?_
      intro v7 w7 hown7 hg7 hb7 h57
      have O7 := Lib.hid hown7
      have Z : Hid (Bk w7 (w.heap.size + 1) 37 #[.int .i64 0, .slice none 0 0]) := (hb7.block _ (by omega)).trans Z.out
      have N : Hid (Bk w7 (w.heap.size + 1 + 1) 37 #[.int .i64 x.places, .slice A9 i c9]) := (hb7.block _ (by omega)).trans N.out
      have yE2 := E.out.lt
      have E : Hid (Bk w7 wr.heap.size 42 #[.int .i64 y.join, .int .i64 y.split, .slice C1 y.inn.length i1, .slice C2 y.out.length i2, .slice C3 y.clear.length i3, .int .i64 y.role, .int .i64 y.apart, .int .i64 y.all, .int .i64 y.need]) := (hg7.block _ yE2 (fun he => by have := HLO.out _ he.symm; omega)).trans E.out
      have B := Lib.hid (B.out.trans (hb7.mono (by omega)))
      obtain ⟨A7, c7, hv7, hz7⟩ := hown7.rows (by rw [HL8.out]; omega)
      have hv8 : v7 = .slice A7 (i + 1) c7 := hv7.trans (congrArg (fun n => Value.slice A7 n c7) HL8.out)
      clear hv7 hz7
      subst hv8
      clear hown7 hg7 hb7 h57 R1 R2 R3
      have hHeld : (fun V : World => V.cell? ⟨w.heap.size + 1 + 1, 1, none⟩ = some (.slice A9 i c9) ∧ V.cell? ⟨wr.heap.size, 0, none⟩ = some (.int .i64 y.join) ∧ V.cell? ⟨wr.heap.size, 1, none⟩ = some (.int .i64 y.split) ∧ V.cell? ⟨wr.heap.size, 2, none⟩ = some (.slice C1 y.inn.length i1) ∧ V.cell? ⟨wr.heap.size, 3, none⟩ = some (.slice C2 y.out.length i2) ∧ V.cell? ⟨wr.heap.size, 4, none⟩ = some (.slice C3 y.clear.length i3) ∧ V.cell? ⟨wr.heap.size, 5, none⟩ = some (.int .i64 y.role) ∧ V.cell? ⟨wr.heap.size, 6, none⟩ = some (.int .i64 y.apart) ∧ V.cell? ⟨wr.heap.size, 7, none⟩ = some (.int .i64 y.all) ∧ V.cell? ⟨wr.heap.size, 8, none⟩ = some (.int .i64 y.need)) w7 := ⟨N.out.cell 1, E.out.cell 0, E.out.cell 1, E.out.cell 2, E.out.cell 3, E.out.cell 4, E.out.cell 5, E.out.cell 6, E.out.cell 7, E.out.cell 8⟩
      refine hK.out _ _ (fun _ => hHeld) ?_
      clear hK K
      try simp only [List.getElem_toArray, List.getElem_cons_succ, List.getElem_cons_zero, Act.put, List.setIfInBounds_toArray, List.set_cons_zero, List.set_cons_succ]
      refine wpAnyD_take (i := 6) (v := ?_) rfl (by kernel_rfl) (by kernel_rfl) (by kernel_rfl) (by kernel_rfl) (by kernel_rfl) (by kernel_rfl) (fun _ _ _ h => h) (Or.inl ⟨by rfl, ?_⟩) (by assumption) ?_
      rotate_left
      · intro V hSw
        (try dsimp only at hSw)
        go_simp
        (try with_reducible rfl)
      simp only [List.getElem_toArray, List.getElem_cons_succ, List.getElem_cons_zero, Act.put, List.setIfInBounds_toArray, List.set_cons_zero, List.set_cons_succ]
      clear hHeld
      refine wpAnyD_ready (rs := [7]) (by kernel_rfl) (by simp) ?_
      refine AllReadyD.cons rfl (fun K hK => ?_) AllReadyD.nil
      have kN := fun i => N.out.cell i
      have fN := fun i => N.out.frozen i
      go_simp
      clear kN fN
      generalize hV : World.setCell w7 _ _ = w8
      have N8 : Hid (Bk w8 (w.heap.size + 1 + 1) 37 #[.int .i64 x.places, .slice A7 (i + 1) c7]) := by show Bk _ _ _ _; rw [← hV]; exact N.out.set 1 _
      have hk : ∀ q, q ≠ w.heap.size + 1 + 1 → w8.heap[q]? = w7.heap[q]? := fun q hq => by rw [← hV]; exact Below.heap_setCell _ ⟨w.heap.size + 1 + 1, 1, none⟩ _ q hq
      have hsz : w8.heap.size = w7.heap.size := by rw [← hV]; simp [World.setCell]
      have B : Hid (Below w.heap.size w w8) := by show Below _ _ _; rw [← hV]; exact B.out.setCell (p := ⟨w.heap.size + 1 + 1, 1, none⟩) (by show w.heap.size ≤ w.heap.size + 1 + 1; omega) _
      have Z : Hid (Bk w8 (w.heap.size + 1) 37 #[.int .i64 0, .slice none 0 0]) := (hk _ (by omega)).trans Z.out
      have O8 := Lib.hid (O7.out.kept (w' := w8) ⟨Nat.le_of_eq hsz.symm, fun q _ hq => hk q (by omega)⟩)
      clear hV hk hsz
      refine hK.out _ _ (fun h => Bool.noConfusion ((by kernel_rfl : _ = true).symm.trans h)) ?_
      clear hK K
      refine wpAnyD_done (by kernel_rfl) ?_ _
      go_wp2
      go_roundg (x.tasks.length - (i + 1))
      case measure => exact Nat.lt_of_lt_of_le HMS.out HG.out
      case rel => exact ⟨i + 1, _, hlt, Nat.le_refl _, by go_num, Z.out, N8.out, B.out, by show OwnC _ _ _ _ _ _; rw [HT.out]; exact O8.out⟩
    · have hltz : ¬ (i : Int) < (x.tasks.length : Int) := by omega
      have he : i = x.tasks.length := by omega
      subst he
      rw [List.take_length] at hv9 hrow9 OW
      subst hv9
      have HR9 := Lib.hid hrow9
      clear hrow9
      have kN := fun j => N.out.cell j
      have kZ := fun j => Z.out.cell j
      have fZ := fun j => Z.out.frozen j
      go_wp2
      generalize hV : World.setCell (World.setCell wr _ _) _ _ = V
      have ZV : Bk V (w.heap.size + 1) 37 #[.int .i64 x.places, .slice A9 x.tasks.length c9] := by rw [← hV]; exact (Z.out.set 0 _).set 1 _
      have hk : ∀ q, q ≠ w.heap.size + 1 → V.heap[q]? = wr.heap[q]? := fun q hq => by
        rw [← hV]
        exact (Below.heap_setCell _ ⟨w.heap.size + 1, 1, none⟩ _ q hq).trans (Below.heap_setCell _ ⟨w.heap.size + 1, 0, none⟩ _ q hq)
      have hsz : V.heap.size = wr.heap.size := by rw [← hV]; simp [World.setCell]
      have tV : Below w.heap.size w V := by rw [← hV]; exact (B.out.setCell (p := ⟨w.heap.size + 1, 0, none⟩) (by show w.heap.size ≤ w.heap.size + 1; omega) _).setCell (p := ⟨w.heap.size + 1, 1, none⟩) (by show w.heap.size ≤ w.heap.size + 1; omega) _
      clear hV kN kZ fZ
      have k1 := fun j => ZV.cell j
      refine bodyPost_ret (v := .agg #[.int .i64 x.places, .slice A9 x.tasks.length c9]) (by simp [results, Try.results206, go_sem, k1]) rfl ?_
      exact ⟨[.int .i64 x.places, .slice A9 x.tasks.length c9], rfl, ⟨A9, c9, rfl, ((HR9.out.keep fun q _ hq => hk q (by have := hq _ rfl; omega)).more (by omega)).weak (Weaker.some (by omega))⟩, tV⟩
end Go.Proofs.Ytkkjljpokannkaa
