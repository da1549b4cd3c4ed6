/- A task and a net copied by the program: clone. -/
import Derived.Test.YtkkjljpokannkaaCopyNetS
import Derived.Test.YtkkjljpokannkaaEngS
import Derived.Test.YtkkjljpokannkaaHeldD
import Derived.Test.YtkkjljpokannkaaStep6
namespace Go.Proofs.Ytkkjljpokannkaa
open Go.RowKit
set_option linter.unusedSimpArgs false
set_option linter.unusedVariables false

theorem taskW_put {w : World} {g : Nat} {t : TypeId} {a0 a1 a2 a3 a4 a5 a6 a7 a8 b0 b1 b2 b3 b4 b5 b6 b7 b8 : Value} (h : Bk w g t #[a0, a1, a2, a3, a4, a5, a6, a7, a8]) :
    PutW w (World.setCell (World.setCell (World.setCell (World.setCell (World.setCell (World.setCell (World.setCell (World.setCell (World.setCell w ⟨g, 0, none⟩ b0) ⟨g, 1, none⟩ b1) ⟨g, 2, none⟩ b2) ⟨g, 3, none⟩ b3) ⟨g, 4, none⟩ b4) ⟨g, 5, none⟩ b5) ⟨g, 6, none⟩ b6) ⟨g, 7, none⟩ b7) ⟨g, 8, none⟩ b8) g t #[b0, b1, b2, b3, b4, b5, b6, b7, b8] := by
  have h0 : PutW w (World.setCell w ⟨g, 0, none⟩ b0) g t #[b0, a1, a2, a3, a4, a5, a6, a7, a8] := PutW.set (PutW.refl h) 0 b0 rfl
  have h1 : PutW w (World.setCell (World.setCell w ⟨g, 0, none⟩ b0) ⟨g, 1, none⟩ b1) g t #[b0, b1, a2, a3, a4, a5, a6, a7, a8] := PutW.set h0 1 b1 rfl
  have h2 : PutW w (World.setCell (World.setCell (World.setCell w ⟨g, 0, none⟩ b0) ⟨g, 1, none⟩ b1) ⟨g, 2, none⟩ b2) g t #[b0, b1, b2, a3, a4, a5, a6, a7, a8] := PutW.set h1 2 b2 rfl
  have h3 : PutW w (World.setCell (World.setCell (World.setCell (World.setCell w ⟨g, 0, none⟩ b0) ⟨g, 1, none⟩ b1) ⟨g, 2, none⟩ b2) ⟨g, 3, none⟩ b3) g t #[b0, b1, b2, b3, a4, a5, a6, a7, a8] := PutW.set h2 3 b3 rfl
  have h4 : PutW w (World.setCell (World.setCell (World.setCell (World.setCell (World.setCell w ⟨g, 0, none⟩ b0) ⟨g, 1, none⟩ b1) ⟨g, 2, none⟩ b2) ⟨g, 3, none⟩ b3) ⟨g, 4, none⟩ b4) g t #[b0, b1, b2, b3, b4, a5, a6, a7, a8] := PutW.set h3 4 b4 rfl
  have h5 : PutW w (World.setCell (World.setCell (World.setCell (World.setCell (World.setCell (World.setCell w ⟨g, 0, none⟩ b0) ⟨g, 1, none⟩ b1) ⟨g, 2, none⟩ b2) ⟨g, 3, none⟩ b3) ⟨g, 4, none⟩ b4) ⟨g, 5, none⟩ b5) g t #[b0, b1, b2, b3, b4, b5, a6, a7, a8] := PutW.set h4 5 b5 rfl
  have h6 : PutW w (World.setCell (World.setCell (World.setCell (World.setCell (World.setCell (World.setCell (World.setCell w ⟨g, 0, none⟩ b0) ⟨g, 1, none⟩ b1) ⟨g, 2, none⟩ b2) ⟨g, 3, none⟩ b3) ⟨g, 4, none⟩ b4) ⟨g, 5, none⟩ b5) ⟨g, 6, none⟩ b6) g t #[b0, b1, b2, b3, b4, b5, b6, a7, a8] := PutW.set h5 6 b6 rfl
  have h7 : PutW w (World.setCell (World.setCell (World.setCell (World.setCell (World.setCell (World.setCell (World.setCell (World.setCell w ⟨g, 0, none⟩ b0) ⟨g, 1, none⟩ b1) ⟨g, 2, none⟩ b2) ⟨g, 3, none⟩ b3) ⟨g, 4, none⟩ b4) ⟨g, 5, none⟩ b5) ⟨g, 6, none⟩ b6) ⟨g, 7, none⟩ b7) g t #[b0, b1, b2, b3, b4, b5, b6, b7, a8] := PutW.set h6 7 b7 rfl
  have h8 : PutW w (World.setCell (World.setCell (World.setCell (World.setCell (World.setCell (World.setCell (World.setCell (World.setCell (World.setCell w ⟨g, 0, none⟩ b0) ⟨g, 1, none⟩ b1) ⟨g, 2, none⟩ b2) ⟨g, 3, none⟩ b3) ⟨g, 4, none⟩ b4) ⟨g, 5, none⟩ b5) ⟨g, 6, none⟩ b6) ⟨g, 7, none⟩ b7) ⟨g, 8, none⟩ b8) g t #[b0, b1, b2, b3, b4, b5, b6, b7, b8] := PutW.set h7 8 b8 rfl
  exact h8

theorem run_flatA {α : Type} {k : Nat} {cells : α → List Value} {hk : ∀ x, (cells x).length = k} (t ty e : TypeId) (z : Value) (bytes : Nat) (ht : Try.prog.underlying t = some (.slice e)) (hinfo : (Try.prog.info? e).map (fun i => (i.zero, i.size, i.bytes)) = some (some z, k, bytes)) (hzs : z.cells.size = k) (hsz : 0 < k) (hby : bytes ≤ 1024) (h1 : ∀ x, ∀ u ∈ cells x, u.oneCell' = true)
    {w : World} (A : Option Addr) (c B : Nat) (m : Option Nat) (ys : List α) (hy : Rows (flat k cells hk) m w B A ys) (hn : ys.length ≤ 1000) :
    ∃ v' w', (Builtin.append_ #[t, t] ty #[.slice none 0 0, .slice A ys.length c]).run Try.prog w = .ok v' w' ∧ OwnC (flat k cells hk) e w' w.heap.size v' ys ∧ Below w.heap.size w w' := by
  obtain ⟨i, hi, hz, hsize, hbytes⟩ := info_parts hinfo
  have mk : ∀ (v' : Value) (w' : World), w'.ownsRow w.heap.size e k v' ys.length (ys.map cells).flatten → OwnC (flat k cells hk) e w' w.heap.size v' ys := fun v' w' h2 =>
    ⟨ys.map cells, by simp, fun j cs hj => by
      rw [List.getElem?_map, Option.map_eq_some_iff] at hj
      obtain ⟨y, hy', rfl⟩ := hj
      exact ⟨y, w.heap.size, 0, hy', Nat.le_refl _, Nat.zero_le _, fun g _ => .inr (Nat.zero_le _), rfl⟩, h2⟩
  cases A with
  | none =>
    have hy0 : ys = [] := by
      rcases Nat.eq_zero_or_pos ys.length with h0 | h0
      · exact List.eq_nil_of_length_eq_zero h0
      · obtain ⟨b, off, hA, _⟩ := hy.2 h0
        cases hA
    subst hy0
    exact ⟨.slice none 0 0, w, by simp [Builtin.append_, run_underlying ht, sizeOf, typeInfo, hi, Builtin.lenOf, Builtin.firstCells], OwnC.nil _ _, Below.refl _ _⟩
  | some ad =>
    have hlen : ((ys.map cells).flatten).length = ys.length * k := by
      rw [flat_len _ k (fun cs hcs => by
        obtain ⟨y, _, rfl⟩ := List.mem_map.1 hcs
        exact hk y), List.length_map]
    have hnews : ∀ j u, ((ys.map cells).flatten)[j]? = some u → w.cell? (ad.add j) = some u := fun j u hu => by
      have hj := (List.getElem?_eq_some_iff.1 hu).1
      rw [hlen] at hj
      have hq : j / k < ys.length := Nat.div_lt_of_lt_mul (by rw [Nat.mul_comm]; exact hj)
      have hr : j % k < k := Nat.mod_lt _ hsz
      have hij : j = (j / k) * k + j % k := by rw [Nat.mul_comm]; exact (Nat.div_add_mod j k).symm
      obtain ⟨b, off, hA, _, hc⟩ := hy.2 (Nat.lt_of_le_of_lt (Nat.zero_le _) hq)
      cases hA
      obtain ⟨cs, hR, hcs⟩ := hc (j / k) _ (List.getElem?_eq_getElem hq)
      obtain rfl : cs = cells ys[j / k] := hR
      rw [addr_add b off j]
      have h5 := flat_get (ys.map cells) k (fun cs hcs => by
        obtain ⟨y, _, rfl⟩ := List.mem_map.1 hcs
        exact hk y) (j := j / k) (i := j % k) (cs := cells ys[j / k]) (by simp [hq]) (List.getElem?_eq_getElem (by rw [hk]; exact hr))
      rw [← hij, hu] at h5
      have h6 := hcs (j % k) _ (List.getElem?_eq_getElem (by rw [hk]; exact hr))
      rw [show off + j / k * (flat k cells hk).k + j % k = off + j from by show off + j / k * k + j % k = off + j; omega] at h6
      rw [h6, h5]
    obtain ⟨v', w', hr, h2, h3, _⟩ := run_append_own (P := Try.prog) w w.heap.size t ty e i z k bytes ht hi hz hsize hbytes hzs hsz (.slice none 0 0) 0 [] (World.ownsRow_nil _ _ _ _) ad ys.length c ((ys.map cells).flatten) hlen hnews (fun u hu => by
      obtain ⟨cs, hcs, huc⟩ := List.mem_flatten.1 hu
      obtain ⟨y, _, rfl⟩ := List.mem_map.1 hcs
      exact h1 y u huc) (by unfold maxLen; omega) (Nat.le_trans (Nat.mul_le_mul (show 0 + ys.length ≤ 1000 by omega) hby) (by omega)) (Nat.le_refl _)
    exact ⟨v', w', hr, mk v' w' (by simpa using h2), (Below.refl _ _).grown h3 (Nat.le_refl _) fun q hq => by cases hq⟩

set_option maxRecDepth 100000 in
set_option maxHeartbeats 4000000 in
theorem impl_cloneTask (y : GTask) (C1 C2 C3 : Option Addr) (i1 i2 i3 : Nat) (m : Option Nat) (w : World) (h1 : Rows intC m w w.heap.size C1 y.inn) (h2 : Rows flowC m w w.heap.size C2 y.out) (h3 : Rows intC m w w.heap.size C3 y.clear) (hf : taskFew y) :
    Calls Try.prog 233 #[.agg #[.int .i64 y.join, .int .i64 y.split, .slice C1 y.inn.length i1, .slice C2 y.out.length i2, .slice C3 y.clear.length i3, .int .i64 y.role, .int .i64 y.apart, .int .i64 y.all, .int .i64 y.need]] w (MadeR taskC y w) := by
  obtain ⟨l2, l3, l4⟩ := hf
  have Q1 := Lib.hid h1
  have Q2 := Lib.hid h2
  have Q3 := Lib.hid h3
  clear h1 h2 h3
  go_enter Try.func233, Try.ntmps233
  go_wp2
  generalize hW : World.alloc (World.alloc w _) _ = W
  have P : Hid (Bk W w.heap.size 42 #[.int .i64 y.join, .int .i64 y.split, .slice C1 y.inn.length i1, .slice C2 y.out.length i2, .slice C3 y.clear.length i3, .int .i64 y.role, .int .i64 y.apart, .int .i64 y.all, .int .i64 y.need]) := by show Bk _ _ _ _; rw [← hW]; exact (Bk.new rfl).alloc _
  have Z : Hid (Bk W (w.heap.size + 1) 42 #[.int .i64 0, .int .i64 0, .slice none 0 0, .slice none 0 0, .slice none 0 0, .int .i64 0, .int .i64 0, .int .i64 0, .int .i64 0]) := by show Bk _ _ _ _; rw [← hW]; exact Bk.new (by simp)
  have B : Hid (Below w.heap.size w W) := by show Below _ _ _; rw [← hW]; go_grown
  clear hW
  refine wp_region_heldD (d := 10) (S := (fun V : World => V.cell? ⟨w.heap.size, 2, none⟩ = some (.slice C1 y.inn.length i1) ∧ V.cell? ⟨w.heap.size, 3, none⟩ = some (.slice C2 y.out.length i2) ∧ V.cell? ⟨w.heap.size, 4, none⟩ = some (.slice C3 y.clear.length i3))) (by kernel_rfl) ?_
  have hbd : Below W.heap.size W W.drew := (Below.refl _ _).drew
  have P := Lib.hid (P.out.later hbd)
  have Z := Lib.hid (Z.out.later hbd)
  have B := Lib.hid (B.out.trans (hbd.mono B.out.size))
  generalize W.drew = w0 at P Z B ⊢
  clear hbd
  have hHeld : (fun V : World => V.cell? ⟨w.heap.size, 2, none⟩ = some (.slice C1 y.inn.length i1) ∧ V.cell? ⟨w.heap.size, 3, none⟩ = some (.slice C2 y.out.length i2) ∧ V.cell? ⟨w.heap.size, 4, none⟩ = some (.slice C3 y.clear.length i3)) w0 := ⟨P.out.cell 2, P.out.cell 3, P.out.cell 4⟩
  refine wpAnyD_take (i := 0) (v := ?_) rfl (by kernel_rfl) (by kernel_rfl) (by kernel_rfl) (by kernel_rfl) (by kernel_rfl) (by kernel_rfl) (fun _ _ _ h => h) (Or.inl ⟨by rfl, ?_⟩) (by assumption) ?_
  rotate_left
  · intro V hSw
    (try dsimp only at hSw)
    go_simp
    (try with_reducible rfl)
  simp only [List.getElem_toArray, List.getElem_cons_succ, List.getElem_cons_zero, Act.put, List.setIfInBounds_toArray, List.set_cons_zero, List.set_cons_succ]
  refine wpAnyD_take (i := 1) (v := ?_) rfl (by kernel_rfl) (by kernel_rfl) (by kernel_rfl) (by kernel_rfl) (by kernel_rfl) (by kernel_rfl) (fun _ _ _ h => h) (Or.inl ⟨by rfl, ?_⟩) (by assumption) ?_
  rotate_left
  · intro V hSw
    (try dsimp only at hSw)
    go_simp
    (try with_reducible rfl)
  simp only [List.getElem_toArray, List.getElem_cons_succ, List.getElem_cons_zero, Act.put, List.setIfInBounds_toArray, List.set_cons_zero, List.set_cons_succ]
  refine wpAnyD_take (i := 3) (v := ?_) rfl (by kernel_rfl) (by kernel_rfl) (by kernel_rfl) (by kernel_rfl) (by kernel_rfl) (by kernel_rfl) (fun _ _ _ h => h) (Or.inl ⟨by rfl, ?_⟩) (by assumption) ?_
  rotate_left
  · intro V hSw
    (try dsimp only at hSw)
    go_simp
    (try with_reducible rfl)
  simp only [List.getElem_toArray, List.getElem_cons_succ, List.getElem_cons_zero, Act.put, List.setIfInBounds_toArray, List.set_cons_zero, List.set_cons_succ]
  refine wpAnyD_take (i := 4) (v := ?_) rfl (by kernel_rfl) (by kernel_rfl) (by kernel_rfl) (by kernel_rfl) (by kernel_rfl) (by kernel_rfl) (fun _ _ _ h => h) (Or.inl ⟨by rfl, ?_⟩) (by assumption) ?_
  rotate_left
  · intro V hSw
    (try dsimp only at hSw)
    go_simp
    (try with_reducible rfl)
  simp only [List.getElem_toArray, List.getElem_cons_succ, List.getElem_cons_zero, Act.put, List.setIfInBounds_toArray, List.set_cons_zero, List.set_cons_succ]
  refine wpAnyD_take (i := 6) (v := ?_) rfl (by kernel_rfl) (by kernel_rfl) (by kernel_rfl) (by kernel_rfl) (by kernel_rfl) (by kernel_rfl) (fun _ _ _ h => h) (Or.inl ⟨by rfl, ?_⟩) (by assumption) ?_
  rotate_left
  · intro V hSw
    (try dsimp only at hSw)
    go_simp
    (try with_reducible rfl)
  simp only [List.getElem_toArray, List.getElem_cons_succ, List.getElem_cons_zero, Act.put, List.setIfInBounds_toArray, List.set_cons_zero, List.set_cons_succ]
  refine wpAnyD_take (i := 7) (v := ?_) rfl (by kernel_rfl) (by kernel_rfl) (by kernel_rfl) (by kernel_rfl) (by kernel_rfl) (by kernel_rfl) (fun _ _ _ h => h) (Or.inl ⟨by rfl, ?_⟩) (by assumption) ?_
  rotate_left
  · intro V hSw
    (try dsimp only at hSw)
    go_simp
    (try with_reducible rfl)
  simp only [List.getElem_toArray, List.getElem_cons_succ, List.getElem_cons_zero, Act.put, List.setIfInBounds_toArray, List.set_cons_zero, List.set_cons_succ]
  clear hHeld
  refine wpAnyD_ready (rs := [2]) (by kernel_rfl) (by simp) ?_
  refine AllReadyD.cons rfl (fun K hK => ?_) AllReadyD.nil
  go_simp
  go_wp2_with (go_at_call 122; refine (impl_cloneInts C1 i1 y.inn w0 (Q1.out.later B.out).ints (by omega)).mono ?_; rintro e w1 ⟨v1, rfl, hown, hb⟩; obtain ⟨D1, j1, rfl, hr1⟩ := hown.rows (by omega))
  have R1 : Hid (Rows intC (some w.heap.size) w1 w1.heap.size D1 y.inn) := hr1.weak (Weaker.some B.out.size)
  have R1 : Hid (Rows intC (some (w.heap.size + 2)) w1 w1.heap.size D1 y.inn) := hr1.weak (Weaker.some (by have := Z.out.lt; omega))
  have P := Lib.hid (P.out.later hb)
  have Z := Lib.hid (Z.out.later hb)
  have B := Lib.hid (B.out.trans (hb.mono B.out.size))
  clear hb hown hr1
  have hHeld : (fun V : World => V.cell? ⟨w.heap.size, 2, none⟩ = some (.slice C1 y.inn.length i1) ∧ V.cell? ⟨w.heap.size, 3, none⟩ = some (.slice C2 y.out.length i2) ∧ V.cell? ⟨w.heap.size, 4, none⟩ = some (.slice C3 y.clear.length i3)) w1 := ⟨P.out.cell 2, P.out.cell 3, P.out.cell 4⟩
  refine hK.out _ _ (fun _ => hHeld) ?_
  clear hK K
  refine wpAnyD_take (i := 9) (v := ?_) rfl (by kernel_rfl) (by kernel_rfl) (by kernel_rfl) (by kernel_rfl) (by kernel_rfl) (by kernel_rfl) (fun _ _ _ h => h) (Or.inl ⟨by rfl, ?_⟩) (by assumption) ?_
  rotate_left
  · intro V hSw
    (try dsimp only at hSw)
    go_simp
    (try with_reducible rfl)
  simp only [List.getElem_toArray, List.getElem_cons_succ, List.getElem_cons_zero, Act.put, List.setIfInBounds_toArray, List.set_cons_zero, List.set_cons_succ]
  clear hHeld
  refine wpAnyD_ready (rs := [5]) (by kernel_rfl) (by simp) ?_
  refine AllReadyD.cons rfl (fun K hK => ?_) AllReadyD.nil
  obtain ⟨v2, w2, hrun, hown, hb⟩ := run_flatA 40 40 142 _ 32 Try.underlying40 info_Flow5 rfl (by decide) (by decide) (fun f u hu => by simp [GFlow.cells] at hu; rcases hu with rfl | rfl | rfl | rfl <;> rfl) C2 i2 w1.heap.size m y.out (Q2.out.later B.out) l3
  obtain ⟨D2, j2, rfl, hr2⟩ := hown.rows (by omega)
  refine step_of_run rfl (.const (.slice none 0 0)) (.tmp 7) 40 rfl rfl rfl hrun ?_
  have R2 : Hid (Rows flowC (some (w.heap.size + 2)) w2 w2.heap.size D2 y.out) := hr2.weak (Weaker.some (by have := Z.out.lt; omega))
  have P := Lib.hid (P.out.later hb)
  have Z := Lib.hid (Z.out.later hb)
  have R1 := Lib.hid (R1.out.later hb)
  have B := Lib.hid (B.out.trans (hb.mono B.out.size))
  clear hb hown hr2 hrun
  have hHeld : (fun V : World => V.cell? ⟨w.heap.size, 2, none⟩ = some (.slice C1 y.inn.length i1) ∧ V.cell? ⟨w.heap.size, 3, none⟩ = some (.slice C2 y.out.length i2) ∧ V.cell? ⟨w.heap.size, 4, none⟩ = some (.slice C3 y.clear.length i3)) w2 := ⟨P.out.cell 2, P.out.cell 3, P.out.cell 4⟩
  refine hK.out _ _ (fun _ => hHeld) ?_
  clear hK K hHeld
  try simp only [List.getElem_toArray, List.getElem_cons_succ, List.getElem_cons_zero, Act.put, List.setIfInBounds_toArray, List.set_cons_zero, List.set_cons_succ]
  refine wpAnyD_ready (rs := [8]) (by kernel_rfl) (by simp) ?_
  refine AllReadyD.cons rfl (fun K hK => ?_) AllReadyD.nil
  go_simp
  go_wp2_with (go_at_call 122; refine (impl_cloneInts C3 i3 y.clear w2 (Q3.out.later B.out).ints (by omega)).mono ?_; rintro e w3 ⟨v1, rfl, hown, hb⟩; obtain ⟨D3, j3, rfl, hr1⟩ := hown.rows (by omega))
  have R3 : Hid (Rows intC (some (w.heap.size + 2)) w3 w3.heap.size D3 y.clear) := hr1.weak (Weaker.some (by have := Z.out.lt; omega))
  have P := Lib.hid (P.out.later hb)
  have Z := Lib.hid (Z.out.later hb)
  have R1 := Lib.hid (R1.out.later hb)
  have R2 := Lib.hid (R2.out.later hb)
  have B := Lib.hid (B.out.trans (hb.mono B.out.size))
  clear hb hown hr1
  have hHeld : (fun V : World => V.cell? ⟨w.heap.size, 2, none⟩ = some (.slice C1 y.inn.length i1) ∧ V.cell? ⟨w.heap.size, 3, none⟩ = some (.slice C2 y.out.length i2) ∧ V.cell? ⟨w.heap.size, 4, none⟩ = some (.slice C3 y.clear.length i3)) w3 := ⟨P.out.cell 2, P.out.cell 3, P.out.cell 4⟩
  refine hK.out _ _ (fun _ => hHeld) ?_
  clear hK K hHeld
  refine wpAnyD_ready (rs := [10]) (by kernel_rfl) (by simp) ?_
  refine AllReadyD.cons rfl (fun K hK => ?_) AllReadyD.nil
  have kP := fun i => P.out.cell i
  have fP := fun i => P.out.frozen i
  go_simp
  clear kP fP
  generalize hV : World.setCell w3 _ _ = w4
  have P : Hid (Bk w4 w.heap.size 42 #[.int .i64 y.join, .int .i64 y.split, .slice D1 y.inn.length j1, .slice C2 y.out.length i2, .slice C3 y.clear.length i3, .int .i64 y.role, .int .i64 y.apart, .int .i64 y.all, .int .i64 y.need]) := by show Bk _ _ _ _; rw [← hV]; exact P.out.set 2 _
  have hk : ∀ q, q ≠ w.heap.size → w4.heap[q]? = w3.heap[q]? := fun q hq => by rw [← hV]; exact Below.heap_setCell _ ⟨w.heap.size, 2, none⟩ _ q hq
  have hsz : w4.heap.size = w3.heap.size := by rw [← hV]; simp [World.setCell]
  have B : Hid (Below w.heap.size w w4) := by show Below _ _ _; rw [← hV]; exact B.out.setCell (p := ⟨w.heap.size, 2, none⟩) (Nat.le_refl _) _
  have Z := Lib.hid ((hk _ (by omega)).trans Z.out)
  have Z : Hid (Bk w4 (w.heap.size + 1) 42 #[.int .i64 0, .int .i64 0, .slice none 0 0, .slice none 0 0, .slice none 0 0, .int .i64 0, .int .i64 0, .int .i64 0, .int .i64 0]) := Z.out
  have R1 := Lib.hid ((R1.out.keep fun q _ hq => hk q (by have := hq _ rfl; omega)).more (Nat.le_of_eq hsz.symm))
  have R2 := Lib.hid ((R2.out.keep fun q _ hq => hk q (by have := hq _ rfl; omega)).more (Nat.le_of_eq hsz.symm))
  have R3 := Lib.hid ((R3.out.keep fun q _ hq => hk q (by have := hq _ rfl; omega)).more (Nat.le_of_eq hsz.symm))
  clear hV hk hsz
  refine hK.out _ _ (fun h => Bool.noConfusion ((by kernel_rfl : _ = true).symm.trans h)) ?_
  clear hK K
  refine wpAnyD_ready (rs := [11]) (by kernel_rfl) (by simp) ?_
  refine AllReadyD.cons rfl (fun K hK => ?_) AllReadyD.nil
  go_simp
  refine hK.out _ _ (fun h => Bool.noConfusion ((by kernel_rfl : _ = true).symm.trans h)) ?_
  clear hK K
  refine wpAnyD_ready (rs := [12]) (by kernel_rfl) (by simp) ?_
  refine AllReadyD.cons rfl (fun K hK => ?_) AllReadyD.nil
  have kP := fun i => P.out.cell i
  have fP := fun i => P.out.frozen i
  go_simp
  clear kP fP
  generalize hV : World.setCell w4 _ _ = w5
  have P : Hid (Bk w5 w.heap.size 42 #[.int .i64 y.join, .int .i64 y.split, .slice D1 y.inn.length j1, .slice D2 y.out.length j2, .slice C3 y.clear.length i3, .int .i64 y.role, .int .i64 y.apart, .int .i64 y.all, .int .i64 y.need]) := by show Bk _ _ _ _; rw [← hV]; exact P.out.set 3 _
  have hk : ∀ q, q ≠ w.heap.size → w5.heap[q]? = w4.heap[q]? := fun q hq => by rw [← hV]; exact Below.heap_setCell _ ⟨w.heap.size, 3, none⟩ _ q hq
  have hsz : w5.heap.size = w4.heap.size := by rw [← hV]; simp [World.setCell]
  have B : Hid (Below w.heap.size w w5) := by show Below _ _ _; rw [← hV]; exact B.out.setCell (p := ⟨w.heap.size, 3, none⟩) (Nat.le_refl _) _
  have Z := Lib.hid ((hk _ (by omega)).trans Z.out)
  have Z : Hid (Bk w5 (w.heap.size + 1) 42 #[.int .i64 0, .int .i64 0, .slice none 0 0, .slice none 0 0, .slice none 0 0, .int .i64 0, .int .i64 0, .int .i64 0, .int .i64 0]) := Z.out
  have R1 := Lib.hid ((R1.out.keep fun q _ hq => hk q (by have := hq _ rfl; omega)).more (Nat.le_of_eq hsz.symm))
  have R2 := Lib.hid ((R2.out.keep fun q _ hq => hk q (by have := hq _ rfl; omega)).more (Nat.le_of_eq hsz.symm))
  have R3 := Lib.hid ((R3.out.keep fun q _ hq => hk q (by have := hq _ rfl; omega)).more (Nat.le_of_eq hsz.symm))
  clear hV hk hsz
  refine hK.out _ _ (fun h => Bool.noConfusion ((by kernel_rfl : _ = true).symm.trans h)) ?_
  clear hK K
  refine wpAnyD_ready (rs := [13]) (by kernel_rfl) (by simp) ?_
  refine AllReadyD.cons rfl (fun K hK => ?_) AllReadyD.nil
  go_simp
  refine hK.out _ _ (fun h => Bool.noConfusion ((by kernel_rfl : _ = true).symm.trans h)) ?_
  clear hK K
  refine wpAnyD_ready (rs := [14]) (by kernel_rfl) (by simp) ?_
  refine AllReadyD.cons rfl (fun K hK => ?_) AllReadyD.nil
  have kP := fun i => P.out.cell i
  have fP := fun i => P.out.frozen i
  go_simp
  clear kP fP
  generalize hV : World.setCell w5 _ _ = w6
  have P : Hid (Bk w6 w.heap.size 42 #[.int .i64 y.join, .int .i64 y.split, .slice D1 y.inn.length j1, .slice D2 y.out.length j2, .slice D3 y.clear.length j3, .int .i64 y.role, .int .i64 y.apart, .int .i64 y.all, .int .i64 y.need]) := by show Bk _ _ _ _; rw [← hV]; exact P.out.set 4 _
  have hk : ∀ q, q ≠ w.heap.size → w6.heap[q]? = w5.heap[q]? := fun q hq => by rw [← hV]; exact Below.heap_setCell _ ⟨w.heap.size, 4, none⟩ _ q hq
  have hsz : w6.heap.size = w5.heap.size := by rw [← hV]; simp [World.setCell]
  have B : Hid (Below w.heap.size w w6) := by show Below _ _ _; rw [← hV]; exact B.out.setCell (p := ⟨w.heap.size, 4, none⟩) (Nat.le_refl _) _
  have Z := Lib.hid ((hk _ (by omega)).trans Z.out)
  have Z : Hid (Bk w6 (w.heap.size + 1) 42 #[.int .i64 0, .int .i64 0, .slice none 0 0, .slice none 0 0, .slice none 0 0, .int .i64 0, .int .i64 0, .int .i64 0, .int .i64 0]) := Z.out
  have R1 := Lib.hid ((R1.out.keep fun q _ hq => hk q (by have := hq _ rfl; omega)).more (Nat.le_of_eq hsz.symm))
  have R2 := Lib.hid ((R2.out.keep fun q _ hq => hk q (by have := hq _ rfl; omega)).more (Nat.le_of_eq hsz.symm))
  have R3 := Lib.hid ((R3.out.keep fun q _ hq => hk q (by have := hq _ rfl; omega)).more (Nat.le_of_eq hsz.symm))
  clear hV hk hsz
  refine hK.out _ _ (fun h => Bool.noConfusion ((by kernel_rfl : _ = true).symm.trans h)) ?_
  clear hK K
  refine wpAnyD_done (by kernel_rfl) ?_ _
  have kP := fun i => P.out.cell i
  have kZ := fun i => Z.out.cell i
  have fZ := fun i => Z.out.frozen i
  go_wp2
  have hput := taskW_put Z.out (b0 := .int .i64 y.join) (b1 := .int .i64 y.split) (b2 := .slice D1 y.inn.length j1) (b3 := .slice D2 y.out.length j2) (b4 := .slice D3 y.clear.length j3) (b5 := .int .i64 y.role) (b6 := .int .i64 y.apart) (b7 := .int .i64 y.all) (b8 := .int .i64 y.need)
  generalize hV : World.setCell (World.setCell (World.setCell (World.setCell (World.setCell (World.setCell (World.setCell (World.setCell (World.setCell w6 _ _) _ _) _ _) _ _) _ _) _ _) _ _) _ _) _ _ = V at hput ⊢
  have ZV := hput.bk
  have tV : Below w.heap.size w V := hput.below B.out (by omega)
  have hbl := hput.block
  have hsz := hput.size
  clear hV kP kZ fZ hput
  have k1 := fun j => ZV.cell j
  refine bodyPost_ret (v := .agg #[.int .i64 y.join, .int .i64 y.split, .slice D1 y.inn.length j1, .slice D2 y.out.length j2, .slice D3 y.clear.length j3, .int .i64 y.role, .int .i64 y.apart, .int .i64 y.all, .int .i64 y.need]) (by simp [results, Try.results233, go_sem, k1]) rfl ?_
  have ag : ∀ {α : Type} {C : Cod α} {A : Option Addr} {zs : List α}, Rows C (some (w.heap.size + 2)) w6 w6.heap.size A zs → Rows C (some w.heap.size) V V.heap.size A zs := fun hr => ((hr.keep fun q _ hq => hbl q (by have := hq _ rfl; omega)).more (Nat.le_of_eq hsz.symm)).weak (Weaker.some (by omega))
  exact ⟨_, rfl, ⟨D1, j1, D2, j2, D3, j3, rfl, ag R1.out, ag R2.out, ag R3.out⟩, tV⟩
end Go.Proofs.Ytkkjljpokannkaa
