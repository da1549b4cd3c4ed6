/- A house copied by the program: clone. -/
import Derived.Test.YtkkjljpokannkaaCloneT
namespace Go.Proofs.Ytkkjljpokannkaa
open Go.RowKit
set_option linter.unusedSimpArgs false
set_option linter.unusedVariables false

set_option maxHeartbeats 1000000 in
theorem impl_cloneRules0 (w : World) : Calls Try.prog 178 #[.slice none 0 0] w fun e w' => e = .returned (.slice none 0 0) ∧ Below w.heap.size w w' := by
  go_enter Try.func178, Try.ntmps178
  go_wp2
  go_loopg [3, 5, 8] 0 (fun gg s3 _ s8 wr => s3 = .slice none 0 0 ∧ s8 = .int .i64 0 ∧ Aside (w = wr))
  case atStart => exact ⟨rfl, rfl, rfl⟩
  case round =>
    obtain ⟨rfl, rfl, EW⟩ := hrel
    obtain rfl := EW.out
    go_wp2
    go_ret
    exact ⟨rfl, Below.refl _ _⟩

/-- Nothing below the size of the world w has turned since, but block g. -/
def Fr (g : Nat) (w w' : World) : Prop := w.heap.size ≤ w'.heap.size ∧ ∀ q, q < w.heap.size → q ≠ g → w'.heap[q]? = w.heap[q]?
theorem fr_later {g : Nat} {w a b : World} (h : Fr g w a) (hb : Below a.heap.size a b) : Fr g w b := ⟨Nat.le_trans h.1 hb.size, fun q h1 h2 => (hb.block q (Nat.lt_of_lt_of_le h1 h.1)).trans (h.2 q h1 h2)⟩

set_option maxRecDepth 100000 in
set_option maxHeartbeats 8000000 in
theorem impl_cloneHouse (A : Option Addr) (c : Nat) (ns : List GNet) (AP : Option Addr) (cP : Nat) (ps : List Int) (m : Option Nat) (w : World) (h : Rows netC m w w.heap.size A ns) (hp : Ints w w.heap.size AP ps) (hn3 : ns.length ≤ 3) (hp4 : ps.length ≤ 1000)
    (hfew : ∀ x ∈ ns, x.tasks.length ≤ 1000 ∧ ∀ t ∈ x.tasks, taskFew t) :
    Calls Try.prog 155 #[.agg #[.slice A ns.length c, .slice AP ps.length cP, .slice none 0 0, .slice none 0 0]] w (GivesH ns ps w) := by
  have nn := h.1
  have H0 := Lib.hid h
  have HP := Lib.hid hp
  have HFEW := Lib.hid hfew
  clear h hp hfew
  go_enter Try.func155, Try.ntmps155
  go_wp2
  generalize hW : World.alloc (World.alloc w _) _ = W
  have P : Hid (Bk W w.heap.size 102 #[.slice A ns.length c, .slice AP ps.length cP, .slice none 0 0, .slice none 0 0]) := by show Bk _ _ _ _; rw [← hW]; exact (Bk.new rfl).alloc _
  have Z : Hid (Bk W (w.heap.size + 1) 102 #[.slice none 0 0, .slice none 0 0, .slice none 0 0, .slice none 0 0]) := by show Bk _ _ _ _; rw [← hW]; exact Bk.new (by simp)
  have B : Hid (Below w.heap.size w W) := by show Below _ _ _; rw [← hW]; go_grown
  clear hW
  refine wp_region_heldD (d := 8) (S := (fun V : World => V.cell? ⟨w.heap.size, 1, none⟩ = some (.slice AP ps.length cP) ∧ V.cell? ⟨w.heap.size, 2, none⟩ = some (.slice none 0 0))) (by kernel_rfl) ?_
  have hb : Below W.heap.size W W.drew := (Below.refl _ _).drew
  have P := Lib.hid (P.out.later hb)
  have Z := Lib.hid (Z.out.later hb)
  have B := Lib.hid (B.out.trans (hb.mono B.out.size))
  generalize W.drew = w0 at P Z B ⊢
  clear hb
  have zZ0 := Z.out.lt
  have hHeld : (fun V : World => V.cell? ⟨w.heap.size, 1, none⟩ = some (.slice AP ps.length cP) ∧ V.cell? ⟨w.heap.size, 2, none⟩ = some (.slice none 0 0)) w0 := ⟨P.out.cell 1, P.out.cell 2⟩
  refine wpAnyD_take (i := 0) (v := ?_) rfl (by kernel_rfl) (by kernel_rfl) (by kernel_rfl) (by kernel_rfl) (by kernel_rfl) (by kernel_rfl) (fun _ _ _ h => h) (Or.inl ⟨by rfl, ?_⟩) (by assumption) ?_
  rotate_left
  · intro V hSw
    (try dsimp only at hSw)
    go_simp
    (try with_reducible rfl)
  simp only [List.getElem_toArray, List.getElem_cons_succ, List.getElem_cons_zero, Act.put, List.setIfInBounds_toArray, List.set_cons_zero, List.set_cons_succ]
  refine wpAnyD_take (i := 1) (v := ?_) rfl (by kernel_rfl) (by kernel_rfl) (by kernel_rfl) (by kernel_rfl) (by kernel_rfl) (by kernel_rfl) (fun _ _ _ h => h) (Or.inl ⟨by rfl, ?_⟩) (by assumption) ?_
  rotate_left
  · intro V hSw
    (try dsimp only at hSw)
    go_simp
    (try with_reducible rfl)
  simp only [List.getElem_toArray, List.getElem_cons_succ, List.getElem_cons_zero, Act.put, List.setIfInBounds_toArray, List.set_cons_zero, List.set_cons_succ]
  refine wpAnyD_take (i := 3) (v := ?_) rfl (by kernel_rfl) (by kernel_rfl) (by kernel_rfl) (by kernel_rfl) (by kernel_rfl) (by kernel_rfl) (fun _ _ _ h => h) (Or.inl ⟨by rfl, ?_⟩) (by assumption) ?_
  rotate_left
  · intro V hSw
    (try dsimp only at hSw)
    go_simp
    (try with_reducible rfl)
  simp only [List.getElem_toArray, List.getElem_cons_succ, List.getElem_cons_zero, Act.put, List.setIfInBounds_toArray, List.set_cons_zero, List.set_cons_succ]
  refine wpAnyD_take (i := 4) (v := ?_) rfl (by kernel_rfl) (by kernel_rfl) (by kernel_rfl) (by kernel_rfl) (by kernel_rfl) (by kernel_rfl) (fun _ _ _ h => h) (Or.inl ⟨by rfl, ?_⟩) (by assumption) ?_
  rotate_left
  · intro V hSw
    (try dsimp only at hSw)
    go_simp
    (try with_reducible rfl)
  simp only [List.getElem_toArray, List.getElem_cons_succ, List.getElem_cons_zero, Act.put, List.setIfInBounds_toArray, List.set_cons_zero, List.set_cons_succ]
  clear hHeld
  refine wpAnyD_ready (rs := [2, 7]) (by kernel_rfl) (by simp) ?_
  refine AllReadyD.cons rfl (fun K hK => ?_) (AllReadyD.cons rfl (fun K hK => ?_) AllReadyD.nil)
  · go_simp
    go_wp2_with (go_at_call 122; refine (impl_cloneInts AP cP ps w0 (HP.out.later B.out) (by omega)).mono ?_; rintro e w1 ⟨v1, rfl, hown, hb⟩; obtain ⟨D1, j1, rfl, hr1⟩ := hown.rows (by omega))
    obtain ⟨lo1, hlo1⟩ : ∃ g, g = w0.heap.size := ⟨_, rfl⟩
    have z1 := hb.size
    have P := Lib.hid (P.out.later hb)
    have Z := Lib.hid (Z.out.later hb)
    have B := Lib.hid (B.out.trans (hb.mono B.out.size))
    have BC : Hid (Below w1.heap.size w1 w1) := Below.refl _ _
    rw [← hlo1] at hr1
    have R1 := Lib.hid hr1
    have yL : w.heap.size + 2 ≤ lo1 := by omega
    clear hown hr1 hb
    have hHeld : (fun V : World => V.cell? ⟨w.heap.size, 1, none⟩ = some (.slice AP ps.length cP) ∧ V.cell? ⟨w.heap.size, 2, none⟩ = some (.slice none 0 0)) w1 := ⟨P.out.cell 1, P.out.cell 2⟩
    refine hK.out _ _ (fun _ => hHeld) ?_
    clear hK K hHeld
    refine wpAnyD_ready (rs := [5, 7]) (by kernel_rfl) (by simp) ?_
    refine AllReadyD.cons rfl (fun K hK => ?_) (AllReadyD.cons rfl (fun K hK => ?_) AllReadyD.nil)
    · go_simp
      go_wp2_with (go_at_call 178; refine (impl_cloneRules0 w1).mono ?_; rintro e w2 ⟨rfl, hb⟩)
      have z2 := hb.size
      have P := Lib.hid (P.out.later hb)
      have Z := Lib.hid (Z.out.later hb)
      have B := Lib.hid (B.out.trans (hb.mono B.out.size))
      have BC := Lib.hid (BC.out.trans (hb.mono BC.out.size))
      clear hb
      have hHeld : (fun V : World => V.cell? ⟨w.heap.size, 1, none⟩ = some (.slice AP ps.length cP) ∧ V.cell? ⟨w.heap.size, 2, none⟩ = some (.slice none 0 0)) w2 := ⟨P.out.cell 1, P.out.cell 2⟩
      refine hK.out _ _ (fun _ => hHeld) ?_
      clear hK K
      refine wpAnyD_take (i := 6) (v := ?_) rfl (by kernel_rfl) (by kernel_rfl) (by kernel_rfl) (by kernel_rfl) (by kernel_rfl) (by kernel_rfl) (fun _ _ _ h => h) (Or.inl ⟨by rfl, ?_⟩) (by assumption) ?_
      rotate_left
      · intro V hSw
        (try dsimp only at hSw)
        go_simp
        (try with_reducible rfl)
      simp only [List.getElem_toArray, List.getElem_cons_succ, List.getElem_cons_zero, Act.put, List.setIfInBounds_toArray, List.set_cons_zero, List.set_cons_succ]
      clear hHeld
      refine wpAnyD_ready (rs := [7]) (by kernel_rfl) (by simp) ?_
      refine AllReadyD.cons rfl (fun K hK => ?_) AllReadyD.nil
      · go_simp
        obtain ⟨wa, hV⟩ : ∃ V, V = World.alloc w2 (.cells #[.slice none 0 0, .slice none 0 0, .slice none 0 0, .slice none 0 0] 102) := ⟨_, rfl⟩
        have hb : Below w2.heap.size w2 wa := by rw [hV]; exact (Below.refl _ _).alloc (Nat.le_refl _) _
        obtain ⟨Hb, hHb⟩ : ∃ g, g = w2.heap.size := ⟨_, rfl⟩
        have P := Lib.hid (P.out.later hb)
        have Z := Lib.hid (Z.out.later hb)
        have B := Lib.hid (B.out.trans (hb.mono B.out.size))
        have BC := Lib.hid (BC.out.trans (hb.mono BC.out.size))
        have HB : Hid (Bk wa Hb 102 #[.slice none 0 0, .slice none 0 0, .slice none 0 0, .slice none 0 0]) := by show Bk _ _ _ _; rw [hV, hHb]; exact Bk.new rfl
        rw [← hV, ← hHb]
        have yH : w.heap.size + 2 ≤ Hb := by have h9 := hHb; omega
        have SEP : Hid (Hb < lo1 ∨ w1.heap.size ≤ Hb) := by right; have h9 := hHb; omega
        clear hV hHb hb
        have hHeld : (fun V : World => V.cell? ⟨w.heap.size, 1, none⟩ = some (.slice AP ps.length cP) ∧ V.cell? ⟨w.heap.size, 2, none⟩ = some (.slice none 0 0)) wa := ⟨P.out.cell 1, P.out.cell 2⟩
        refine hK.out _ _ (fun _ => hHeld) ?_
        clear hK K hHeld
        refine wpAnyD_ready (rs := [8]) (by kernel_rfl) (by simp) ?_
        refine AllReadyD.cons rfl (fun K hK => ?_) AllReadyD.nil
        · have kH := fun i => HB.out.cell i
          have fH := fun i => HB.out.frozen i
          go_simp
          clear kH fH
          have hput := house_put HB.out (b0 := .slice none 0 0) (b1 := .slice D1 ps.length j1) (b2 := .slice none 0 0) (b3 := .slice none 0 0)
          generalize hV : World.setCell (World.setCell (World.setCell (World.setCell wa _ _) _ _) _ _) _ _ = w8 at hput ⊢
          have N := Lib.hid hput.bk
          have hbl := hput.block
          have hsz := hput.size
          have zH := HB.out.lt
          have P := Lib.hid ((hbl _ (by omega)).trans P.out : Bk w8 w.heap.size 102 #[.slice A ns.length c, .slice AP ps.length cP, .slice none 0 0, .slice none 0 0])
          have Z : Hid (Bk w8 (w.heap.size + 1) 102 #[.slice none 0 0, .slice none 0 0, .slice none 0 0, .slice none 0 0]) := (hbl _ (by omega)).trans Z.out
          have P : Hid (Bk w8 w.heap.size 102 #[.slice A ns.length c, .slice AP ps.length cP, .slice none 0 0, .slice none 0 0]) := P.out
          have B : Hid (Below w.heap.size w w8) := hput.below B.out (by omega)
          have PK : Hid (∀ V : World, w8.heap.size ≤ V.heap.size → (∀ q, q < w8.heap.size → q ≠ Hb → q ≠ w.heap.size + 1 → V.heap[q]? = w8.heap[q]?) → Rows intC (some w.heap.size) V V.heap.size D1 ps) := by
            intro V hs hq
            have hz := BC.out.size
            exact ((R1.out.keep fun q h1 h2 => by
              have h3 := h2 _ rfl
              have h4 := SEP.out
              exact (hq q (by omega) (by omega) (by omega)).trans ((hbl q (by omega)).trans (BC.out.block q h1))).more (by omega)).weak (Weaker.some (by omega))
          have zN : Hb < w8.heap.size := by omega
          clear hV hbl hput R1 BC SEP HB
          refine hK.out _ _ (fun h => Bool.noConfusion ((by kernel_rfl : _ = true).symm.trans h)) ?_
          clear hK K
          refine wpAnyD_done (by kernel_rfl) ?_ _
          have kP := fun i => P.out.cell i
          go_wp2
          clear kP
          go_loopg [5, 18] ns.length (fun gg _ s18 wr => ∃ (i : Nat) (v : Value), i ≤ ns.length ∧ ns.length - i ≤ gg ∧ s18 = .int .i64 i ∧ Aside (Bk wr w.heap.size 102 #[.slice A ns.length c, .slice AP ps.length cP, .slice none 0 0, .slice none 0 0]) ∧ Aside (Bk wr (w.heap.size + 1) 102 #[.slice none 0 0, .slice none 0 0, .slice none 0 0, .slice none 0 0]) ∧ Aside (Bk wr Hb 102 #[v, .slice D1 ps.length j1, .slice none 0 0, .slice none 0 0]) ∧ Aside (Below w.heap.size w wr) ∧ Aside (Fr Hb w8 wr) ∧ Aside (OwnC netC 37 wr w8.heap.size v (ns.take i)))
          case atStart => exact ⟨0, _, Nat.zero_le _, by omega, rfl, P.out, Z.out, N.out, B.out, ⟨Nat.le_refl _, fun _ _ _ => rfl⟩, OwnC.nil _ _⟩
          case round =>
            obtain ⟨i, v, hi, hg, rfl, Pa, Za, Na, Ba, Fa, OWa⟩ := hrel
            have P := Lib.hid Pa.out
            have Z := Lib.hid Za.out
            have N := Lib.hid Na.out
            have B := Lib.hid Ba.out
            have FR := Lib.hid Fa.out
            have OW := Lib.hid OWa.out
            clear Pa Za Na Ba Fa OWa
            have zB := B.out.size
            have zF := FR.out.1
            obtain ⟨A9, c9, hv9, hrow9⟩ := OW.out.rows (by simp; omega)
            by_cases hlt : i < ns.length
            · have hltz : (i : Int) < (ns.length : Int) := by omega
              have hv : v = .slice A9 i c9 := by rw [hv9, List.length_take, Nat.min_eq_left (by omega)]
              clear hrow9 hv9
              subst hv
              obtain ⟨b, off, A1, c1, rfl, hbl, hr, t0, t1⟩ := net_at (H0.out.later B.out) hlt
              have HT : Hid (ns.take (i + 1) = ns.take i ++ [ns[i]]) := List.take_succ_eq_append_getElem hlt
              have HL8 : Hid ((ns.take i ++ [ns[i]]).length = i + 1) := by show _ = _; rw [List.length_append, List.length_take, Nat.min_eq_left (by omega)]; rfl
              have HX := Lib.hid (HFEW.out _ (List.getElem_mem hlt))
              generalize ns[i] = x at hr t0 t1 HT HL8 HX
              have XR := Lib.hid hr
              have HMS : Hid (ns.length - (i + 1) < ns.length - i) := by show _ < _; omega
              have HG := Lib.hid hg
              have HLO : Hid (∀ g, (Value.slice A9 i c9).ownBlock = some g → w8.heap.size ≤ g ∧ g < wr.heap.size) := fun g hg => OW.out.lt g hg
              clear hr
              go_upto_region 5 with fail
              generalize hV : World.alloc wr _ = V1
              have E : Hid (Bk V1 wr.heap.size 37 #[.int .i64 x.places, .slice A1 x.tasks.length c1]) := by show Bk _ _ _ _; rw [← hV]; exact Bk.new rfl
              have hb : Below wr.heap.size wr V1 := by rw [← hV]; exact (Below.refl _ _).alloc (Nat.le_refl _) _
              have SB : Hid (wr.heap.size ≤ wr.heap.size) := Nat.le_refl _
              have P := Lib.hid (P.out.later hb)
              have Z := Lib.hid (Z.out.later hb)
              have N := Lib.hid (N.out.later hb)
              have OW := Lib.hid (OW.out.later hb)
              have B := Lib.hid (B.out.trans (hb.mono B.out.size))
              have SB := Lib.hid (Nat.le_trans SB.out hb.size)
              have FR := Lib.hid (fr_later FR.out hb)
              have XR := Lib.hid (XR.out.later hb)
              clear hV hb t0 t1 hbl
              refine wp_region_heldD (d := 7) (S := (fun V : World => V.cell? ⟨Hb, 0, none⟩ = some (.slice A9 i c9) ∧ V.cell? ⟨wr.heap.size, 0, none⟩ = some (.int .i64 x.places) ∧ V.cell? ⟨wr.heap.size, 1, none⟩ = some (.slice A1 x.tasks.length c1))) (by kernel_rfl) ?_
              have hb : Below V1.heap.size V1 V1.drew := (Below.refl _ _).drew
              have P := Lib.hid (P.out.later hb)
              have Z := Lib.hid (Z.out.later hb)
              have N := Lib.hid (N.out.later hb)
              have E := Lib.hid (E.out.later hb)
              have OW := Lib.hid (OW.out.later hb)
              have B := Lib.hid (B.out.trans (hb.mono B.out.size))
              have SB := Lib.hid (Nat.le_trans SB.out hb.size)
              have FR := Lib.hid (fr_later FR.out hb)
              have XR := Lib.hid (XR.out.later hb)
              generalize V1.drew = wd at P Z N E OW B SB FR XR ⊢
              clear hb
              have hHeld : (fun V : World => V.cell? ⟨Hb, 0, none⟩ = some (.slice A9 i c9) ∧ V.cell? ⟨wr.heap.size, 0, none⟩ = some (.int .i64 x.places) ∧ V.cell? ⟨wr.heap.size, 1, none⟩ = some (.slice A1 x.tasks.length c1)) wd := ⟨N.out.cell 0, E.out.cell 0, E.out.cell 1⟩
              refine wpAnyD_take (i := 0) (v := ?_) rfl (by kernel_rfl) (by kernel_rfl) (by kernel_rfl) (by kernel_rfl) (by kernel_rfl) (by kernel_rfl) (fun _ _ _ h => h) (Or.inl ⟨by rfl, ?_⟩) (by assumption) ?_
              rotate_left
              · intro V hSw
                (try dsimp only at hSw)
                go_simp
                (try with_reducible rfl)
              simp only [List.getElem_toArray, List.getElem_cons_succ, List.getElem_cons_zero, Act.put, List.setIfInBounds_toArray, List.set_cons_zero, List.set_cons_succ]
              refine wpAnyD_take (i := 1) (v := ?_) rfl (by kernel_rfl) (by kernel_rfl) (by kernel_rfl) (by kernel_rfl) (by kernel_rfl) (by kernel_rfl) (fun _ _ _ h => h) (Or.inl ⟨by rfl, ?_⟩) (by assumption) ?_
              rotate_left
              · intro V hSw
                (try dsimp only at hSw)
                go_simp
                (try with_reducible rfl)
              simp only [List.getElem_toArray, List.getElem_cons_succ, List.getElem_cons_zero, Act.put, List.setIfInBounds_toArray, List.set_cons_zero, List.set_cons_succ]
              refine wpAnyD_take (i := 2) (v := ?_) rfl (by kernel_rfl) (by kernel_rfl) (by kernel_rfl) (by kernel_rfl) (by kernel_rfl) (by kernel_rfl) (fun _ _ _ h => h) (Or.inl ⟨by rfl, ?_⟩) (by assumption) ?_
              rotate_left
              · intro V hSw
                (try dsimp only at hSw)
                go_simp
                (try with_reducible rfl)
              simp only [List.getElem_toArray, List.getElem_cons_succ, List.getElem_cons_zero, Act.put, List.setIfInBounds_toArray, List.set_cons_zero, List.set_cons_succ]
              clear hHeld
              refine wpAnyD_ready (rs := [3]) (by kernel_rfl) (by simp) ?_
              refine AllReadyD.cons rfl (fun K hK => ?_) AllReadyD.nil
              go_simp
              go_wp2_with (go_at_call 206; refine (impl_cloneNet x A1 c1 m wd XR.out HX.out.1 HX.out.2).mono ?_; rintro e w11 ⟨cs, rfl, ⟨A6, c6, rfl, hr6⟩, hb⟩)
              have R6 := Lib.hid (hr6.weak (Weaker.some SB.out))
              have P := Lib.hid (P.out.later hb)
              have Z := Lib.hid (Z.out.later hb)
              have N := Lib.hid (N.out.later hb)
              have E := Lib.hid (E.out.later hb)
              have OW := Lib.hid (OW.out.later hb)
              have B := Lib.hid (B.out.trans (hb.mono B.out.size))
              have SB := Lib.hid (Nat.le_trans SB.out hb.size)
              have FR := Lib.hid (fr_later FR.out hb)
              clear hb hr6 XR
              have hHeld : (fun V : World => V.cell? ⟨Hb, 0, none⟩ = some (.slice A9 i c9) ∧ V.cell? ⟨wr.heap.size, 0, none⟩ = some (.int .i64 x.places) ∧ V.cell? ⟨wr.heap.size, 1, none⟩ = some (.slice A1 x.tasks.length c1)) w11 := ⟨N.out.cell 0, E.out.cell 0, E.out.cell 1⟩
              refine hK.out _ _ (fun _ => hHeld) ?_
              clear hK K hHeld
              refine wpAnyD_ready (rs := [4]) (by kernel_rfl) (by simp) ?_
              refine AllReadyD.cons rfl (fun K hK => ?_) AllReadyD.nil
              go_simp
              obtain ⟨w12, hV⟩ : ∃ V, V = World.alloc w11 (.cells #[.int .i64 x.places, .slice A6 x.tasks.length c6] 37) := ⟨_, rfl⟩
              have hb : Below w11.heap.size w11 w12 := by rw [hV]; exact (Below.refl _ _).alloc (Nat.le_refl _) _
              obtain ⟨gl, hgl⟩ : ∃ g, g = w11.heap.size := ⟨_, rfl⟩
              have LT : Hid (Bk w12 gl 37 #[.int .i64 x.places, .slice A6 x.tasks.length c6]) := by show Bk _ _ _ _; rw [hV, hgl]; exact Bk.new rfl
              rw [← hV, ← hgl]
              clear hV hgl
              have R6 := Lib.hid (R6.out.later hb)
              have P := Lib.hid (P.out.later hb)
              have Z := Lib.hid (Z.out.later hb)
              have N := Lib.hid (N.out.later hb)
              have E := Lib.hid (E.out.later hb)
              have OW := Lib.hid (OW.out.later hb)
              have B := Lib.hid (B.out.trans (hb.mono B.out.size))
              have SB := Lib.hid (Nat.le_trans SB.out hb.size)
              have FR := Lib.hid (fr_later FR.out hb)
              clear hb
              have hHeld : (fun V : World => V.cell? ⟨Hb, 0, none⟩ = some (.slice A9 i c9) ∧ V.cell? ⟨wr.heap.size, 0, none⟩ = some (.int .i64 x.places) ∧ V.cell? ⟨wr.heap.size, 1, none⟩ = some (.slice A1 x.tasks.length c1)) w12 := ⟨N.out.cell 0, E.out.cell 0, E.out.cell 1⟩
              refine hK.out _ _ (fun _ => hHeld) ?_
              clear hK K hHeld
              refine wpAnyD_ready (rs := [5]) (by kernel_rfl) (by simp) ?_
              refine AllReadyD.cons rfl (fun K hK => ?_) AllReadyD.nil
              refine step_C6 rfl (.tmp 23) (.tmp 26) 96 rfl netC 37 _ 32 Try.underlying96 info_Net rfl (by decide) (by decide) w8.heap.size _ (ns.take i) rfl OW.out x _ wr.heap.size w12.heap.size ⟨A6, c6, rfl, R6.out⟩ (by omega) (Nat.le_refl _) (fun g hg => .inl (HLO.out g hg).2) gl rfl (fun j u hu => by rw [LT.out.cell]; simpa using hu) (by simp [Value.oneCell']) (Nat.le_trans (List.length_take_le _ _) (by omega)) (by have := SB.out; omega) ?_
              intro v7 w17 hown7 hg7 hb7 h57
              have O7 := Lib.hid hown7
              have P : Hid (Bk w17 w.heap.size 102 #[.slice (some ⟨b, off, none⟩) ns.length c, .slice AP ps.length cP, .slice none 0 0, .slice none 0 0]) := (hb7.block _ (by omega)).trans P.out
              have Z : Hid (Bk w17 (w.heap.size + 1) 102 #[.slice none 0 0, .slice none 0 0, .slice none 0 0, .slice none 0 0]) := (hb7.block _ (by omega)).trans Z.out
              have N : Hid (Bk w17 Hb 102 #[.slice A9 i c9, .slice D1 ps.length j1, .slice none 0 0, .slice none 0 0]) := (hb7.block _ (by omega)).trans N.out
              have yE2 := E.out.lt
              have E : Hid (Bk w17 wr.heap.size 37 #[.int .i64 x.places, .slice A1 x.tasks.length c1]) := (hg7.block _ yE2 (fun he => by have := HLO.out _ he.symm; omega)).trans E.out
              have B := Lib.hid (B.out.trans (hb7.mono (by omega)))
              have FR : Hid (Fr Hb w8 w17) := ⟨Nat.le_trans FR.out.1 hb7.size, fun q h1 h2 => (hb7.block q h1).trans (FR.out.2 q h1 h2)⟩
              obtain ⟨A7, c7, hv7, hz7⟩ := hown7.rows (by rw [HL8.out]; omega)
              have hv8 : v7 = .slice A7 (i + 1) c7 := hv7.trans (congrArg (fun n => Value.slice A7 n c7) HL8.out)
              clear hv7 hz7
              subst hv8
              clear hown7 hg7 hb7 h57 R6
              have hHeld : (fun V : World => V.cell? ⟨Hb, 0, none⟩ = some (.slice A9 i c9) ∧ V.cell? ⟨wr.heap.size, 0, none⟩ = some (.int .i64 x.places) ∧ V.cell? ⟨wr.heap.size, 1, none⟩ = some (.slice A1 x.tasks.length c1)) w17 := ⟨N.out.cell 0, E.out.cell 0, E.out.cell 1⟩
              refine hK.out _ _ (fun _ => hHeld) ?_
              clear hK K
              try simp only [List.getElem_toArray, List.getElem_cons_succ, List.getElem_cons_zero, Act.put, List.setIfInBounds_toArray, List.set_cons_zero, List.set_cons_succ]
              refine wpAnyD_take (i := 6) (v := ?_) rfl (by kernel_rfl) (by kernel_rfl) (by kernel_rfl) (by kernel_rfl) (by kernel_rfl) (by kernel_rfl) (fun _ _ _ h => h) (Or.inl ⟨by rfl, ?_⟩) (by assumption) ?_
              rotate_left
              · intro V hSw
                (try dsimp only at hSw)
                go_simp
                (try with_reducible rfl)
              simp only [List.getElem_toArray, List.getElem_cons_succ, List.getElem_cons_zero, Act.put, List.setIfInBounds_toArray, List.set_cons_zero, List.set_cons_succ]
              clear hHeld
              refine wpAnyD_ready (rs := [7]) (by kernel_rfl) (by simp) ?_
              refine AllReadyD.cons rfl (fun K hK => ?_) AllReadyD.nil
              have kN := fun i => N.out.cell i
              have fN := fun i => N.out.frozen i
              go_simp
              clear kN fN
              generalize hV : World.setCell w17 _ _ = w18
              have N8 : Hid (Bk w18 Hb 102 #[.slice A7 (i + 1) c7, .slice D1 ps.length j1, .slice none 0 0, .slice none 0 0]) := by show Bk _ _ _ _; rw [← hV]; exact N.out.set 0 _
              have hk : ∀ q, q ≠ Hb → w18.heap[q]? = w17.heap[q]? := fun q hq => by rw [← hV]; exact Below.heap_setCell _ ⟨Hb, 0, none⟩ _ q hq
              have hsz : w18.heap.size = w17.heap.size := by rw [← hV]; simp [World.setCell]
              have B : Hid (Below w.heap.size w w18) := by show Below _ _ _; rw [← hV]; exact B.out.setCell (p := ⟨Hb, 0, none⟩) (by show w.heap.size ≤ Hb; omega) _
              have P : Hid (Bk w18 w.heap.size 102 #[.slice (some ⟨b, off, none⟩) ns.length c, .slice AP ps.length cP, .slice none 0 0, .slice none 0 0]) := (hk _ (by omega)).trans P.out
              have Z : Hid (Bk w18 (w.heap.size + 1) 102 #[.slice none 0 0, .slice none 0 0, .slice none 0 0, .slice none 0 0]) := (hk _ (by omega)).trans Z.out
              have O8 := Lib.hid (O7.out.kept (w' := w18) ⟨Nat.le_of_eq hsz.symm, fun q _ hq => hk q (by omega)⟩)
              have FR : Hid (Fr Hb w8 w18) := ⟨by rw [hsz]; exact FR.out.1, fun q h1 h2 => (hk q h2).trans (FR.out.2 q h1 h2)⟩
              clear hV hk hsz
              refine hK.out _ _ (fun h => Bool.noConfusion ((by kernel_rfl : _ = true).symm.trans h)) ?_
              clear hK K
              refine wpAnyD_done (by kernel_rfl) ?_ _
              go_wp2
              go_roundg (ns.length - (i + 1))
              case measure => exact Nat.lt_of_lt_of_le HMS.out HG.out
              case rel => exact ⟨i + 1, _, hlt, Nat.le_refl _, by go_num, P.out, Z.out, N8.out, B.out, FR.out, by show OwnC _ _ _ _ _ _; rw [HT.out]; exact O8.out⟩
            · have hltz : ¬ (i : Int) < (ns.length : Int) := by omega
              have he : i = ns.length := by omega
              subst he
              rw [List.take_length] at hv9 hrow9 OW
              subst hv9
              have HR9 := Lib.hid hrow9
              clear hrow9
              have kP := fun i => P.out.cell i
              go_wp2
              clear kP
              go_loopg [7, 33] 0 (fun gg _ s33 wt => s33 = .int .i64 0 ∧ Aside (wr = wt))
              case atStart => exact ⟨rfl, rfl⟩
              case round =>
                obtain ⟨rfl, EW⟩ := hrel
                obtain rfl := EW.out
                have kN := fun j => N.out.cell j
                have kZ := fun j => Z.out.cell j
                have fZ := fun j => Z.out.frozen j
                go_wp2
                have hput := house_put Z.out (b0 := .slice A9 ns.length c9) (b1 := .slice D1 ps.length j1) (b2 := .slice none 0 0) (b3 := .slice none 0 0)
                generalize hV : World.setCell (World.setCell (World.setCell (World.setCell wr _ _) _ _) _ _) _ _ = V at hput ⊢
                have ZV := hput.bk
                have tV : Below w.heap.size w V := hput.below B.out (by omega)
                have hbl := hput.block
                have hsz := hput.size
                clear hV kN kZ fZ hput
                have k1 := fun j => ZV.cell j
                refine bodyPost_ret (v := .agg #[.slice A9 ns.length c9, .slice D1 ps.length j1, .slice none 0 0, .slice none 0 0]) (by simp [results, Try.results155, go_sem, k1]) rfl ?_
                exact ⟨A9, c9, D1, j1, rfl, ((HR9.out.keep fun q _ hq => hbl q (by have := hq _ rfl; omega)).more (by omega)).weak (Weaker.some (by omega)), PK.out V (by omega) (fun q h1 h2 h3 => (hbl q h3).trans (FR.out.2 q h1 h2)), tV⟩
    · go_simp
      obtain ⟨wa, hV⟩ : ∃ V, V = World.alloc w1 (.cells #[.slice none 0 0, .slice none 0 0, .slice none 0 0, .slice none 0 0] 102) := ⟨_, rfl⟩
      have hb : Below w1.heap.size w1 wa := by rw [hV]; exact (Below.refl _ _).alloc (Nat.le_refl _) _
      obtain ⟨Hb, hHb⟩ : ∃ g, g = w1.heap.size := ⟨_, rfl⟩
      have P := Lib.hid (P.out.later hb)
      have Z := Lib.hid (Z.out.later hb)
      have B := Lib.hid (B.out.trans (hb.mono B.out.size))
      have BC := Lib.hid (BC.out.trans (hb.mono BC.out.size))
      have HB : Hid (Bk wa Hb 102 #[.slice none 0 0, .slice none 0 0, .slice none 0 0, .slice none 0 0]) := by show Bk _ _ _ _; rw [hV, hHb]; exact Bk.new rfl
      rw [← hV, ← hHb]
      have yH : w.heap.size + 2 ≤ Hb := by have h9 := hHb; omega
      have SEP : Hid (Hb < lo1 ∨ w1.heap.size ≤ Hb) := by right; have h9 := hHb; omega
      clear hV hHb hb
      have hHeld : (fun V : World => V.cell? ⟨w.heap.size, 1, none⟩ = some (.slice AP ps.length cP) ∧ V.cell? ⟨w.heap.size, 2, none⟩ = some (.slice none 0 0)) wa := ⟨P.out.cell 1, P.out.cell 2⟩
      refine hK.out _ _ (fun _ => hHeld) ?_
      clear hK K hHeld
      refine wpAnyD_ready (rs := [5]) (by kernel_rfl) (by simp) ?_
      refine AllReadyD.cons rfl (fun K hK => ?_) AllReadyD.nil
      · go_simp
        go_wp2_with (go_at_call 178; refine (impl_cloneRules0 wa).mono ?_; rintro e w2 ⟨rfl, hb⟩)
        have z2 := hb.size
        have P := Lib.hid (P.out.later hb)
        have Z := Lib.hid (Z.out.later hb)
        have HB := Lib.hid (HB.out.later hb)
        have B := Lib.hid (B.out.trans (hb.mono B.out.size))
        have BC := Lib.hid (BC.out.trans (hb.mono BC.out.size))
        clear hb
        have hHeld : (fun V : World => V.cell? ⟨w.heap.size, 1, none⟩ = some (.slice AP ps.length cP) ∧ V.cell? ⟨w.heap.size, 2, none⟩ = some (.slice none 0 0)) w2 := ⟨P.out.cell 1, P.out.cell 2⟩
        refine hK.out _ _ (fun _ => hHeld) ?_
        clear hK K
        refine wpAnyD_take (i := 6) (v := ?_) rfl (by kernel_rfl) (by kernel_rfl) (by kernel_rfl) (by kernel_rfl) (by kernel_rfl) (by kernel_rfl) (fun _ _ _ h => h) (Or.inl ⟨by rfl, ?_⟩) (by assumption) ?_
        rotate_left
        · intro V hSw
          (try dsimp only at hSw)
          go_simp
          (try with_reducible rfl)
        simp only [List.getElem_toArray, List.getElem_cons_succ, List.getElem_cons_zero, Act.put, List.setIfInBounds_toArray, List.set_cons_zero, List.set_cons_succ]
        clear hHeld
        refine wpAnyD_ready (rs := [8]) (by kernel_rfl) (by simp) ?_
        refine AllReadyD.cons rfl (fun K hK => ?_) AllReadyD.nil
        · have kH := fun i => HB.out.cell i
          have fH := fun i => HB.out.frozen i
          go_simp
          clear kH fH
          have hput := house_put HB.out (b0 := .slice none 0 0) (b1 := .slice D1 ps.length j1) (b2 := .slice none 0 0) (b3 := .slice none 0 0)
          generalize hV : World.setCell (World.setCell (World.setCell (World.setCell w2 _ _) _ _) _ _) _ _ = w8 at hput ⊢
          have N := Lib.hid hput.bk
          have hbl := hput.block
          have hsz := hput.size
          have zH := HB.out.lt
          have P := Lib.hid ((hbl _ (by omega)).trans P.out : Bk w8 w.heap.size 102 #[.slice A ns.length c, .slice AP ps.length cP, .slice none 0 0, .slice none 0 0])
          have Z : Hid (Bk w8 (w.heap.size + 1) 102 #[.slice none 0 0, .slice none 0 0, .slice none 0 0, .slice none 0 0]) := (hbl _ (by omega)).trans Z.out
          have P : Hid (Bk w8 w.heap.size 102 #[.slice A ns.length c, .slice AP ps.length cP, .slice none 0 0, .slice none 0 0]) := P.out
          have B : Hid (Below w.heap.size w w8) := hput.below B.out (by omega)
          have PK : Hid (∀ V : World, w8.heap.size ≤ V.heap.size → (∀ q, q < w8.heap.size → q ≠ Hb → q ≠ w.heap.size + 1 → V.heap[q]? = w8.heap[q]?) → Rows intC (some w.heap.size) V V.heap.size D1 ps) := by
            intro V hs hq
            have hz := BC.out.size
            exact ((R1.out.keep fun q h1 h2 => by
              have h3 := h2 _ rfl
              have h4 := SEP.out
              exact (hq q (by omega) (by omega) (by omega)).trans ((hbl q (by omega)).trans (BC.out.block q h1))).more (by omega)).weak (Weaker.some (by omega))
          have zN : Hb < w8.heap.size := by omega
          clear hV hbl hput R1 BC SEP HB
          refine hK.out _ _ (fun h => Bool.noConfusion ((by kernel_rfl : _ = true).symm.trans h)) ?_
          clear hK K
          refine wpAnyD_done (by kernel_rfl) ?_ _
          have kP := fun i => P.out.cell i
          go_wp2
          clear kP
          go_loopg [5, 18] ns.length (fun gg _ s18 wr => ∃ (i : Nat) (v : Value), i ≤ ns.length ∧ ns.length - i ≤ gg ∧ s18 = .int .i64 i ∧ Aside (Bk wr w.heap.size 102 #[.slice A ns.length c, .slice AP ps.length cP, .slice none 0 0, .slice none 0 0]) ∧ Aside (Bk wr (w.heap.size + 1) 102 #[.slice none 0 0, .slice none 0 0, .slice none 0 0, .slice none 0 0]) ∧ Aside (Bk wr Hb 102 #[v, .slice D1 ps.length j1, .slice none 0 0, .slice none 0 0]) ∧ Aside (Below w.heap.size w wr) ∧ Aside (Fr Hb w8 wr) ∧ Aside (OwnC netC 37 wr w8.heap.size v (ns.take i)))
          case atStart => exact ⟨0, _, Nat.zero_le _, by omega, rfl, P.out, Z.out, N.out, B.out, ⟨Nat.le_refl _, fun _ _ _ => rfl⟩, OwnC.nil _ _⟩
          case round =>
            obtain ⟨i, v, hi, hg, rfl, Pa, Za, Na, Ba, Fa, OWa⟩ := hrel
            have P := Lib.hid Pa.out
            have Z := Lib.hid Za.out
            have N := Lib.hid Na.out
            have B := Lib.hid Ba.out
            have FR := Lib.hid Fa.out
            have OW := Lib.hid OWa.out
            clear Pa Za Na Ba Fa OWa
            have zB := B.out.size
            have zF := FR.out.1
            obtain ⟨A9, c9, hv9, hrow9⟩ := OW.out.rows (by simp; omega)
            by_cases hlt : i < ns.length
            · have hltz : (i : Int) < (ns.length : Int) := by omega
              have hv : v = .slice A9 i c9 := by rw [hv9, List.length_take, Nat.min_eq_left (by omega)]
              clear hrow9 hv9
              subst hv
              obtain ⟨b, off, A1, c1, rfl, hbl, hr, t0, t1⟩ := net_at (H0.out.later B.out) hlt
              have HT : Hid (ns.take (i + 1) = ns.take i ++ [ns[i]]) := List.take_succ_eq_append_getElem hlt
              have HL8 : Hid ((ns.take i ++ [ns[i]]).length = i + 1) := by show _ = _; rw [List.length_append, List.length_take, Nat.min_eq_left (by omega)]; rfl
              have HX := Lib.hid (HFEW.out _ (List.getElem_mem hlt))
              generalize ns[i] = x at hr t0 t1 HT HL8 HX
              have XR := Lib.hid hr
              have HMS : Hid (ns.length - (i + 1) < ns.length - i) := by show _ < _; omega
              have HG := Lib.hid hg
              have HLO : Hid (∀ g, (Value.slice A9 i c9).ownBlock = some g → w8.heap.size ≤ g ∧ g < wr.heap.size) := fun g hg => OW.out.lt g hg
              clear hr
              go_upto_region 5 with fail
              generalize hV : World.alloc wr _ = V1
              have E : Hid (Bk V1 wr.heap.size 37 #[.int .i64 x.places, .slice A1 x.tasks.length c1]) := by show Bk _ _ _ _; rw [← hV]; exact Bk.new rfl
              have hb : Below wr.heap.size wr V1 := by rw [← hV]; exact (Below.refl _ _).alloc (Nat.le_refl _) _
              have SB : Hid (wr.heap.size ≤ wr.heap.size) := Nat.le_refl _
              have P := Lib.hid (P.out.later hb)
              have Z := Lib.hid (Z.out.later hb)
              have N := Lib.hid (N.out.later hb)
              have OW := Lib.hid (OW.out.later hb)
              have B := Lib.hid (B.out.trans (hb.mono B.out.size))
              have SB := Lib.hid (Nat.le_trans SB.out hb.size)
              have FR := Lib.hid (fr_later FR.out hb)
              have XR := Lib.hid (XR.out.later hb)
              clear hV hb t0 t1 hbl
              refine wp_region_heldD (d := 7) (S := (fun V : World => V.cell? ⟨Hb, 0, none⟩ = some (.slice A9 i c9) ∧ V.cell? ⟨wr.heap.size, 0, none⟩ = some (.int .i64 x.places) ∧ V.cell? ⟨wr.heap.size, 1, none⟩ = some (.slice A1 x.tasks.length c1))) (by kernel_rfl) ?_
              have hb : Below V1.heap.size V1 V1.drew := (Below.refl _ _).drew
              have P := Lib.hid (P.out.later hb)
              have Z := Lib.hid (Z.out.later hb)
              have N := Lib.hid (N.out.later hb)
              have E := Lib.hid (E.out.later hb)
              have OW := Lib.hid (OW.out.later hb)
              have B := Lib.hid (B.out.trans (hb.mono B.out.size))
              have SB := Lib.hid (Nat.le_trans SB.out hb.size)
              have FR := Lib.hid (fr_later FR.out hb)
              have XR := Lib.hid (XR.out.later hb)
              generalize V1.drew = wd at P Z N E OW B SB FR XR ⊢
              clear hb
              have hHeld : (fun V : World => V.cell? ⟨Hb, 0, none⟩ = some (.slice A9 i c9) ∧ V.cell? ⟨wr.heap.size, 0, none⟩ = some (.int .i64 x.places) ∧ V.cell? ⟨wr.heap.size, 1, none⟩ = some (.slice A1 x.tasks.length c1)) wd := ⟨N.out.cell 0, E.out.cell 0, E.out.cell 1⟩
              refine wpAnyD_take (i := 0) (v := ?_) rfl (by kernel_rfl) (by kernel_rfl) (by kernel_rfl) (by kernel_rfl) (by kernel_rfl) (by kernel_rfl) (fun _ _ _ h => h) (Or.inl ⟨by rfl, ?_⟩) (by assumption) ?_
              rotate_left
              · intro V hSw
                (try dsimp only at hSw)
                go_simp
                (try with_reducible rfl)
              simp only [List.getElem_toArray, List.getElem_cons_succ, List.getElem_cons_zero, Act.put, List.setIfInBounds_toArray, List.set_cons_zero, List.set_cons_succ]
              refine wpAnyD_take (i := 1) (v := ?_) rfl (by kernel_rfl) (by kernel_rfl) (by kernel_rfl) (by kernel_rfl) (by kernel_rfl) (by kernel_rfl) (fun _ _ _ h => h) (Or.inl ⟨by rfl, ?_⟩) (by assumption) ?_
              rotate_left
              · intro V hSw
                (try dsimp only at hSw)
                go_simp
                (try with_reducible rfl)
              simp only [List.getElem_toArray, List.getElem_cons_succ, List.getElem_cons_zero, Act.put, List.setIfInBounds_toArray, List.set_cons_zero, List.set_cons_succ]
              refine wpAnyD_take (i := 2) (v := ?_) rfl (by kernel_rfl) (by kernel_rfl) (by kernel_rfl) (by kernel_rfl) (by kernel_rfl) (by kernel_rfl) (fun _ _ _ h => h) (Or.inl ⟨by rfl, ?_⟩) (by assumption) ?_
              rotate_left
              · intro V hSw
                (try dsimp only at hSw)
                go_simp
                (try with_reducible rfl)
              simp only [List.getElem_toArray, List.getElem_cons_succ, List.getElem_cons_zero, Act.put, List.setIfInBounds_toArray, List.set_cons_zero, List.set_cons_succ]
              clear hHeld
              refine wpAnyD_ready (rs := [3]) (by kernel_rfl) (by simp) ?_
              refine AllReadyD.cons rfl (fun K hK => ?_) AllReadyD.nil
              go_simp
              go_wp2_with (go_at_call 206; refine (impl_cloneNet x A1 c1 m wd XR.out HX.out.1 HX.out.2).mono ?_; rintro e w11 ⟨cs, rfl, ⟨A6, c6, rfl, hr6⟩, hb⟩)
              have R6 := Lib.hid (hr6.weak (Weaker.some SB.out))
              have P := Lib.hid (P.out.later hb)
              have Z := Lib.hid (Z.out.later hb)
              have N := Lib.hid (N.out.later hb)
              have E := Lib.hid (E.out.later hb)
              have OW := Lib.hid (OW.out.later hb)
              have B := Lib.hid (B.out.trans (hb.mono B.out.size))
              have SB := Lib.hid (Nat.le_trans SB.out hb.size)
              have FR := Lib.hid (fr_later FR.out hb)
              clear hb hr6 XR
              have hHeld : (fun V : World => V.cell? ⟨Hb, 0, none⟩ = some (.slice A9 i c9) ∧ V.cell? ⟨wr.heap.size, 0, none⟩ = some (.int .i64 x.places) ∧ V.cell? ⟨wr.heap.size, 1, none⟩ = some (.slice A1 x.tasks.length c1)) w11 := ⟨N.out.cell 0, E.out.cell 0, E.out.cell 1⟩
              refine hK.out _ _ (fun _ => hHeld) ?_
              clear hK K hHeld
              refine wpAnyD_ready (rs := [4]) (by kernel_rfl) (by simp) ?_
              refine AllReadyD.cons rfl (fun K hK => ?_) AllReadyD.nil
              go_simp
              obtain ⟨w12, hV⟩ : ∃ V, V = World.alloc w11 (.cells #[.int .i64 x.places, .slice A6 x.tasks.length c6] 37) := ⟨_, rfl⟩
              have hb : Below w11.heap.size w11 w12 := by rw [hV]; exact (Below.refl _ _).alloc (Nat.le_refl _) _
              obtain ⟨gl, hgl⟩ : ∃ g, g = w11.heap.size := ⟨_, rfl⟩
              have LT : Hid (Bk w12 gl 37 #[.int .i64 x.places, .slice A6 x.tasks.length c6]) := by show Bk _ _ _ _; rw [hV, hgl]; exact Bk.new rfl
              rw [← hV, ← hgl]
              clear hV hgl
              have R6 := Lib.hid (R6.out.later hb)
              have P := Lib.hid (P.out.later hb)
              have Z := Lib.hid (Z.out.later hb)
              have N := Lib.hid (N.out.later hb)
              have E := Lib.hid (E.out.later hb)
              have OW := Lib.hid (OW.out.later hb)
              have B := Lib.hid (B.out.trans (hb.mono B.out.size))
              have SB := Lib.hid (Nat.le_trans SB.out hb.size)
              have FR := Lib.hid (fr_later FR.out hb)
              clear hb
              have hHeld : (fun V : World => V.cell? ⟨Hb, 0, none⟩ = some (.slice A9 i c9) ∧ V.cell? ⟨wr.heap.size, 0, none⟩ = some (.int .i64 x.places) ∧ V.cell? ⟨wr.heap.size, 1, none⟩ = some (.slice A1 x.tasks.length c1)) w12 := ⟨N.out.cell 0, E.out.cell 0, E.out.cell 1⟩
              refine hK.out _ _ (fun _ => hHeld) ?_
              clear hK K hHeld
              refine wpAnyD_ready (rs := [5]) (by kernel_rfl) (by simp) ?_
              refine AllReadyD.cons rfl (fun K hK => ?_) AllReadyD.nil
              refine step_C6 rfl (.tmp 23) (.tmp 26) 96 rfl netC 37 _ 32 Try.underlying96 info_Net rfl (by decide) (by decide) w8.heap.size _ (ns.take i) rfl OW.out x _ wr.heap.size w12.heap.size ⟨A6, c6, rfl, R6.out⟩ (by omega) (Nat.le_refl _) (fun g hg => .inl (HLO.out g hg).2) gl rfl (fun j u hu => by rw [LT.out.cell]; simpa using hu) (by simp [Value.oneCell']) (Nat.le_trans (List.length_take_le _ _) (by omega)) (by have := SB.out; omega) ?_
              intro v7 w17 hown7 hg7 hb7 h57
              have O7 := Lib.hid hown7
              have P : Hid (Bk w17 w.heap.size 102 #[.slice (some ⟨b, off, none⟩) ns.length c, .slice AP ps.length cP, .slice none 0 0, .slice none 0 0]) := (hb7.block _ (by omega)).trans P.out
              have Z : Hid (Bk w17 (w.heap.size + 1) 102 #[.slice none 0 0, .slice none 0 0, .slice none 0 0, .slice none 0 0]) := (hb7.block _ (by omega)).trans Z.out
              have N : Hid (Bk w17 Hb 102 #[.slice A9 i c9, .slice D1 ps.length j1, .slice none 0 0, .slice none 0 0]) := (hb7.block _ (by omega)).trans N.out
              have yE2 := E.out.lt
              have E : Hid (Bk w17 wr.heap.size 37 #[.int .i64 x.places, .slice A1 x.tasks.length c1]) := (hg7.block _ yE2 (fun he => by have := HLO.out _ he.symm; omega)).trans E.out
              have B := Lib.hid (B.out.trans (hb7.mono (by omega)))
              have FR : Hid (Fr Hb w8 w17) := ⟨Nat.le_trans FR.out.1 hb7.size, fun q h1 h2 => (hb7.block q h1).trans (FR.out.2 q h1 h2)⟩
              obtain ⟨A7, c7, hv7, hz7⟩ := hown7.rows (by rw [HL8.out]; omega)
              have hv8 : v7 = .slice A7 (i + 1) c7 := hv7.trans (congrArg (fun n => Value.slice A7 n c7) HL8.out)
              clear hv7 hz7
              subst hv8
              clear hown7 hg7 hb7 h57 R6
              have hHeld : (fun V : World => V.cell? ⟨Hb, 0, none⟩ = some (.slice A9 i c9) ∧ V.cell? ⟨wr.heap.size, 0, none⟩ = some (.int .i64 x.places) ∧ V.cell? ⟨wr.heap.size, 1, none⟩ = some (.slice A1 x.tasks.length c1)) w17 := ⟨N.out.cell 0, E.out.cell 0, E.out.cell 1⟩
              refine hK.out _ _ (fun _ => hHeld) ?_
              clear hK K
              try simp only [List.getElem_toArray, List.getElem_cons_succ, List.getElem_cons_zero, Act.put, List.setIfInBounds_toArray, List.set_cons_zero, List.set_cons_succ]
              refine wpAnyD_take (i := 6) (v := ?_) rfl (by kernel_rfl) (by kernel_rfl) (by kernel_rfl) (by kernel_rfl) (by kernel_rfl) (by kernel_rfl) (fun _ _ _ h => h) (Or.inl ⟨by rfl, ?_⟩) (by assumption) ?_
              rotate_left
              · intro V hSw
                (try dsimp only at hSw)
                go_simp
                (try with_reducible rfl)
              simp only [List.getElem_toArray, List.getElem_cons_succ, List.getElem_cons_zero, Act.put, List.setIfInBounds_toArray, List.set_cons_zero, List.set_cons_succ]
              clear hHeld
              refine wpAnyD_ready (rs := [7]) (by kernel_rfl) (by simp) ?_
              refine AllReadyD.cons rfl (fun K hK => ?_) AllReadyD.nil
              have kN := fun i => N.out.cell i
              have fN := fun i => N.out.frozen i
              go_simp
              clear kN fN
              generalize hV : World.setCell w17 _ _ = w18
              have N8 : Hid (Bk w18 Hb 102 #[.slice A7 (i + 1) c7, .slice D1 ps.length j1, .slice none 0 0, .slice none 0 0]) := by show Bk _ _ _ _; rw [← hV]; exact N.out.set 0 _
              have hk : ∀ q, q ≠ Hb → w18.heap[q]? = w17.heap[q]? := fun q hq => by rw [← hV]; exact Below.heap_setCell _ ⟨Hb, 0, none⟩ _ q hq
              have hsz : w18.heap.size = w17.heap.size := by rw [← hV]; simp [World.setCell]
              have B : Hid (Below w.heap.size w w18) := by show Below _ _ _; rw [← hV]; exact B.out.setCell (p := ⟨Hb, 0, none⟩) (by show w.heap.size ≤ Hb; omega) _
              have P : Hid (Bk w18 w.heap.size 102 #[.slice (some ⟨b, off, none⟩) ns.length c, .slice AP ps.length cP, .slice none 0 0, .slice none 0 0]) := (hk _ (by omega)).trans P.out
              have Z : Hid (Bk w18 (w.heap.size + 1) 102 #[.slice none 0 0, .slice none 0 0, .slice none 0 0, .slice none 0 0]) := (hk _ (by omega)).trans Z.out
              have O8 := Lib.hid (O7.out.kept (w' := w18) ⟨Nat.le_of_eq hsz.symm, fun q _ hq => hk q (by omega)⟩)
              have FR : Hid (Fr Hb w8 w18) := ⟨by rw [hsz]; exact FR.out.1, fun q h1 h2 => (hk q h2).trans (FR.out.2 q h1 h2)⟩
              clear hV hk hsz
              refine hK.out _ _ (fun h => Bool.noConfusion ((by kernel_rfl : _ = true).symm.trans h)) ?_
              clear hK K
              refine wpAnyD_done (by kernel_rfl) ?_ _
              go_wp2
              go_roundg (ns.length - (i + 1))
              case measure => exact Nat.lt_of_lt_of_le HMS.out HG.out
              case rel => exact ⟨i + 1, _, hlt, Nat.le_refl _, by go_num, P.out, Z.out, N8.out, B.out, FR.out, by show OwnC _ _ _ _ _ _; rw [HT.out]; exact O8.out⟩
            · have hltz : ¬ (i : Int) < (ns.length : Int) := by omega
              have he : i = ns.length := by omega
              subst he
              rw [List.take_length] at hv9 hrow9 OW
              subst hv9
              have HR9 := Lib.hid hrow9
              clear hrow9
              have kP := fun i => P.out.cell i
              go_wp2
              clear kP
              go_loopg [7, 33] 0 (fun gg _ s33 wt => s33 = .int .i64 0 ∧ Aside (wr = wt))
              case atStart => exact ⟨rfl, rfl⟩
              case round =>
                obtain ⟨rfl, EW⟩ := hrel
                obtain rfl := EW.out
                have kN := fun j => N.out.cell j
                have kZ := fun j => Z.out.cell j
                have fZ := fun j => Z.out.frozen j
                go_wp2
                have hput := house_put Z.out (b0 := .slice A9 ns.length c9) (b1 := .slice D1 ps.length j1) (b2 := .slice none 0 0) (b3 := .slice none 0 0)
                generalize hV : World.setCell (World.setCell (World.setCell (World.setCell wr _ _) _ _) _ _) _ _ = V at hput ⊢
                have ZV := hput.bk
                have tV : Below w.heap.size w V := hput.below B.out (by omega)
                have hbl := hput.block
                have hsz := hput.size
                clear hV kN kZ fZ hput
                have k1 := fun j => ZV.cell j
                refine bodyPost_ret (v := .agg #[.slice A9 ns.length c9, .slice D1 ps.length j1, .slice none 0 0, .slice none 0 0]) (by simp [results, Try.results155, go_sem, k1]) rfl ?_
                exact ⟨A9, c9, D1, j1, rfl, ((HR9.out.keep fun q _ hq => hbl q (by have := hq _ rfl; omega)).more (by omega)).weak (Weaker.some (by omega)), PK.out V (by omega) (fun q h1 h2 h3 => (hbl q h3).trans (FR.out.2 q h1 h2)), tV⟩
  · go_simp
    obtain ⟨wa, hV⟩ : ∃ V, V = World.alloc w0 (.cells #[.slice none 0 0, .slice none 0 0, .slice none 0 0, .slice none 0 0] 102) := ⟨_, rfl⟩
    have hb : Below w0.heap.size w0 wa := by rw [hV]; exact (Below.refl _ _).alloc (Nat.le_refl _) _
    obtain ⟨Hb, hHb⟩ : ∃ g, g = w0.heap.size := ⟨_, rfl⟩
    have P := Lib.hid (P.out.later hb)
    have Z := Lib.hid (Z.out.later hb)
    have B := Lib.hid (B.out.trans (hb.mono B.out.size))
    have HB : Hid (Bk wa Hb 102 #[.slice none 0 0, .slice none 0 0, .slice none 0 0, .slice none 0 0]) := by show Bk _ _ _ _; rw [hV, hHb]; exact Bk.new rfl
    rw [← hV, ← hHb]
    have yH : w.heap.size + 2 ≤ Hb := by have h9 := hHb; omega
    clear hV hHb hb
    have hHeld : (fun V : World => V.cell? ⟨w.heap.size, 1, none⟩ = some (.slice AP ps.length cP) ∧ V.cell? ⟨w.heap.size, 2, none⟩ = some (.slice none 0 0)) wa := ⟨P.out.cell 1, P.out.cell 2⟩
    refine hK.out _ _ (fun _ => hHeld) ?_
    clear hK K hHeld
    refine wpAnyD_ready (rs := [2]) (by kernel_rfl) (by simp) ?_
    refine AllReadyD.cons rfl (fun K hK => ?_) AllReadyD.nil
    · go_simp
      go_wp2_with (go_at_call 122; refine (impl_cloneInts AP cP ps wa (HP.out.later B.out) (by omega)).mono ?_; rintro e w1 ⟨v1, rfl, hown, hb⟩; obtain ⟨D1, j1, rfl, hr1⟩ := hown.rows (by omega))
      obtain ⟨lo1, hlo1⟩ : ∃ g, g = wa.heap.size := ⟨_, rfl⟩
      have z1 := hb.size
      have yB := HB.out.lt
      have SEP : Hid (Hb < lo1 ∨ w1.heap.size ≤ Hb) := by left; omega
      have P := Lib.hid (P.out.later hb)
      have Z := Lib.hid (Z.out.later hb)
      have HB := Lib.hid (HB.out.later hb)
      have B := Lib.hid (B.out.trans (hb.mono B.out.size))
      have BC : Hid (Below w1.heap.size w1 w1) := Below.refl _ _
      rw [← hlo1] at hr1
      have R1 := Lib.hid hr1
      have yL : w.heap.size + 2 ≤ lo1 := by omega
      clear hown hr1 hb
      have hHeld : (fun V : World => V.cell? ⟨w.heap.size, 1, none⟩ = some (.slice AP ps.length cP) ∧ V.cell? ⟨w.heap.size, 2, none⟩ = some (.slice none 0 0)) w1 := ⟨P.out.cell 1, P.out.cell 2⟩
      refine hK.out _ _ (fun _ => hHeld) ?_
      clear hK K hHeld
      refine wpAnyD_ready (rs := [5]) (by kernel_rfl) (by simp) ?_
      refine AllReadyD.cons rfl (fun K hK => ?_) AllReadyD.nil
      · go_simp
        go_wp2_with (go_at_call 178; refine (impl_cloneRules0 w1).mono ?_; rintro e w2 ⟨rfl, hb⟩)
        have z2 := hb.size
        have P := Lib.hid (P.out.later hb)
        have Z := Lib.hid (Z.out.later hb)
        have HB := Lib.hid (HB.out.later hb)
        have B := Lib.hid (B.out.trans (hb.mono B.out.size))
        have BC := Lib.hid (BC.out.trans (hb.mono BC.out.size))
        clear hb
        have hHeld : (fun V : World => V.cell? ⟨w.heap.size, 1, none⟩ = some (.slice AP ps.length cP) ∧ V.cell? ⟨w.heap.size, 2, none⟩ = some (.slice none 0 0)) w2 := ⟨P.out.cell 1, P.out.cell 2⟩
        refine hK.out _ _ (fun _ => hHeld) ?_
        clear hK K
        refine wpAnyD_take (i := 6) (v := ?_) rfl (by kernel_rfl) (by kernel_rfl) (by kernel_rfl) (by kernel_rfl) (by kernel_rfl) (by kernel_rfl) (fun _ _ _ h => h) (Or.inl ⟨by rfl, ?_⟩) (by assumption) ?_
        rotate_left
        · intro V hSw
          (try dsimp only at hSw)
          go_simp
          (try with_reducible rfl)
        simp only [List.getElem_toArray, List.getElem_cons_succ, List.getElem_cons_zero, Act.put, List.setIfInBounds_toArray, List.set_cons_zero, List.set_cons_succ]
        clear hHeld
        refine wpAnyD_ready (rs := [8]) (by kernel_rfl) (by simp) ?_
        refine AllReadyD.cons rfl (fun K hK => ?_) AllReadyD.nil
        · have kH := fun i => HB.out.cell i
          have fH := fun i => HB.out.frozen i
          go_simp
          clear kH fH
          have hput := house_put HB.out (b0 := .slice none 0 0) (b1 := .slice D1 ps.length j1) (b2 := .slice none 0 0) (b3 := .slice none 0 0)
          generalize hV : World.setCell (World.setCell (World.setCell (World.setCell w2 _ _) _ _) _ _) _ _ = w8 at hput ⊢
          have N := Lib.hid hput.bk
          have hbl := hput.block
          have hsz := hput.size
          have zH := HB.out.lt
          have P := Lib.hid ((hbl _ (by omega)).trans P.out : Bk w8 w.heap.size 102 #[.slice A ns.length c, .slice AP ps.length cP, .slice none 0 0, .slice none 0 0])
          have Z : Hid (Bk w8 (w.heap.size + 1) 102 #[.slice none 0 0, .slice none 0 0, .slice none 0 0, .slice none 0 0]) := (hbl _ (by omega)).trans Z.out
          have P : Hid (Bk w8 w.heap.size 102 #[.slice A ns.length c, .slice AP ps.length cP, .slice none 0 0, .slice none 0 0]) := P.out
          have B : Hid (Below w.heap.size w w8) := hput.below B.out (by omega)
          have PK : Hid (∀ V : World, w8.heap.size ≤ V.heap.size → (∀ q, q < w8.heap.size → q ≠ Hb → q ≠ w.heap.size + 1 → V.heap[q]? = w8.heap[q]?) → Rows intC (some w.heap.size) V V.heap.size D1 ps) := by
            intro V hs hq
            have hz := BC.out.size
            exact ((R1.out.keep fun q h1 h2 => by
              have h3 := h2 _ rfl
              have h4 := SEP.out
              exact (hq q (by omega) (by omega) (by omega)).trans ((hbl q (by omega)).trans (BC.out.block q h1))).more (by omega)).weak (Weaker.some (by omega))
          have zN : Hb < w8.heap.size := by omega
          clear hV hbl hput R1 BC SEP HB
          refine hK.out _ _ (fun h => Bool.noConfusion ((by kernel_rfl : _ = true).symm.trans h)) ?_
          clear hK K
          refine wpAnyD_done (by kernel_rfl) ?_ _
          have kP := fun i => P.out.cell i
          go_wp2
          clear kP
          go_loopg [5, 18] ns.length (fun gg _ s18 wr => ∃ (i : Nat) (v : Value), i ≤ ns.length ∧ ns.length - i ≤ gg ∧ s18 = .int .i64 i ∧ Aside (Bk wr w.heap.size 102 #[.slice A ns.length c, .slice AP ps.length cP, .slice none 0 0, .slice none 0 0]) ∧ Aside (Bk wr (w.heap.size + 1) 102 #[.slice none 0 0, .slice none 0 0, .slice none 0 0, .slice none 0 0]) ∧ Aside (Bk wr Hb 102 #[v, .slice D1 ps.length j1, .slice none 0 0, .slice none 0 0]) ∧ Aside (Below w.heap.size w wr) ∧ Aside (Fr Hb w8 wr) ∧ Aside (OwnC netC 37 wr w8.heap.size v (ns.take i)))
          case atStart => exact ⟨0, _, Nat.zero_le _, by omega, rfl, P.out, Z.out, N.out, B.out, ⟨Nat.le_refl _, fun _ _ _ => rfl⟩, OwnC.nil _ _⟩
          case round =>
            obtain ⟨i, v, hi, hg, rfl, Pa, Za, Na, Ba, Fa, OWa⟩ := hrel
            have P := Lib.hid Pa.out
            have Z := Lib.hid Za.out
            have N := Lib.hid Na.out
            have B := Lib.hid Ba.out
            have FR := Lib.hid Fa.out
            have OW := Lib.hid OWa.out
            clear Pa Za Na Ba Fa OWa
            have zB := B.out.size
            have zF := FR.out.1
            obtain ⟨A9, c9, hv9, hrow9⟩ := OW.out.rows (by simp; omega)
            by_cases hlt : i < ns.length
            · have hltz : (i : Int) < (ns.length : Int) := by omega
              have hv : v = .slice A9 i c9 := by rw [hv9, List.length_take, Nat.min_eq_left (by omega)]
              clear hrow9 hv9
              subst hv
              obtain ⟨b, off, A1, c1, rfl, hbl, hr, t0, t1⟩ := net_at (H0.out.later B.out) hlt
              have HT : Hid (ns.take (i + 1) = ns.take i ++ [ns[i]]) := List.take_succ_eq_append_getElem hlt
              have HL8 : Hid ((ns.take i ++ [ns[i]]).length = i + 1) := by show _ = _; rw [List.length_append, List.length_take, Nat.min_eq_left (by omega)]; rfl
              have HX := Lib.hid (HFEW.out _ (List.getElem_mem hlt))
              generalize ns[i] = x at hr t0 t1 HT HL8 HX
              have XR := Lib.hid hr
              have HMS : Hid (ns.length - (i + 1) < ns.length - i) := by show _ < _; omega
              have HG := Lib.hid hg
              have HLO : Hid (∀ g, (Value.slice A9 i c9).ownBlock = some g → w8.heap.size ≤ g ∧ g < wr.heap.size) := fun g hg => OW.out.lt g hg
              clear hr
              go_upto_region 5 with fail
              generalize hV : World.alloc wr _ = V1
              have E : Hid (Bk V1 wr.heap.size 37 #[.int .i64 x.places, .slice A1 x.tasks.length c1]) := by show Bk _ _ _ _; rw [← hV]; exact Bk.new rfl
              have hb : Below wr.heap.size wr V1 := by rw [← hV]; exact (Below.refl _ _).alloc (Nat.le_refl _) _
              have SB : Hid (wr.heap.size ≤ wr.heap.size) := Nat.le_refl _
              have P := Lib.hid (P.out.later hb)
              have Z := Lib.hid (Z.out.later hb)
              have N := Lib.hid (N.out.later hb)
              have OW := Lib.hid (OW.out.later hb)
              have B := Lib.hid (B.out.trans (hb.mono B.out.size))
              have SB := Lib.hid (Nat.le_trans SB.out hb.size)
              have FR := Lib.hid (fr_later FR.out hb)
              have XR := Lib.hid (XR.out.later hb)
              clear hV hb t0 t1 hbl
              refine wp_region_heldD (d := 7) (S := (fun V : World => V.cell? ⟨Hb, 0, none⟩ = some (.slice A9 i c9) ∧ V.cell? ⟨wr.heap.size, 0, none⟩ = some (.int .i64 x.places) ∧ V.cell? ⟨wr.heap.size, 1, none⟩ = some (.slice A1 x.tasks.length c1))) (by kernel_rfl) ?_
              have hb : Below V1.heap.size V1 V1.drew := (Below.refl _ _).drew
              have P := Lib.hid (P.out.later hb)
              have Z := Lib.hid (Z.out.later hb)
              have N := Lib.hid (N.out.later hb)
              have E := Lib.hid (E.out.later hb)
              have OW := Lib.hid (OW.out.later hb)
              have B := Lib.hid (B.out.trans (hb.mono B.out.size))
              have SB := Lib.hid (Nat.le_trans SB.out hb.size)
              have FR := Lib.hid (fr_later FR.out hb)
              have XR := Lib.hid (XR.out.later hb)
              generalize V1.drew = wd at P Z N E OW B SB FR XR ⊢
              clear hb
              have hHeld : (fun V : World => V.cell? ⟨Hb, 0, none⟩ = some (.slice A9 i c9) ∧ V.cell? ⟨wr.heap.size, 0, none⟩ = some (.int .i64 x.places) ∧ V.cell? ⟨wr.heap.size, 1, none⟩ = some (.slice A1 x.tasks.length c1)) wd := ⟨N.out.cell 0, E.out.cell 0, E.out.cell 1⟩
              refine wpAnyD_take (i := 0) (v := ?_) rfl (by kernel_rfl) (by kernel_rfl) (by kernel_rfl) (by kernel_rfl) (by kernel_rfl) (by kernel_rfl) (fun _ _ _ h => h) (Or.inl ⟨by rfl, ?_⟩) (by assumption) ?_
              rotate_left
              · intro V hSw
                (try dsimp only at hSw)
                go_simp
                (try with_reducible rfl)
              simp only [List.getElem_toArray, List.getElem_cons_succ, List.getElem_cons_zero, Act.put, List.setIfInBounds_toArray, List.set_cons_zero, List.set_cons_succ]
              refine wpAnyD_take (i := 1) (v := ?_) rfl (by kernel_rfl) (by kernel_rfl) (by kernel_rfl) (by kernel_rfl) (by kernel_rfl) (by kernel_rfl) (fun _ _ _ h => h) (Or.inl ⟨by rfl, ?_⟩) (by assumption) ?_
              rotate_left
              · intro V hSw
                (try dsimp only at hSw)
                go_simp
                (try with_reducible rfl)
              simp only [List.getElem_toArray, List.getElem_cons_succ, List.getElem_cons_zero, Act.put, List.setIfInBounds_toArray, List.set_cons_zero, List.set_cons_succ]
              refine wpAnyD_take (i := 2) (v := ?_) rfl (by kernel_rfl) (by kernel_rfl) (by kernel_rfl) (by kernel_rfl) (by kernel_rfl) (by kernel_rfl) (fun _ _ _ h => h) (Or.inl ⟨by rfl, ?_⟩) (by assumption) ?_
              rotate_left
              · intro V hSw
                (try dsimp only at hSw)
                go_simp
                (try with_reducible rfl)
              simp only [List.getElem_toArray, List.getElem_cons_succ, List.getElem_cons_zero, Act.put, List.setIfInBounds_toArray, List.set_cons_zero, List.set_cons_succ]
              clear hHeld
              refine wpAnyD_ready (rs := [3]) (by kernel_rfl) (by simp) ?_
              refine AllReadyD.cons rfl (fun K hK => ?_) AllReadyD.nil
              go_simp
              go_wp2_with (go_at_call 206; refine (impl_cloneNet x A1 c1 m wd XR.out HX.out.1 HX.out.2).mono ?_; rintro e w11 ⟨cs, rfl, ⟨A6, c6, rfl, hr6⟩, hb⟩)
              have R6 := Lib.hid (hr6.weak (Weaker.some SB.out))
              have P := Lib.hid (P.out.later hb)
              have Z := Lib.hid (Z.out.later hb)
              have N := Lib.hid (N.out.later hb)
              have E := Lib.hid (E.out.later hb)
              have OW := Lib.hid (OW.out.later hb)
              have B := Lib.hid (B.out.trans (hb.mono B.out.size))
              have SB := Lib.hid (Nat.le_trans SB.out hb.size)
              have FR := Lib.hid (fr_later FR.out hb)
              clear hb hr6 XR
              have hHeld : (fun V : World => V.cell? ⟨Hb, 0, none⟩ = some (.slice A9 i c9) ∧ V.cell? ⟨wr.heap.size, 0, none⟩ = some (.int .i64 x.places) ∧ V.cell? ⟨wr.heap.size, 1, none⟩ = some (.slice A1 x.tasks.length c1)) w11 := ⟨N.out.cell 0, E.out.cell 0, E.out.cell 1⟩
              refine hK.out _ _ (fun _ => hHeld) ?_
              clear hK K hHeld
              refine wpAnyD_ready (rs := [4]) (by kernel_rfl) (by simp) ?_
              refine AllReadyD.cons rfl (fun K hK => ?_) AllReadyD.nil
              go_simp
              obtain ⟨w12, hV⟩ : ∃ V, V = World.alloc w11 (.cells #[.int .i64 x.places, .slice A6 x.tasks.length c6] 37) := ⟨_, rfl⟩
              have hb : Below w11.heap.size w11 w12 := by rw [hV]; exact (Below.refl _ _).alloc (Nat.le_refl _) _
              obtain ⟨gl, hgl⟩ : ∃ g, g = w11.heap.size := ⟨_, rfl⟩
              have LT : Hid (Bk w12 gl 37 #[.int .i64 x.places, .slice A6 x.tasks.length c6]) := by show Bk _ _ _ _; rw [hV, hgl]; exact Bk.new rfl
              rw [← hV, ← hgl]
              clear hV hgl
              have R6 := Lib.hid (R6.out.later hb)
              have P := Lib.hid (P.out.later hb)
              have Z := Lib.hid (Z.out.later hb)
              have N := Lib.hid (N.out.later hb)
              have E := Lib.hid (E.out.later hb)
              have OW := Lib.hid (OW.out.later hb)
              have B := Lib.hid (B.out.trans (hb.mono B.out.size))
              have SB := Lib.hid (Nat.le_trans SB.out hb.size)
              have FR := Lib.hid (fr_later FR.out hb)
              clear hb
              have hHeld : (fun V : World => V.cell? ⟨Hb, 0, none⟩ = some (.slice A9 i c9) ∧ V.cell? ⟨wr.heap.size, 0, none⟩ = some (.int .i64 x.places) ∧ V.cell? ⟨wr.heap.size, 1, none⟩ = some (.slice A1 x.tasks.length c1)) w12 := ⟨N.out.cell 0, E.out.cell 0, E.out.cell 1⟩
              refine hK.out _ _ (fun _ => hHeld) ?_
              clear hK K hHeld
              refine wpAnyD_ready (rs := [5]) (by kernel_rfl) (by simp) ?_
              refine AllReadyD.cons rfl (fun K hK => ?_) AllReadyD.nil
              refine step_C6 rfl (.tmp 23) (.tmp 26) 96 rfl netC 37 _ 32 Try.underlying96 info_Net rfl (by decide) (by decide) w8.heap.size _ (ns.take i) rfl OW.out x _ wr.heap.size w12.heap.size ⟨A6, c6, rfl, R6.out⟩ (by omega) (Nat.le_refl _) (fun g hg => .inl (HLO.out g hg).2) gl rfl (fun j u hu => by rw [LT.out.cell]; simpa using hu) (by simp [Value.oneCell']) (Nat.le_trans (List.length_take_le _ _) (by omega)) (by have := SB.out; omega) ?_
              intro v7 w17 hown7 hg7 hb7 h57
              have O7 := Lib.hid hown7
              have P : Hid (Bk w17 w.heap.size 102 #[.slice (some ⟨b, off, none⟩) ns.length c, .slice AP ps.length cP, .slice none 0 0, .slice none 0 0]) := (hb7.block _ (by omega)).trans P.out
              have Z : Hid (Bk w17 (w.heap.size + 1) 102 #[.slice none 0 0, .slice none 0 0, .slice none 0 0, .slice none 0 0]) := (hb7.block _ (by omega)).trans Z.out
              have N : Hid (Bk w17 Hb 102 #[.slice A9 i c9, .slice D1 ps.length j1, .slice none 0 0, .slice none 0 0]) := (hb7.block _ (by omega)).trans N.out
              have yE2 := E.out.lt
              have E : Hid (Bk w17 wr.heap.size 37 #[.int .i64 x.places, .slice A1 x.tasks.length c1]) := (hg7.block _ yE2 (fun he => by have := HLO.out _ he.symm; omega)).trans E.out
              have B := Lib.hid (B.out.trans (hb7.mono (by omega)))
              have FR : Hid (Fr Hb w8 w17) := ⟨Nat.le_trans FR.out.1 hb7.size, fun q h1 h2 => (hb7.block q h1).trans (FR.out.2 q h1 h2)⟩
              obtain ⟨A7, c7, hv7, hz7⟩ := hown7.rows (by rw [HL8.out]; omega)
              have hv8 : v7 = .slice A7 (i + 1) c7 := hv7.trans (congrArg (fun n => Value.slice A7 n c7) HL8.out)
              clear hv7 hz7
              subst hv8
              clear hown7 hg7 hb7 h57 R6
              have hHeld : (fun V : World => V.cell? ⟨Hb, 0, none⟩ = some (.slice A9 i c9) ∧ V.cell? ⟨wr.heap.size, 0, none⟩ = some (.int .i64 x.places) ∧ V.cell? ⟨wr.heap.size, 1, none⟩ = some (.slice A1 x.tasks.length c1)) w17 := ⟨N.out.cell 0, E.out.cell 0, E.out.cell 1⟩
              refine hK.out _ _ (fun _ => hHeld) ?_
              clear hK K
              try simp only [List.getElem_toArray, List.getElem_cons_succ, List.getElem_cons_zero, Act.put, List.setIfInBounds_toArray, List.set_cons_zero, List.set_cons_succ]
              refine wpAnyD_take (i := 6) (v := ?_) rfl (by kernel_rfl) (by kernel_rfl) (by kernel_rfl) (by kernel_rfl) (by kernel_rfl) (by kernel_rfl) (fun _ _ _ h => h) (Or.inl ⟨by rfl, ?_⟩) (by assumption) ?_
              rotate_left
              · intro V hSw
                (try dsimp only at hSw)
                go_simp
                (try with_reducible rfl)
              simp only [List.getElem_toArray, List.getElem_cons_succ, List.getElem_cons_zero, Act.put, List.setIfInBounds_toArray, List.set_cons_zero, List.set_cons_succ]
              clear hHeld
              refine wpAnyD_ready (rs := [7]) (by kernel_rfl) (by simp) ?_
              refine AllReadyD.cons rfl (fun K hK => ?_) AllReadyD.nil
              have kN := fun i => N.out.cell i
              have fN := fun i => N.out.frozen i
              go_simp
              clear kN fN
              generalize hV : World.setCell w17 _ _ = w18
              have N8 : Hid (Bk w18 Hb 102 #[.slice A7 (i + 1) c7, .slice D1 ps.length j1, .slice none 0 0, .slice none 0 0]) := by show Bk _ _ _ _; rw [← hV]; exact N.out.set 0 _
              have hk : ∀ q, q ≠ Hb → w18.heap[q]? = w17.heap[q]? := fun q hq => by rw [← hV]; exact Below.heap_setCell _ ⟨Hb, 0, none⟩ _ q hq
              have hsz : w18.heap.size = w17.heap.size := by rw [← hV]; simp [World.setCell]
              have B : Hid (Below w.heap.size w w18) := by show Below _ _ _; rw [← hV]; exact B.out.setCell (p := ⟨Hb, 0, none⟩) (by show w.heap.size ≤ Hb; omega) _
              have P : Hid (Bk w18 w.heap.size 102 #[.slice (some ⟨b, off, none⟩) ns.length c, .slice AP ps.length cP, .slice none 0 0, .slice none 0 0]) := (hk _ (by omega)).trans P.out
              have Z : Hid (Bk w18 (w.heap.size + 1) 102 #[.slice none 0 0, .slice none 0 0, .slice none 0 0, .slice none 0 0]) := (hk _ (by omega)).trans Z.out
              have O8 := Lib.hid (O7.out.kept (w' := w18) ⟨Nat.le_of_eq hsz.symm, fun q _ hq => hk q (by omega)⟩)
              have FR : Hid (Fr Hb w8 w18) := ⟨by rw [hsz]; exact FR.out.1, fun q h1 h2 => (hk q h2).trans (FR.out.2 q h1 h2)⟩
              clear hV hk hsz
              refine hK.out _ _ (fun h => Bool.noConfusion ((by kernel_rfl : _ = true).symm.trans h)) ?_
              clear hK K
              refine wpAnyD_done (by kernel_rfl) ?_ _
              go_wp2
              go_roundg (ns.length - (i + 1))
              case measure => exact Nat.lt_of_lt_of_le HMS.out HG.out
              case rel => exact ⟨i + 1, _, hlt, Nat.le_refl _, by go_num, P.out, Z.out, N8.out, B.out, FR.out, by show OwnC _ _ _ _ _ _; rw [HT.out]; exact O8.out⟩
            · have hltz : ¬ (i : Int) < (ns.length : Int) := by omega
              have he : i = ns.length := by omega
              subst he
              rw [List.take_length] at hv9 hrow9 OW
              subst hv9
              have HR9 := Lib.hid hrow9
              clear hrow9
              have kP := fun i => P.out.cell i
              go_wp2
              clear kP
              go_loopg [7, 33] 0 (fun gg _ s33 wt => s33 = .int .i64 0 ∧ Aside (wr = wt))
              case atStart => exact ⟨rfl, rfl⟩
              case round =>
                obtain ⟨rfl, EW⟩ := hrel
                obtain rfl := EW.out
                have kN := fun j => N.out.cell j
                have kZ := fun j => Z.out.cell j
                have fZ := fun j => Z.out.frozen j
                go_wp2
                have hput := house_put Z.out (b0 := .slice A9 ns.length c9) (b1 := .slice D1 ps.length j1) (b2 := .slice none 0 0) (b3 := .slice none 0 0)
                generalize hV : World.setCell (World.setCell (World.setCell (World.setCell wr _ _) _ _) _ _) _ _ = V at hput ⊢
                have ZV := hput.bk
                have tV : Below w.heap.size w V := hput.below B.out (by omega)
                have hbl := hput.block
                have hsz := hput.size
                clear hV kN kZ fZ hput
                have k1 := fun j => ZV.cell j
                refine bodyPost_ret (v := .agg #[.slice A9 ns.length c9, .slice D1 ps.length j1, .slice none 0 0, .slice none 0 0]) (by simp [results, Try.results155, go_sem, k1]) rfl ?_
                exact ⟨A9, c9, D1, j1, rfl, ((HR9.out.keep fun q _ hq => hbl q (by have := hq _ rfl; omega)).more (by omega)).weak (Weaker.some (by omega)), PK.out V (by omega) (fun q h1 h2 h3 => (hbl q h3).trans (FR.out.2 q h1 h2)), tV⟩
end Go.Proofs.Ytkkjljpokannkaa
