/- A net, people, what was done, who is busy and a task drawn: DrawPplMay. -/
import Derived.Test.YtkkjljpokannkaaBusyC
import Derived.Test.YtkkjljpokannkaaDrawSnd
import Derived.Test.YtkkjljpokannkaaDrawPeople
import Derived.Test.YtkkjljpokannkaaDid20
import Derived.Deep.RegionHeld3
namespace Go.Proofs.Ytkkjljpokannkaa
open Go.RowKit
set_option linter.unusedSimpArgs false
set_option linter.unusedVariables false

theorem rows_turned8 {α : Type} {C : Cod α} {lo R : Nat} {w w' : World} {A : Option Addr} {xs : List α} (h : Rows C (some lo) w w.heap.size A xs) (ht : Turned R w w') (hR : R < lo) : Rows C (some lo) w' w'.heap.size A xs :=
  (h.keep fun b hb hl => ht.block b hb (by have := hl _ rfl; omega)).more ht.size

/-- What drawing for PplMay leaves, seen from outside. -/
def DrawnPM (w : World) (e : Ending) (w' : World) : Prop :=
  ∃ (x : GNet) (g c : Nat) (A1 : Option Addr) (c1 : Nat) (ps : List Int) (A2 : Option Addr) (c2 : Nat) (ds : List GDid) (A3 : Option Addr) (c3 : Nat) (bs : List GItem) (t : Int),
    e = .returned (.tuple #[.agg #[.int .i64 x.places, .slice (some ⟨g, 0, none⟩) x.tasks.length c], .slice A1 ps.length c1, .slice A2 ds.length c2, .slice A3 bs.length c3, .int .i64 t]) ∧
    Rows taskC none w' w'.heap.size (some ⟨g, 0, none⟩) x.tasks ∧ anyOk x ∧ Ints w' w'.heap.size A1 ps ∧ ps.length ≤ 5 ∧ Rows didC none w' w'.heap.size A2 ds ∧ ds.length ≤ 4 ∧ Rows itemC none w' w'.heap.size A3 bs ∧ bs.length ≤ 3 ∧ -1 ≤ t ∧ t ≤ 7 ∧ Below w.heap.size w w'

set_option maxRecDepth 100000 in
set_option maxHeartbeats 4000000 in
theorem spec_DrawPplMay (HBL : BusyLaw) (A : Option Addr) (c : Nat) (xs : List Int) (w : World) (h : Code w w.heap.size A c xs) :
    Calls Try.prog 49 #[.slice A xs.length c] w (DrawnPM w) := by
  have HC := Lib.hid h
  have HBLH := Lib.hid HBL
  clear h HBL
  go_enter Try.func49, Try.ntmps49
  go_wp2_with fail
  refine callsAt fun W hW => ?_
  have bN : Bk W w.heap.size 37 #[.int .i64 0, .slice none 0 0] := by rw [hW]; exact Bk.new rfl
  have hB : Below w.heap.size w W := by rw [hW]; exact (Below.refl _ _).alloc (Nat.le_refl _) _
  have hWs : w.heap.size < W.heap.size := by rw [hW]; simp
  have HC1 : Hid (Code W W.heap.size A c xs) := by show Code _ _ _ _ _; exact HC.out.later hB
  clear hW
  refine (l20Open A c xs W HC1.out).mono ?_
  rintro e w1 ⟨rfl, hr1, hb1⟩
  have N := Lib.hid (bN.later hb1)
  have B := Lib.hid (hB.trans (hb1.mono hB.size))
  have R := Lib.hid hr1
  have hRl := hr1.lt
  clear hr1 hb1 bN hB
  go_wp2_with fail
  refine (l20AnyNet _ _ 20 _ R.out (by omega) (by omega)).mono ?_
  rintro e w2 ⟨x, g, c2, rfl, hng, hok, hr2, ht2⟩
  have N := Lib.hid (N.out.turned ht2 (by omega))
  have B := Lib.hid (turned_below B.out ht2 (by omega) (Nat.le_refl _))
  have G := Lib.hid (hng.low (by omega : W.heap.size + 1 ≤ w1.heap.size))
  have HOK := Lib.hid hok
  have R := Lib.hid hr2
  obtain ⟨hx1, hx6, hx0, hx9, hsm⟩ := hok
  have HNEED : Hid (∀ t ∈ x.tasks, t.need ≤ 100) := fun t ht => (hsm t ht).2.2.2
  clear hsm
  have hgl := hng.1
  have hl2 := ht2.size
  have hRl2 := hr2.lt
  clear hng hr2 ht2
  go_upto_region 3 with fail
  generalize hV : World.alloc w2 _ = w3
  have E : Hid (Bk w3 w2.heap.size 37 #[.int .i64 x.places, .slice (some ⟨g, 0, none⟩) x.tasks.length c2]) := by show Bk _ _ _ _; rw [← hV]; exact Bk.new rfl
  have hb : Below w2.heap.size w2 w3 := by rw [← hV]; exact (Below.refl _ _).alloc (Nat.le_refl _) _
  have N := Lib.hid (N.out.later hb)
  have B := Lib.hid (B.out.trans (hb.mono B.out.size))
  have G := Lib.hid (G.out.later hb)
  have R := Lib.hid (R.out.low hb hRl2)
  have z3 := hb.size
  have y3 := E.out.lt
  clear hV hb
  have hdr := (Below.refl w3.heap.size w3).drew
  refine wp_region_held_drew (S := (fun V : World => V.cell? ⟨w2.heap.size, 0, none⟩ = some (.int .i64 x.places) ∧ V.cell? ⟨w2.heap.size, 1, none⟩ = some (.slice (some ⟨g, 0, none⟩) x.tasks.length c2))) (by kernel_rfl) ⟨E.out.cell 0, E.out.cell 1⟩ (fun hHeld => ?_)
  generalize w3.drew = w4 at hdr hHeld ⊢
  have E := Lib.hid (E.out.later hdr)
  have N := Lib.hid (N.out.later hdr)
  have B := Lib.hid (B.out.trans (hdr.mono B.out.size))
  have G := Lib.hid (G.out.later hdr)
  have R := Lib.hid (R.out.low hdr (by omega))
  have z4 := hdr.size
  clear hdr
  refine wpAnyH_take (i := 0) (v := ?_) rfl (by kernel_rfl) (by kernel_rfl) (by kernel_rfl) (fun _ _ _ h => h) (Or.inl ⟨by rfl, ?_⟩) (by assumption) ?_
  rotate_left
  · intro V hSw
    (try dsimp only at hSw)
    go_simp
    (try with_reducible rfl)
  simp only [List.getElem_toArray, List.getElem_cons_succ, List.getElem_cons_zero, Act.put, List.setIfInBounds_toArray, List.set_cons_zero, List.set_cons_succ]
  refine wpAnyH_take (i := 1) (v := ?_) rfl (by kernel_rfl) (by kernel_rfl) (by kernel_rfl) (fun _ _ _ h => h) (Or.inl ⟨by rfl, ?_⟩) (by assumption) ?_
  rotate_left
  · intro V hSw
    (try dsimp only at hSw)
    go_simp
    (try with_reducible rfl)
  simp only [List.getElem_toArray, List.getElem_cons_succ, List.getElem_cons_zero, Act.put, List.setIfInBounds_toArray, List.set_cons_zero, List.set_cons_succ]
  refine wpAnyH_take (i := 3) (v := ?_) rfl (by kernel_rfl) (by kernel_rfl) (by kernel_rfl) (fun _ _ _ h => h) (Or.inl ⟨by rfl, ?_⟩) (by assumption) ?_
  rotate_left
  · intro V hSw
    (try dsimp only at hSw)
    go_simp
    (try with_reducible rfl)
  simp only [List.getElem_toArray, List.getElem_cons_succ, List.getElem_cons_zero, Act.put, List.setIfInBounds_toArray, List.set_cons_zero, List.set_cons_succ]
  refine wpAnyH_take (i := 5) (v := ?_) rfl (by kernel_rfl) (by kernel_rfl) (by kernel_rfl) (fun _ _ _ h => h) (Or.inl ⟨by rfl, ?_⟩) (by assumption) ?_
  rotate_left
  · intro V hSw
    (try dsimp only at hSw)
    go_simp
    (try with_reducible rfl)
  simp only [List.getElem_toArray, List.getElem_cons_succ, List.getElem_cons_zero, Act.put, List.setIfInBounds_toArray, List.set_cons_zero, List.set_cons_succ]
  refine wpAnyH_take (i := 6) (v := ?_) rfl (by kernel_rfl) (by kernel_rfl) (by kernel_rfl) (fun _ _ _ h => h) (Or.inl ⟨by rfl, ?_⟩) (by assumption) ?_
  rotate_left
  · intro V hSw
    (try dsimp only at hSw)
    go_simp
    (try with_reducible rfl)
  simp only [List.getElem_toArray, List.getElem_cons_succ, List.getElem_cons_zero, Act.put, List.setIfInBounds_toArray, List.set_cons_zero, List.set_cons_succ]
  refine wpAnyH_take (i := 8) (v := ?_) rfl (by kernel_rfl) (by kernel_rfl) (by kernel_rfl) (fun _ _ _ h => h) (Or.inl ⟨by rfl, ?_⟩) (by assumption) ?_
  rotate_left
  · intro V hSw
    (try dsimp only at hSw)
    go_simp
    (try with_reducible rfl)
  simp only [List.getElem_toArray, List.getElem_cons_succ, List.getElem_cons_zero, Act.put, List.setIfInBounds_toArray, List.set_cons_zero, List.set_cons_succ]
  refine wpAnyH_take (i := 9) (v := ?_) rfl (by kernel_rfl) (by kernel_rfl) (by kernel_rfl) (fun _ _ _ h => h) (Or.inl ⟨by rfl, ?_⟩) (by assumption) ?_
  rotate_left
  · intro V hSw
    (try dsimp only at hSw)
    go_simp
    (try with_reducible rfl)
  simp only [List.getElem_toArray, List.getElem_cons_succ, List.getElem_cons_zero, Act.put, List.setIfInBounds_toArray, List.set_cons_zero, List.set_cons_succ]
  refine wpAnyH_take (i := 10) (v := ?_) rfl (by kernel_rfl) (by kernel_rfl) (by kernel_rfl) (fun _ _ _ h => h) (Or.inl ⟨by rfl, ?_⟩) (by assumption) ?_
  rotate_left
  · intro V hSw
    (try dsimp only at hSw)
    go_simp
    (try with_reducible rfl)
  simp only [List.getElem_toArray, List.getElem_cons_succ, List.getElem_cons_zero, Act.put, List.setIfInBounds_toArray, List.set_cons_zero, List.set_cons_succ]
  refine wpAnyH_take (i := 11) (v := ?_) rfl (by kernel_rfl) (by kernel_rfl) (by kernel_rfl) (fun _ _ _ h => h) (Or.inl ⟨by rfl, ?_⟩) (by assumption) ?_
  rotate_left
  · intro V hSw
    (try dsimp only at hSw)
    go_simp
    (try with_reducible rfl)
  simp only [List.getElem_toArray, List.getElem_cons_succ, List.getElem_cons_zero, Act.put, List.setIfInBounds_toArray, List.set_cons_zero, List.set_cons_succ]
  refine wpAnyH_take (i := 12) (v := ?_) rfl (by kernel_rfl) (by kernel_rfl) (by kernel_rfl) (fun _ _ _ h => h) (Or.inl ⟨by rfl, ?_⟩) (by assumption) ?_
  rotate_left
  · intro V hSw
    (try dsimp only at hSw)
    go_simp
    (try with_reducible rfl)
  simp only [List.getElem_toArray, List.getElem_cons_succ, List.getElem_cons_zero, Act.put, List.setIfInBounds_toArray, List.set_cons_zero, List.set_cons_succ]
  rw [show IntKind.i64.wrap ((x.tasks.length : Int) + 2) = (x.tasks.length : Int) + 2 from IntWalk.i64_in _ (by omega)]
  refine wpAnyH_ready (rs := [2]) (by kernel_rfl) (by simp) ?_
  refine AllReadyH.cons rfl (fun K hK => ?_) ?_
  rotate_left
  · exact AllReadyH.nil
  go_simp
  go_wp2_with (go_at_call 96; refine (l20People _ _ 20 _ R.out (by omega) (by omega)).mono ?_; rintro e w5 ⟨A1, c1, ps, rfl, hpl, _, hps, hr5, ht5⟩)
  have N := Lib.hid (N.out.turned ht5 (by omega))
  have E := Lib.hid (E.out.turned ht5 (by omega))
  have B := Lib.hid (turned_below B.out ht5 (by omega) (Nat.le_refl _))
  have G := Lib.hid (G.out.turned ht5 (by omega))
  have zw5 := ht5.size
  have R := Lib.hid hr5
  have PS := Lib.hid (hps.mono (by omega : W.heap.size + 1 ≤ w4.heap.size))
  clear hps hr5 ht5
  refine hK.out _ _ ⟨E.out.cell 0, E.out.cell 1⟩ (fun hHeld => ?_)
  clear hK K
  refine wpAnyH_ready (rs := [4]) (by kernel_rfl) (by simp) ?_
  refine AllReadyH.cons rfl (fun K hK => ?_) ?_
  rotate_left
  · exact AllReadyH.nil
  go_simp
  go_wp2_with (go_at_call 129; refine (l20Did _ _ _ R.out (by omega)).mono ?_; rintro e w6 ⟨A2, c2b, ds, rfl, hdl, hrow, hr6, ht6⟩)
  have N := Lib.hid (N.out.turned ht6 (by omega))
  have E := Lib.hid (E.out.turned ht6 (by omega))
  have B := Lib.hid (turned_below B.out ht6 (by omega) (Nat.le_refl _))
  have G := Lib.hid (G.out.turned ht6 (by omega))
  have zw6 := ht6.size
  have PS := Lib.hid (PS.out.turned ht6 (by omega))
  have R := Lib.hid hr6
  have DS := Lib.hid (hrow.weak (Weaker.some (by omega : W.heap.size + 1 ≤ w5.heap.size)))
  clear hrow hr6 ht6
  refine hK.out _ _ ⟨E.out.cell 0, E.out.cell 1⟩ (fun hHeld => ?_)
  clear hK K
  refine wpAnyH_ready (rs := [7]) (by kernel_rfl) (by simp) ?_
  refine AllReadyH.cons rfl (fun K hK => ?_) ?_
  rotate_left
  · exact AllReadyH.nil
  go_simp
  go_wp2_with (go_at_call 97; refine (HBLH.out W.heap.size _ x g c2 20 _ R.out (by omega) G.out (by omega) (by omega) HNEED.out (by omega)).mono ?_; rintro e w7 ⟨A3, c3, bs, rfl, hbl3, hrow, hr7, ht7⟩)
  have N := Lib.hid (N.out.turned ht7 (by omega))
  have E := Lib.hid (E.out.turned ht7 (by omega))
  have B := Lib.hid (turned_below B.out ht7 (by omega) (Nat.le_refl _))
  have G := Lib.hid (G.out.turned ht7 (by omega))
  have zw7 := ht7.size
  have DS := Lib.hid (rows_turned8 DS.out ht7 (by omega))
  have PS := Lib.hid (PS.out.turned ht7 (by omega))
  have R := Lib.hid hr7
  have BS := Lib.hid (hrow.weak (Weaker.some (by omega : W.heap.size + 1 ≤ w6.heap.size)))
  clear hrow hr7 ht7
  refine hK.out _ _ ⟨E.out.cell 0, E.out.cell 1⟩ (fun hHeld => ?_)
  clear hK K
  refine wpAnyH_ready (rs := [13]) (by kernel_rfl) (by simp) ?_
  refine AllReadyH.cons rfl (fun K hK => ?_) ?_
  rotate_left
  · exact AllReadyH.nil
  go_simp
  go_wp2_with (go_at_call 116; refine (l20Rd_pick W.heap.size _ ((x.tasks.length : Int) + 2) _ R.out (by omega) (by omega)).mono ?_; rintro e w8 ⟨v6, rfl, hv60, hv61, _, hr8, ht8⟩)
  have N := Lib.hid (N.out.turned ht8 (by omega))
  have E := Lib.hid (E.out.turned ht8 (by omega))
  have B := Lib.hid (turned_below B.out ht8 (by omega) (Nat.le_refl _))
  have G := Lib.hid (G.out.turned ht8 (by omega))
  have zw8 := ht8.size
  have DS := Lib.hid (rows_turned8 DS.out ht8 (by omega))
  have BS := Lib.hid (rows_turned8 BS.out ht8 (by omega))
  have PS := Lib.hid (PS.out.turned ht8 (by omega))
  have hv62 := hv61 (by omega)
  clear hr8 ht8 hv61 R
  refine hK.out _ _ ⟨E.out.cell 0, E.out.cell 1⟩ (fun hHeld => ?_)
  clear hK K
  refine wpAnyH_take (i := 14) (v := ?_) rfl (by kernel_rfl) (by kernel_rfl) (by kernel_rfl) (fun _ _ _ h => h) (Or.inl ⟨by rfl, ?_⟩) (by assumption) ?_
  rotate_left
  · intro V hSw
    (try dsimp only at hSw)
    go_simp
    (try with_reducible rfl)
  simp only [List.getElem_toArray, List.getElem_cons_succ, List.getElem_cons_zero, Act.put, List.setIfInBounds_toArray, List.set_cons_zero, List.set_cons_succ]
  rw [show IntKind.i64.wrap (v6 - 1) = v6 - 1 from IntWalk.i64_in _ (by omega)]
  have kN := fun i => N.out.cell i
  have fN := fun i => N.out.frozen i
  refine wpAnyH_ready (rs := [15]) (by kernel_rfl) (by simp) ?_
  refine AllReadyH.cons rfl (fun K hK => ?_) AllReadyH.nil
  go_simp
  generalize hV2 : (World.setCell (World.setCell w8 _ _) _ _) = V2
  have bV : Bk V2 w.heap.size 37 #[.int .i64 x.places, .slice (some ⟨g, 0, none⟩) x.tasks.length c2] := by rw [← hV2]; exact (N.out.set 0 _).set 1 _
  have hbl : ∀ b, w.heap.size + 1 ≤ b → V2.heap[b]? = w8.heap[b]? := fun b h1 => by
    rw [← hV2]
    exact (Below.heap_setCell _ ⟨w.heap.size, 1, none⟩ _ b (by show b ≠ w.heap.size; omega)).trans (Below.heap_setCell _ ⟨w.heap.size, 0, none⟩ _ b (by show b ≠ w.heap.size; omega))
  have hsz : V2.heap.size = w8.heap.size := by rw [← hV2]; simp [World.setCell]
  have eV : Bk V2 w2.heap.size 37 #[.int .i64 x.places, .slice (some ⟨g, 0, none⟩) x.tasks.length c2] := (hbl _ (by omega)).trans E.out
  have gV : NetG V2 (w.heap.size + 1) g x.tasks := (G.out.low (by omega : w.heap.size + 1 ≤ W.heap.size + 1)).kept (by omega) fun b h1 _ => hbl b h1
  have pV := PS.out.kept (w' := V2) ⟨by omega, fun b _ hl => hbl b (by omega)⟩
  have dV : Rows didC (some (W.heap.size + 1)) V2 V2.heap.size A2 ds := (DS.out.keep fun b _ hl => hbl b (by have := hl _ rfl; omega)).more (by omega)
  have sV : Rows itemC (some (W.heap.size + 1)) V2 V2.heap.size A3 bs := (BS.out.keep fun b _ hl => hbl b (by have := hl _ rfl; omega)).more (by omega)
  have tV : Below w.heap.size w V2 := by rw [← hV2]; exact (B.out.setCell (p := ⟨w.heap.size, 0, none⟩) (Nat.le_refl _) _).setCell (p := ⟨w.heap.size, 1, none⟩) (Nat.le_refl _) _
  clear hV2 kN fN
  refine hK.out _ _ ⟨eV.cell 0, eV.cell 1⟩ (fun hHeld => ?_)
  clear hK K
  refine wpAnyH_take (i := 16) (v := ?_) rfl (by kernel_rfl) (by kernel_rfl) (by kernel_rfl) (fun _ _ _ h => h) (Or.inl ⟨by rfl, ?_⟩) (by assumption) ?_
  rotate_left
  · intro V hSw
    (try dsimp only at hSw)
    go_simp
    (try with_reducible rfl)
  simp only [List.getElem_toArray, List.getElem_cons_succ, List.getElem_cons_zero, Act.put, List.setIfInBounds_toArray, List.set_cons_zero, List.set_cons_succ]
  refine wpAnyH_take (i := 17) (v := ?_) rfl (by kernel_rfl) (by kernel_rfl) (by kernel_rfl) (fun _ _ _ h => h) (Or.inl ⟨by rfl, ?_⟩) (by assumption) ?_
  rotate_left
  · intro V hSw
    (try dsimp only at hSw)
    go_simp
    (try with_reducible rfl)
  simp only [List.getElem_toArray, List.getElem_cons_succ, List.getElem_cons_zero, Act.put, List.setIfInBounds_toArray, List.set_cons_zero, List.set_cons_succ]
  refine wpAnyH_take (i := 18) (v := ?_) rfl (by kernel_rfl) (by kernel_rfl) (by kernel_rfl) (fun _ _ _ h => h) (Or.inl ⟨by rfl, ?_⟩) (by assumption) ?_
  rotate_left
  · intro V hSw
    (try dsimp only at hSw)
    go_simp
    (try with_reducible rfl)
  simp only [List.getElem_toArray, List.getElem_cons_succ, List.getElem_cons_zero, Act.put, List.setIfInBounds_toArray, List.set_cons_zero, List.set_cons_succ]
  refine wpAnyH_take (i := 19) (v := ?_) rfl (by kernel_rfl) (by kernel_rfl) (by kernel_rfl) (fun _ _ _ h => h) (Or.inl ⟨by rfl, ?_⟩) (by assumption) ?_
  rotate_left
  · intro V hSw
    (try dsimp only at hSw)
    go_simp
    (try with_reducible rfl)
  simp only [List.getElem_toArray, List.getElem_cons_succ, List.getElem_cons_zero, Act.put, List.setIfInBounds_toArray, List.set_cons_zero, List.set_cons_succ]
  refine wpAnyH_done (by kernel_rfl) ?_ _
  go_wp2
  have k1 := fun i => bV.cell i
  refine bodyPost_ret (v := .tuple #[.agg #[.int .i64 x.places, .slice (some ⟨g, 0, none⟩) x.tasks.length c2], .slice A1 ps.length c1, .slice A2 ds.length c2b, .slice A3 bs.length c3, .int .i64 (v6 - 1)]) (by simp [results, Try.results49, go_sem, k1]) rfl ?_
  exact ⟨x, g, c2, A1, c1, ps, A2, c2b, ds, A3, c3, bs, v6 - 1, rfl, (gV.rows (by omega)).weak (Weaker.none _), HOK.out, pV.ints (by omega), hpl, dV.weak (Weaker.none _), hdl, sV.weak (Weaker.none _), hbl3, by omega, by omega, tV⟩
end Go.Proofs.Ytkkjljpokannkaa
