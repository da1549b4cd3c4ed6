/- The walk of FnExactSplAll: it returns true. -/
import Derived.Test.YtkkjljpokannkaaWaysS
import Derived.Test.YtkkjljpokannkaaWaysB
import Derived.Test.YtkkjljpokannkaaManyEq
import Derived.Test.YtkkjljpokannkaaManyMark
import Derived.Test.YtkkjljpokannkaaMarkTask
import Derived.Test.YtkkjljpokannkaaSzNet
import Derived.Deep.RegionHeld3
namespace Go.Proofs.Ytkkjljpokannkaa
open Go.RowKit
set_option linter.unusedSimpArgs false
set_option linter.unusedVariables false

set_option maxRecDepth 100000 in
set_option maxHeartbeats 8000000 in
theorem walk_FnExactSplAll (v0 : Value) (x : GTask) (w : World) (h0 : ∃ cs : List Value, v0 = .agg cs.toArray ∧ taskC.R none w w.heap.size x cs) :
    Calls Try.prog 5 #[v0] w fun e w' => e = .returned (.bool true) ∧ Below w.heap.size w w' := by
  obtain ⟨cs0, rfl, A2, c2, A3, c3, A4, c4, rfl, hr2, hr3, hr4⟩ := h0
  have R2 := Lib.hid hr2
  have R3 := Lib.hid hr3
  have R4 := Lib.hid hr4
  have n2 := hr2.1
  have n3 := hr3.1
  have n4 := hr4.1
  have WL := Lib.hid (rows_le (ways_fit x).2)
  have WP := Lib.hid (rows_pos (ways_fit x).2)
  have W7 := Lib.hid (ways_fit x).1
  clear hr2 hr3 hr4
  go_enter Try.func5, Try.ntmps5
  go_wp2_with fail
  refine callsAt fun W hW => ?_
  have P0 : Hid (Bk W (w.heap.size) 45 #[.int .i64 x.join, .int .i64 x.split, .slice A2 x.inn.length c2, .slice A3 x.out.length c3, .slice A4 x.clear.length c4, .int .i64 x.role, .int .i64 x.apart, .int .i64 x.all, .int .i64 x.need]) := by show Bk _ _ _ _; rw [hW]; exact Bk.new rfl
  have B : Hid (Below w.heap.size w W) := by show Below _ _ _; rw [hW]; go_grown
  clear hW
  refine (laws_szNetTask x A2 A3 A4 c2 c3 c4 1048576 (by omega) (by omega) n2 n3 n4 _).mono ?_
  rintro e w1 ⟨l0, rfl, hl0, hu0, hf0, hb⟩
  have TF := Lib.hid hf0
  clear hf0
  have P0 := Lib.hid (P0.out.later hb)
  have B := Lib.hid (B.out.trans (hb.mono B.out.size))
  clear hb
  by_cases hneg : l0 < 0
  · have kP0 := fun i => P0.out.cell i
    go_wp2
    go_ret
    exact ⟨rfl, B.out⟩
  have TT := Lib.hid (TF.out (by omega))
  obtain ⟨f2, f3, f4⟩ := TF.out (by omega)
  clear TF
  have kP0 := fun i => P0.out.cell i
  go_wp2_with fail
  clear kP0
  refine (laws_toNetTask x A2 A3 A4 c2 c3 c4 none _ (R2.out.later B.out) (R3.out.later B.out) (R4.out.later B.out) f2 f3 f4).mono ?_
  rintro e w2 ⟨cs, rfl, ⟨_, _, _, _, _, _, rfl, h2, h3, h4⟩, hb⟩
  have Fa2 := Lib.hid h2
  have Fa3 := Lib.hid h3
  have Fa4 := Lib.hid h4
  clear h2 h3 h4
  have P0 := Lib.hid (P0.out.later hb)
  have B := Lib.hid (B.out.trans (hb.mono B.out.size))
  clear hb
  go_wp2_with fail
  refine (spec_SplAll x _ _ _ _ _ _ _ _ Fa3.out).mono ?_
  rintro e w3 hgv
  obtain ⟨AS, cS, bS, rfl, hs, _, hb⟩ := gives_ss hgv
  have GS := Lib.hid hs
  have P0 := Lib.hid (P0.out.later hb)
  have B := Lib.hid (B.out.trans (hb.mono B.out.size))
  have zw3 := P0.out.lt
  clear hgv hs hb Fa2 Fa3 Fa4
  have kP0 := fun i => P0.out.cell i
  go_wp2_with fail
  clear kP0
  refine (laws_toNetTask x A2 A3 A4 c2 c3 c4 none _ (R2.out.later B.out) (R3.out.later B.out) (R4.out.later B.out) f2 f3 f4).mono ?_
  rintro e w4 ⟨cs, rfl, ⟨B2, e2, B3, e3, B4, e4, rfl, h2, h3, h4⟩, hb⟩
  have Fx2 := Lib.hid h2
  have Fx3 := Lib.hid h3
  have Fx4 := Lib.hid h4
  clear h2 h3 h4
  have P0 := Lib.hid (P0.out.later hb)
  have B := Lib.hid (B.out.trans (hb.mono B.out.size))
  have hbt := hb
  clear hb
  have BS : Hid (Below w3.heap.size w3 w4) := hbt
  clear hbt
  have z3 := BS.out.size
  go_wp2_with fail
  refine callsAt fun W5 hW5 => ?_
  have hb : Below w4.heap.size w4 W5 := by rw [hW5]; exact (Below.refl _ _).alloc (Nat.le_refl _) _
  have X0 : Hid (Bk W5 w4.heap.size 42 #[.int .i64 x.join, .int .i64 x.split, .slice B2 x.inn.length e2, .slice B3 x.out.length e3, .slice B4 x.clear.length e4, .int .i64 x.role, .int .i64 x.apart, .int .i64 x.all, .int .i64 x.need]) := by show Bk _ _ _ _; rw [hW5]; exact Bk.new rfl
  have P0 := Lib.hid (P0.out.later hb)
  have B := Lib.hid (B.out.trans (hb.mono B.out.size))
  have BS := Lib.hid (BS.out.trans (hb.mono BS.out.size))
  have FX2 := Lib.hid (Fx2.out.below hb)
  have FX3 := Lib.hid (Fx3.out.below hb)
  have FX4 := Lib.hid (Fx4.out.below hb)
  have z5 := X0.out.lt
  have zp := P0.out.lt
  clear hW5 hb Fx2 Fx3 Fx4
  refine (impl_SplAll x _ _ _ _ _ _ _ _ (FX3.out.more (by omega))).mono ?_
  rintro e w6 hgv
  obtain ⟨AG, cG, bG, rfl, hs, hj, hb⟩ := gives_ss hgv
  have GG := Lib.hid hs
  have JG := Lib.hid hj
  clear hgv hs hj
  have P0 := Lib.hid (P0.out.later hb)
  have X0 := Lib.hid (X0.out.later hb)
  have B := Lib.hid (B.out.trans (hb.mono B.out.size))
  have BS := Lib.hid (BS.out.trans (hb.mono BS.out.size))
  have FX2 := Lib.hid (FX2.out.below (hb.mono (by omega)))
  have FX3 := Lib.hid (FX3.out.below (hb.mono (by omega)))
  have FX4 := Lib.hid (FX4.out.below (hb.mono (by omega)))
  have z6 := hb.size
  clear hb
  have kX0 := fun i => X0.out.cell i
  go_wp2_with fail
  clear kX0
  refine (laws_eqIntSS AG AS cG cS _ bG bS _ _ _ w6 GG.out (GS.out.later BS.out) (by have := W7.out; omega) WL.out).mono ?_
  rintro e w7 ⟨rfl, hb⟩
  have hle : w4.heap.size ≤ w6.heap.size := by have := X0.out.lt; omega
  have P0 := Lib.hid (P0.out.later hb)
  have X0 := Lib.hid (X0.out.later hb)
  have B := Lib.hid (B.out.trans (hb.mono B.out.size))
  have BS := Lib.hid (BS.out.trans (hb.mono BS.out.size))
  have GG := Lib.hid (GG.out.later hb)
  have FX2 := Lib.hid (FX2.out.below (hb.mono hle))
  have FX3 := Lib.hid (FX3.out.below (hb.mono hle))
  have FX4 := Lib.hid (FX4.out.below (hb.mono hle))
  clear hle
  clear hb
  have kX0 := fun i => X0.out.cell i
  go_wp2
  clear kX0
  have hbd : Below w7.heap.size w7 w7.drew := (Below.refl _ _).drew
  refine wp_region_held_drew (S := (fun V : World => (∀ i : Nat, V.cell? ⟨w.heap.size, i, none⟩ = (#[.int .i64 x.join, .int .i64 x.split, .slice A2 x.inn.length c2, .slice A3 x.out.length c3, .slice A4 x.clear.length c4, .int .i64 x.role, .int .i64 x.apart, .int .i64 x.all, .int .i64 x.need] : Array Value)[i]?) ∧ (∀ i : Nat, V.cell? ⟨w4.heap.size, i, none⟩ = (#[.int .i64 x.join, .int .i64 x.split, .slice B2 x.inn.length e2, .slice B3 x.out.length e3, .slice B4 x.clear.length e4, .int .i64 x.role, .int .i64 x.apart, .int .i64 x.all, .int .i64 x.need] : Array Value)[i]?))) (by kernel_rfl) ⟨fun i => P0.out.cell i, fun i => X0.out.cell i⟩ (fun hHeld => ?_)
  have hle : w4.heap.size ≤ w7.heap.size := by have := X0.out.lt; omega
  have P0 := Lib.hid (P0.out.later hbd)
  have X0 := Lib.hid (X0.out.later hbd)
  have B := Lib.hid (B.out.trans (hbd.mono B.out.size))
  have BS := Lib.hid (BS.out.trans (hbd.mono BS.out.size))
  have GG := Lib.hid (GG.out.later hbd)
  have FX2 := Lib.hid (FX2.out.below (hbd.mono hle))
  have FX3 := Lib.hid (FX3.out.below (hbd.mono hle))
  have FX4 := Lib.hid (FX4.out.below (hbd.mono hle))
  clear hle
  generalize w7.drew = wd at P0 X0 B BS GG FX2 FX3 FX4 hHeld ⊢
  clear hbd
  refine wpAnyH_take (i := 0) (v := ?_) rfl (by kernel_rfl) (by kernel_rfl) (by kernel_rfl) (fun _ _ _ h => h) (Or.inl ⟨by rfl, ?_⟩) (by assumption) ?_
  rotate_left
  · intro V hSw
    (try dsimp only at hSw)
    go_simp
    (try with_reducible rfl)
  simp only [List.getElem_toArray, List.getElem_cons_succ, List.getElem_cons_zero, Act.put, List.setIfInBounds_toArray, List.set_cons_zero, List.set_cons_succ]
  refine wpAnyH_take (i := 1) (v := ?_) rfl (by kernel_rfl) (by kernel_rfl) (by kernel_rfl) (fun _ _ _ h => h) (Or.inl ⟨by rfl, ?_⟩) (by assumption) ?_
  rotate_left
  · intro V hSw
    (try dsimp only at hSw)
    go_simp
    (try with_reducible rfl)
  simp only [List.getElem_toArray, List.getElem_cons_succ, List.getElem_cons_zero, Act.put, List.setIfInBounds_toArray, List.set_cons_zero, List.set_cons_succ]
  refine wpAnyH_ready (rs := [2]) (by kernel_rfl) (by simp) ?_
  refine AllReadyH.cons rfl (fun K hK => ?_) AllReadyH.nil
  go_simp
  go_wp2_with (go_at_call 30; refine (laws_toNetTask x A2 A3 A4 c2 c3 c4 none _ (R2.out.later B.out) (R3.out.later B.out) (R4.out.later B.out) f2 f3 f4).mono ?_; rintro e w8 ⟨cs, rfl, ⟨D2, i2, D3, i3, D4, i4, rfl, h2, h3, h4⟩, hb⟩)
  have E2 := Lib.hid h2
  have E3 := Lib.hid h3
  have E4 := Lib.hid h4
  clear h2 h3 h4
  have hle : w4.heap.size ≤ wd.heap.size := by have := X0.out.lt; omega
  have P0 := Lib.hid (P0.out.later hb)
  have X0 := Lib.hid (X0.out.later hb)
  have B := Lib.hid (B.out.trans (hb.mono B.out.size))
  have BS := Lib.hid (BS.out.trans (hb.mono BS.out.size))
  have GG := Lib.hid (GG.out.later hb)
  have FX2 := Lib.hid (FX2.out.below (hb.mono hle))
  have FX3 := Lib.hid (FX3.out.below (hb.mono hle))
  have FX4 := Lib.hid (FX4.out.below (hb.mono hle))
  clear hle
  clear hb
  refine hK.out _ _ ⟨fun i => P0.out.cell i, fun i => X0.out.cell i⟩ (fun hHeld => ?_)
  clear hK K
  refine wpAnyH_ready (rs := [3]) (by kernel_rfl) (by simp) ?_
  refine AllReadyH.cons rfl (fun K hK => ?_) AllReadyH.nil
  go_simp
  go_wp2_with (go_at_call 33; refine (laws_eqNetTask x _ _ _ _ _ _ _ _ _ _ _ _ _ _ w8 (FX2.out.more (by have := X0.out.lt; omega)) E2.out (FX3.out.more (by have := X0.out.lt; omega)) E3.out (FX4.out.more (by have := X0.out.lt; omega)) E4.out).mono ?_; rintro e w9 ⟨rfl, hb⟩)
  have hle : w4.heap.size ≤ w8.heap.size := by have := X0.out.lt; omega
  have P0 := Lib.hid (P0.out.later hb)
  have X0 := Lib.hid (X0.out.later hb)
  have B := Lib.hid (B.out.trans (hb.mono B.out.size))
  have BS := Lib.hid (BS.out.trans (hb.mono BS.out.size))
  have GG := Lib.hid (GG.out.later hb)
  have FX2 := Lib.hid (FX2.out.below (hb.mono hle))
  have FX3 := Lib.hid (FX3.out.below (hb.mono hle))
  have FX4 := Lib.hid (FX4.out.below (hb.mono hle))
  clear hle
  clear hb E2 E3 E4
  refine hK.out _ _ ⟨fun i => P0.out.cell i, fun i => X0.out.cell i⟩ (fun hHeld => ?_)
  clear hK K
  refine wpAnyH_take (i := 4) (v := ?_) rfl (by kernel_rfl) (by kernel_rfl) (by kernel_rfl) (fun _ _ _ h => h) (Or.inl ⟨by rfl, ?_⟩) (by assumption) ?_
  rotate_left
  · intro V hSw
    (try dsimp only at hSw)
    go_simp
    (try with_reducible rfl)
  simp only [List.getElem_toArray, List.getElem_cons_succ, List.getElem_cons_zero, Act.put, List.setIfInBounds_toArray, List.set_cons_zero, List.set_cons_succ]
  refine wpAnyH_done (by kernel_rfl) ?_ _
  clear hHeld
  have kX0 := fun i => X0.out.cell i
  go_wp2_with fail
  clear kX0
  refine (laws_markNetTask x _ _ _ _ _ _ 1 w9 w3.heap.size w4.heap.size FX2.out FX3.out FX4.out (by have := X0.out.lt; omega) TT.out (by omega) (by omega)).mono ?_
  rintro e w10 ⟨⟨v, rfl, hv0, hv1⟩, hin⟩
  have hle : w3.heap.size ≤ w9.heap.size := by have := X0.out.lt; omega
  have hle0 : w.heap.size ≤ w9.heap.size := B.out.size
  have P0 : Hid (Bk w10 (w.heap.size) 45 #[.int .i64 x.join, .int .i64 x.split, .slice A2 x.inn.length c2, .slice A3 x.out.length c3, .slice A4 x.clear.length c4, .int .i64 x.role, .int .i64 x.apart, .int .i64 x.all, .int .i64 x.need]) := (hin.block _ (by omega) (.inl (by omega))).trans P0.out
  have B := Lib.hid (B.out.trans (hin.below (by omega) hle0))
  have BS := Lib.hid (BS.out.trans (hin.below (Nat.le_refl _) hle))
  have GG := Lib.hid (GG.out.keep hin.size (fun k h1 h2 => hin.block k h2 (.inr (by omega))))
  have hneg1 : ¬ v < 0 := by omega
  clear hin hle hle0 X0 FX2 FX3 FX4
  go_wp2_with fail
  refine (laws_eqIntSS AG AS cG cS _ bG bS _ _ _ w10 GG.out (GS.out.later BS.out) (by have := W7.out; omega) WL.out).mono ?_
  rintro e w11 ⟨rfl, hb⟩
  have P0 := Lib.hid (P0.out.later hb)
  have B := Lib.hid (B.out.trans (hb.mono B.out.size))
  have BS := Lib.hid (BS.out.trans (hb.mono BS.out.size))
  have GG := Lib.hid (GG.out.later hb)
  clear hb
  go_wp2_with fail
  refine (laws_markIntSS AG cG _ bG _ W5.heap.size w11 GG.out JG.out WP.out (by have := W7.out; omega) WL.out).mono ?_
  rintro e w12 ⟨rfl, hs, hin⟩
  have HG := Lib.hid hs
  have P0 : Hid (Bk w12 (w.heap.size) 45 #[.int .i64 x.join, .int .i64 x.split, .slice A2 x.inn.length c2, .slice A3 x.out.length c3, .slice A4 x.clear.length c4, .int .i64 x.role, .int .i64 x.apart, .int .i64 x.all, .int .i64 x.need]) := (hin.block _ (.inl (by omega))).trans P0.out
  have B := Lib.hid (B.out.trans (hin.below (by omega)))
  have BS := Lib.hid (BS.out.trans (hin.below (by omega)))
  clear hs hin GG
  have htl := totTo_le (fun j => (waysOf x).getD j []) WL.out (waysOf x).length
  have h7 := W7.out
  generalize hT : totTo (fun j => (waysOf x).getD j []) (waysOf x).length = tt at htl ⊢
  go_wp2_with fail
  refine (laws_heldIntSS AG cG _ bG _ W5.heap.size w12 HG.out (by omega) WL.out).mono ?_
  rintro e w13 ⟨rfl, rfl⟩
  rw [hT]
  have kP0 := fun i => P0.out.cell i
  go_wp2_with fail
  clear kP0
  refine (laws_toNetTask x A2 A3 A4 c2 c3 c4 none _ (R2.out.later B.out) (R3.out.later B.out) (R4.out.later B.out) f2 f3 f4).mono ?_
  rintro e w14 ⟨cs, rfl, ⟨D2, i2, D3, i3, D4, i4, rfl, h2, h3, h4⟩, hb⟩
  have E3 := Lib.hid h3
  clear h2 h3 h4
  have P0 := Lib.hid (P0.out.later hb)
  have B := Lib.hid (B.out.trans (hb.mono B.out.size))
  have BS := Lib.hid (BS.out.trans (hb.mono BS.out.size))
  have HG := Lib.hid (HG.out.later hb)
  clear hb
  go_wp2_with fail
  refine (impl_SplAll x _ _ _ _ _ _ _ _ E3.out).mono ?_
  rintro e w15 hgv
  obtain ⟨AH, cH, bH, rfl, hs, _, hb⟩ := gives_ss hgv
  have GH := Lib.hid hs
  clear hgv hs
  have B := Lib.hid (B.out.trans (hb.mono B.out.size))
  have BS := Lib.hid (BS.out.trans (hb.mono BS.out.size))
  have HG := Lib.hid (HG.out.later hb)
  clear hb E3 P0
  go_wp2_with fail
  refine (laws_eqIntSS AH AS cH cS _ bH bS _ _ _ w15 GH.out (GS.out.later BS.out) (by omega) WL.out).mono ?_
  rintro e w16 ⟨rfl, hb⟩
  have B := Lib.hid (B.out.trans (hb.mono B.out.size))
  have HG := Lib.hid (HG.out.later hb)
  clear hb GH BS
  go_wp2_with fail
  refine (laws_heldIntSS AG cG _ bG _ W5.heap.size w16 HG.out (by omega) WL.out).mono ?_
  rintro e w17 ⟨rfl, rfl⟩
  rw [hT]
  go_wp2
  go_ret
  exact ⟨rfl, B.out⟩
end Go.Proofs.Ytkkjljpokannkaa
