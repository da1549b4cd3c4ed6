/- Who is busy, drawn: l20Busy. -/
import Derived.Test.YtjieilicjdoaaaaBusySt2
import Derived.Deep.RegionHeld3
namespace Go.Proofs.Ytjieilicjdoaaaa
open Go.RowKit
open List renaming getElem_toArray → sA, getElem_cons_succ → sB, getElem_cons_zero → sC, setIfInBounds_toArray → sD, set_cons_zero → sE, set_cons_succ → sF
set_option linter.unusedSimpArgs false
set_option linter.unusedVariables false

/-- What drawing who is busy leaves. -/
def DrawnB (R Q : Nat) (w : World) (e : Ending) (w' : World) : Prop :=
 ∃ A c xs, e = .returned (.slice A (List.length (α := GItem) xs) c) ∧ xs.length ≤ 3 ∧ Rows itemC (some w.heap.size) w' w'.heap.size A xs ∧ RdB w' R Q ∧ Turned R w w'

set_option maxRecDepth 100000 in
set_option maxHeartbeats 100000000 in
theorem l20Busy (RB P : Nat) (x : GNet) (g c : Nat) (n : Int) (w : World) (h : RdB w RB P) (hP : P ≤ 800000) (hx : NetG w (RB + 1) g x.tasks) (h1 : 1 ≤ x.tasks.length) (h6 : x.tasks.length ≤ 6) (hnd : ∀ t ∈ x.tasks, t.need ≤ 100) (hn : n ≤ 1000) :
  Calls Try.prog 65 #[.pointer (some ⟨RB, 0, none⟩), .agg #[.int .i64 x.places, .slice (some ⟨g, 0, none⟩) x.tasks.length c], .int .i64 n] w (DrawnB RB (P + 40) w) := by
 have HR := Lib.hid h
 have HRlt := Lib.hid h.lt
 have hRl := h.lt
 have HX := Lib.hid hx
 have HND := Lib.hid hnd
 clear h hx hnd
 go_enter Try.func65, Try.ntmps65
 go_wp2_with fail
 refine callsAt fun W hW => ?_
 have hb : Below w.heap.size w W := by rw [hW]; go_grown
 have N0 : Hid (Bk W w.heap.size 75 #[.int .i64 x.places, .slice (some ⟨g, 0, none⟩) x.tasks.length c]) := by show Bk _ _ _ _; rw [hW]; exact (Bk.new rfl).alloc _
 have O0 : Hid (OwnC itemC 111 W w.heap.size (.slice (some ⟨w.heap.size + 1, 0, none⟩) 0 0) []) := by
  show OwnC _ _ _ _ _ _
  rw [hW]
  have h := OwnC.made (C := itemC) (e := 111) (base := w.heap.size) (w := w.alloc (.cells #[.int .i64 x.places, .slice (some ⟨g, 0, none⟩) x.tasks.length c] 75)) (by simp) 0 #[] (by decide) rfl
  simpa using h
 have T0 : Hid (Turned RB w W) := Turned.of_below hb
 have R0 : Hid (RdB W RB P) := HR.out.low hb HRlt.out
 clear hW hb
 refine (l20Rd_pick RB _ 3 _ R0.out (by omega) (by omega)).mono ?_
 rintro e w1 ⟨v, rfl, hv0, hv1, _, hr, ht⟩
 have N1 := Lib.hid (N0.out.turned ht (by omega))
 have O1 := Lib.hid (O0.out.kept (Kept.of_turned ht HRlt.out))
 have T1 := Lib.hid (T0.out.trans ht)
 have R1 := Lib.hid hr
 have hv2 : v ≤ 2 := by have := hv1 (by omega); omega
 clear hr ht hv1 N0 O0 T0 R0
 go_wp2
 go_loopg [7, 8] 2 (fun gg s7 s8 wr => ∃ (k : Nat) (xs : List GItem), k ≤ 2 ∧ k ≤ gg ∧ xs.length + k ≤ 2 ∧ s8 = .int .i64 k ∧ Aside (Bk wr w.heap.size 75 #[.int .i64 x.places, .slice (some ⟨g, 0, none⟩) x.tasks.length c]) ∧ Aside (OwnC itemC 111 wr w.heap.size s7 xs) ∧ Aside (Turned RB w wr) ∧ Aside (RdB wr RB (P + 1 + 3 * xs.length)) ∧ Aside (∀ g, s7.ownBlock = some g → w.heap.size + 1 ≤ g))
 case atStart => exact ⟨v.toNat, [], by omega, by omega, by simp; omega, by simp; omega, N1.out, O1.out, T1.out, R1.out, fun g hg => by cases hg; exact Nat.le_refl _⟩
 case round =>
  obtain ⟨k, xs, hk, hg, hxk, rfl, NW, OW, TW, RW, DW⟩ := hrel
  have NWlt := NW.out.lt
  by_cases hlt : 0 < k
  ·
   have hltz : (0 : Int) < (k : Int) := by omega
   have kN := fun i => NW.out.cell i
   go_wp2_with fail
   clear kN
   refine (l20Rd_pick RB _ (x.tasks.length : Int) _ RW.out (by omega) (by omega)).mono ?_
   rintro e w2 ⟨v2, rfl, hv20, hv21, _, hr, ht⟩
   obtain ⟨j, rfl⟩ := Int.eq_ofNat_of_zero_le hv20
   have hj : j < x.tasks.length := by have := hv21 (by omega); omega
   have N2 := Lib.hid (NW.out.turned ht (by omega))
   have O2 := Lib.hid (OW.out.kept (Kept.of_turned ht HRlt.out))
   have T2 := Lib.hid (TW.out.trans ht)
   have R2 := Lib.hid hr
   clear hr ht hv21
   go_wp2_with fail
   refine (l20Rd_pick RB _ 4 _ R2.out (by omega) (by omega)).mono ?_
   rintro e w3 ⟨v3, rfl, hv30, hv31, _, hr, ht⟩
   have hv32 := hv31 (by omega)
   have N3 := Lib.hid (N2.out.turned ht (by omega))
   have O3 := Lib.hid (O2.out.kept (Kept.of_turned ht HRlt.out))
   have T3 := Lib.hid (T2.out.trans ht)
   have R3 := Lib.hid hr
   have z3 := T3.out.size
   have zN := N3.out.lt
   clear hr ht hv31
   go_upto_region 7 with fail
   generalize hV : World.alloc w3 _ = w4
   have hb : Below w3.heap.size w3 w4 := by rw [← hV]; exact (Below.refl _ _).alloc (Nat.le_refl _) _
   have E : Hid (Bk w4 w3.heap.size 111 #[.int .i64 j, .int .i64 (1 + v3), .int .i64 0]) := by show Bk _ _ _ _; rw [← hV]; exact Bk.new rfl
   have N4 := Lib.hid (N3.out.later hb)
   have O4 := Lib.hid (O3.out.later hb)
   have T4 := Lib.hid (T3.out.then hb)
   have R4 := Lib.hid (R3.out.low hb R3.out.lt)
   have X4 : Hid (NetG w4 (RB + 1) g x.tasks) := HX.out.turned T4.out (by omega)
   have yE := E.out.lt
   have K4 := Lib.hid (fun b (h : b < w3.heap.size) => hb.block b h)
   have z4 := hb.size
   clear hV hb
   obtain ⟨b, off, C1, e1, C2, e2, C3, e3, hA, hbb, _, _, _, _, _, _, _, _, _, t8⟩ := task_at (X4.out.rows (by omega)) hj
   cases hA
   simp only [Nat.zero_add] at t8
   have hnd := HND.out _ (List.getElem_mem hj)
   have hjz : (j : Int) < (x.tasks.length : Int) := by omega
   generalize x.tasks[j] = y at t8 hnd
   generalize y.need = nd at t8 hnd
   have kN := fun i => N4.out.cell i
   have kE := fun i => E.out.cell i
   have fE := fun i => E.out.frozen i
   by_cases hq : (1 : Int) < nd
   ·
    go_wp2_with fail
    refine (l20Rd_pick RB _ nd _ R4.out (by omega) (by omega)).mono ?_
    rintro e w5 ⟨v5, rfl, hv50, _, _, hr, ht⟩
    have E5 := Lib.hid (E.out.turned ht (by omega))
    have N5 := Lib.hid (N4.out.turned ht (by omega))
    have O5 := Lib.hid (O4.out.kept (Kept.of_turned ht HRlt.out))
    have T5 := Lib.hid (T4.out.trans ht)
    have R5 := Lib.hid hr
    have z5 := ht.size
    have K5 := Lib.hid (fun b (h : b < w4.heap.size) (h2 : b ≠ RB) => ht.block b h h2)
    clear hr ht kN kE fE t8 E
    have kE := fun i => E5.out.cell i
    have fE := fun i => E5.out.frozen i
    go_upto_region 9 with fail
    generalize hV : World.setCell w5 _ _ = w6
    have E6 : Hid (Bk w6 w3.heap.size 111 #[.int .i64 j, .int .i64 (1 + v3), .int .i64 v5]) := by show Bk _ _ _ _; rw [← hV]; exact E5.out.set 2 _
    have hbl : ∀ b, b ≠ w3.heap.size → w6.heap[b]? = w5.heap[b]? := fun b hb => by rw [← hV]; exact Below.heap_setCell _ ⟨w3.heap.size, 2, none⟩ _ b hb
    have hsz : w6.heap.size = w5.heap.size := by rw [← hV]; simp [World.setCell]
    have N6 : Hid (Bk w6 w.heap.size 75 _) := (hbl _ (by omega)).trans N5.out
    have hbe : Below w.heap.size w5 w6 := by rw [← hV]; exact (Below.refl _ _).setCell (p := ⟨w3.heap.size, 2, none⟩) z3 _
    have O6 := Lib.hid (O3.out.kept (w' := w6) ⟨by omega, fun b hb hlo => (hbl b (by omega)).trans ((K5.out b (by omega) (by omega)).trans (K4.out b hb))⟩)
    have T6 := Lib.hid (T5.out.trans' hbe)
    have R6 := Lib.hid (R5.out.low hbe HRlt.out)
    have z6 := T6.out.size
    clear hV hbl hbe hsz E5 N5 O5 T5 R5 O4 O3 O2 N4 N3 N2 T4 T3 T2 R4 R3 R2 K4 K5 kE fE
    have kE := fun i => E6.out.cell i
    go_wp2_with (at_builtin; refine append_C5 rfl (.tmp 44) (.tmp 46) 40 rfl itemC 111 _ 24 Try.underlying40 info_Item rfl (by decide) (by decide) w.heap.size _ xs rfl (O6.out.later ((Below.refl _ _).alloc (Nat.le_refl _) _)) ⟨j, 1 + v3, v5⟩ _ w.heap.size 0 rfl (Nat.le_refl _) (Nat.zero_le _) (fun _ _ => .inr (Nat.zero_le _)) w6.heap.size rfl (fun j u hu => by rw [Bk.cell (Bk.new rfl)]; simpa [GItem.cells] using hu) (by simp [GItem.cells, Value.oneCell']) (by omega) (by simp; omega) ?_; intro v' w7 hown7 hg7 hb7 h57; have O7 := Lib.hid hown7; have G7 := Lib.hid hg7; have B7 := Lib.hid hb7; have H57 := Lib.hid h57; clear hown7 hg7 hb7 h57)
    go_roundg (k - 1)
    case measure => omega
    case rel =>
     have hba : Below w6.heap.size w6 (w6.alloc (.cells #[.int .i64 j, .int .i64 (1 + v3), .int .i64 v5] 111)) := (Below.refl _ _).alloc (Nat.le_refl _) _
     refine ⟨k - 1, xs ++ [GItem.mk j (1 + v3) v5], by omega, by omega, by simp; omega, by go_num, ?_, O7.out, (T6.out.then hba).trans' B7.out, ?_, ?_⟩
     ·
      exact (G7.out.block _ (N6.out.later hba).lt (fun he => by have := DW.out _ he.symm; omega)).trans (N6.out.later hba)
     ·
      show RdB _ _ _
      exact ((R6.out.low hba R6.out.lt).low B7.out HRlt.out).mono (by simp; omega)
     ·
      intro g hg
      rcases H57.out with h | h
      ·
       exact DW.out g (h.symm.trans hg)
      ·
       rw [h] at hg
       cases hg
       simp only [World.size_alloc]
       omega
   ·
    have hq2 : ¬ (1 : Int) < nd := hq
    clear O2 O3 N2 N3 T2 T3 R2 R3 K4 fE
    have z6 := T4.out.size
    go_wp2_with (at_builtin; refine append_C5 rfl (.tmp 44) (.tmp 46) 40 rfl itemC 111 _ 24 Try.underlying40 info_Item rfl (by decide) (by decide) w.heap.size _ xs rfl (O4.out.later ((Below.refl _ _).alloc (Nat.le_refl _) _)) ⟨j, 1 + v3, 0⟩ _ w.heap.size 0 rfl (Nat.le_refl _) (Nat.zero_le _) (fun _ _ => .inr (Nat.zero_le _)) w4.heap.size rfl (fun j u hu => by rw [Bk.cell (Bk.new rfl)]; simpa [GItem.cells] using hu) (by simp [GItem.cells, Value.oneCell']) (by omega) (by simp; omega) ?_; intro v' w7 hown7 hg7 hb7 h57; have O7 := Lib.hid hown7; have G7 := Lib.hid hg7; have B7 := Lib.hid hb7; have H57 := Lib.hid h57; clear hown7 hg7 hb7 h57)
    go_roundg (k - 1)
    case measure => omega
    case rel =>
     have hba : Below w4.heap.size w4 (w4.alloc (.cells #[.int .i64 j, .int .i64 (1 + v3), .int .i64 0] 111)) := (Below.refl _ _).alloc (Nat.le_refl _) _
     refine ⟨k - 1, xs ++ [GItem.mk j (1 + v3) 0], by omega, by omega, by simp; omega, by go_num, ?_, O7.out, (T4.out.then hba).trans' B7.out, ?_, ?_⟩
     ·
      exact (G7.out.block _ (N4.out.later hba).lt (fun he => by have := DW.out _ he.symm; omega)).trans (N4.out.later hba)
     ·
      show RdB _ _ _
      exact ((R4.out.low hba R4.out.lt).low B7.out HRlt.out).mono (by simp; omega)
     ·
      intro g hg
      rcases H57.out with h | h
      ·
       exact DW.out g (h.symm.trans hg)
      ·
       rw [h] at hg
       cases hg
       simp only [World.size_alloc]
       omega
  ·
   have hltz : ¬ (0 : Int) < (k : Int) := by omega
   go_wp2_with fail
   refine (l20Rd_pick RB _ n _ RW.out (by omega) (by omega)).mono ?_
   rintro e wq ⟨vq, rfl, _, _, _, hr, ht⟩
   have OQ := Lib.hid (OW.out.kept (Kept.of_turned ht HRlt.out))
   have TQ := Lib.hid (TW.out.trans ht)
   have RQ := Lib.hid hr
   clear hr ht OW TW RW NW DW NWlt
   by_cases h0 : vq = 0
   rotate_left
   ·
    have b0 : (vq == 0) = false := by simp [h0]
    clear h0
    go_wp2
    go_ret
    obtain ⟨A9, c9, rfl, hrow9⟩ := OQ.out.rows (by omega)
    exact ⟨A9, c9, _, rfl, by omega, hrow9, RQ.out.mono (by omega), TQ.out⟩
   subst h0
   go_upto_region 11 with fail
   have hdr : Below wq.heap.size wq wq.drew := (Below.refl _ _).drew
   refine wp_region_held_drew (S := fun V : World => True) (by kernel_rfl) trivial (fun hHeld => ?_)
   have O := Lib.hid (OQ.out.later hdr)
   have T := Lib.hid (TQ.out.then hdr)
   have R := Lib.hid (RQ.out.low hdr RQ.out.lt)
   have HLT := Lib.hid (fun g hg => (O.out.lt g hg).2)
   generalize wq.drew = wd at O T R HLT hHeld ⊢
   have swd := T.out.size
   clear hdr
   refine tk (i := 0) (v := ?_) rfl (.inl ⟨by rfl, ?_⟩) ?_
   rotate_left
   ·
    intro V hSw; (try dsimp only at hSw); go_simp; (try with_reducible rfl)
   simp only [sA, sB, sC, Act.put, sD, sE, sF]
   refine tk (i := 2) (v := ?_) rfl (.inl ⟨by rfl, ?_⟩) ?_
   rotate_left
   ·
    intro V hSw; (try dsimp only at hSw); go_simp; (try with_reducible rfl)
   simp only [sA, sB, sC, Act.put, sD, sE, sF]
   refine tk (i := 7) (v := ?_) rfl (.inl ⟨by rfl, ?_⟩) ?_
   rotate_left
   ·
    intro V hSw; (try dsimp only at hSw); go_simp; (try with_reducible rfl)
   simp only [sA, sB, sC, Act.put, sD, sE, sF]
   refine tk (i := 12) (v := ?_) rfl (.inl ⟨by rfl, ?_⟩) ?_
   rotate_left
   ·
    intro V hSw; (try dsimp only at hSw); go_simp; (try with_reducible rfl)
   simp only [sA, sB, sC, Act.put, sD, sE, sF]
   refine busy_0_0 _ (by kernel_rfl) _ (fun _ _ d _ _ h => by cases d <;> exact h) ?_ HRlt.out (by omega) (by omega) T.out.size (Nat.le_refl _) O.out T.out R.out HLT.out _ (by kernel_rfl)
   intro m52 m53 m54 m55 m56 m57 m58 m59 m60 m61 m62 m63 m64 m65 m66 m67 m68 m69 m70 m71 v' w7 z1 z2 z3 ho hr ht
   have O := Lib.hid ho
   have R := Lib.hid hr
   have T := Lib.hid ht
   clear ho hr ht
   go_wp2
   go_ret
   obtain ⟨A9, c9, rfl, hrow9⟩ := O.out.rows (by simp; omega)
   exact ⟨A9, c9, _, rfl, by simp; omega, hrow9, R.out.mono (by omega), T.out⟩
end Go.Proofs.Ytjieilicjdoaaaa
