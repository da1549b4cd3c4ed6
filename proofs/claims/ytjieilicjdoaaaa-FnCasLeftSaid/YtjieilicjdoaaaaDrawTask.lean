/- A task drawn: l20Task. -/
import Derived.Test.YtjieilicjdoaaaaDrawAsk
import Derived.Test.YtjieilicjdoaaaaGNet
namespace Go.Proofs.Ytjieilicjdoaaaa
open Go.RowKit

theorem info_flow : (Try.prog.info? 102).map (fun i => (i.zero, i.size, i.bytes)) = some (some (.agg #[.int .i64 0, .int .i64 0, .int .i64 0, .int .i64 0]), 4, 32) := by kernel_rfl

/-- The zero value of a task, cell by cell. -/
def zeroTask : Array Value := #[.int .i64 0, .int .i64 0, .slice none 0 0, .slice none 0 0, .slice none 0 0, .int .i64 0, .int .i64 0, .int .i64 0, .int .i64 0]

/-- While a task is drawn: it lies in block E, the result's cell in block N; so many flows lead out already. -/
def TaskSt (R : Nat) (w0 : World) (N E P : Nat) (join split : Int) (A1 : Option Addr) (n1 c1 k : Nat) (wx : World) : Prop :=
 ∃ (v : Value) (role apart all need : Int) (outs : List GFlow), outs.length = k ∧ Bk wx N 99 zeroTask ∧
  Bk wx E 99 #[.int .i64 join, .int .i64 split, .slice A1 n1 c1, v, .slice none 0 0, .int .i64 role, .int .i64 apart, .int .i64 all, .int .i64 need] ∧
  OwnC flowC 102 wx (E + 1) v outs ∧ RdB wx R P ∧ Turned R w0 wx

section
variable {R : Nat} {w0 w w' : World} {N E P Q : Nat} {join split : Int} {A1 : Option Addr} {n1 c1 k : Nat}
theorem TaskSt.pick (h : TaskSt R w0 N E P join split A1 n1 c1 k w) (hN : R < N) (hE : R < E) (hr : RdB w' R Q) (ht : Turned R w w') : TaskSt R w0 N E Q join split A1 n1 c1 k w' := by
 obtain ⟨v, r, a, l, d, outs, h0, h1, h2, h3, _, h5⟩ := h
 exact ⟨v, r, a, l, d, outs, h0, h1.turned ht (by omega), h2.turned ht (by omega), h3.kept (Kept.of_turned ht (by omega)), hr, h5.trans ht⟩
theorem TaskSt.mono (h : TaskSt R w0 N E P join split A1 n1 c1 k w) (hq : P ≤ Q) : TaskSt R w0 N E Q join split A1 n1 c1 k w := by
 obtain ⟨v, r, a, l, d, outs, h0, h1, h2, h3, h4, h5⟩ := h
 exact ⟨v, r, a, l, d, outs, h0, h1, h2, h3, h4.mono hq, h5⟩
theorem Kept.setCell {base : Nat} {w : World} {p : Addr} (hp : p.block < base) (u : Value) : Kept base w (w.setCell p u) :=
 ⟨by simp [World.setCell], fun b _ hlo => Below.heap_setCell w p u b (by omega)⟩
theorem TaskSt.set (h : TaskSt R w0 N E P join split A1 n1 c1 k w) (hR : R < E) (hN : N < E) (h0 : w0.heap.size ≤ E) (i : Nat) (hi : i = 6 ∨ i = 8) (z : Int) : TaskSt R w0 N E P join split A1 n1 c1 k (w.setCell ⟨E, i, none⟩ (.int .i64 z)) := by
 obtain ⟨v, r, a, l, d, outs, g0, h1, h2, h3, h4, h5⟩ := h
 have m1 := h1.far (p := ⟨E, i, none⟩) (by show N ≠ E; omega) (.int .i64 z)
 have m2 := h2.set i (.int .i64 z)
 have m3 := h3.kept (Kept.setCell (p := ⟨E, i, none⟩) (by show E < E + 1; omega) (.int .i64 z))
 have m4 := h4.low ((Below.refl E w).setCell (p := ⟨E, i, none⟩) (Nat.le_refl _) (.int .i64 z)) hR
 have m5 := h5.trans' ((Below.refl w0.heap.size w).setCell (p := ⟨E, i, none⟩) h0 (.int .i64 z))
 rcases hi with rfl | rfl
 ·
  exact ⟨v, r, z, l, d, outs, g0, m1, m2, m3, m4, m5⟩
 ·
  exact ⟨v, r, a, l, z, outs, g0, m1, m2, m3, m4, m5⟩
end

/-- What drawing a task leaves. -/
def DrawnTask (R lo Q : Nat) (w : World) (e : Ending) (w' : World) : Prop :=
 ∃ (x : GTask) (cs : List Value), e = .returned (.agg cs.toArray) ∧ taskC.R (some lo) w' w'.heap.size x cs ∧ RdB w' R Q ∧ Turned R w w'

set_option maxRecDepth 100000 in
set_option maxHeartbeats 4000000 in
theorem l20Task (R lo P : Nat) (join split tasks : Int) (A1 : Option Addr) (c1 : Nat) (ins : List Int) (A2 : Option Addr) (c2 : Nat) (tos : List Int) (w : World) (h : RdB w R P) (hP : P ≤ 900000) (hn : tasks ≤ 1000) (hlo : R + 1 ≤ lo) (hlw : lo ≤ w.heap.size)
  (h1 : Rows intC (some lo) w w.heap.size A1 ins) (h2 : Rows intC (some lo) w w.heap.size A2 tos) (hl : tos.length ≤ 3) :
  Calls Try.prog 75 #[.pointer (some ⟨R, 0, none⟩), .int .i64 join, .int .i64 split, .slice A1 ins.length c1, .slice A2 tos.length c2, .int .i64 tasks] w (DrawnTask R lo (P + 20) w) := by
 have HR := Lib.hid h
 have hR := h.lt
 have H1 := Lib.hid h1
 have H2 := Lib.hid h2
 clear h h1 h2
 go_enter Try.func75, Try.ntmps75
 go_wp2_with fail
 refine callsAt fun W hW => ?_
 have bN : Bk W w.heap.size 99 zeroTask := by rw [hW]; exact Bk.new rfl
 have hB : Below w.heap.size w W := by rw [hW]; exact (Below.refl _ _).alloc (Nat.le_refl _) _
 clear hW
 refine (l20Rd_pick R P 3 _ (HR.out.low hB hR) (by omega) (by omega)).mono ?_
 rintro e w1 ⟨v1, rfl, hv10, hv11, _, hr1, ht1⟩
 have N1 := Lib.hid (bN.turned ht1 (by omega))
 have T1 := Lib.hid ((Turned.of_below hB).trans ht1)
 have R1 := Lib.hid hr1
 clear bN hB hr1 ht1
 go_wp2_with fail
 refine (l20Rd_pick R _ 3 _ R1.out (by omega) (by omega)).mono ?_
 rintro e w2 ⟨v2, rfl, hv20, hv21, _, hr2, ht2⟩
 have N2 := Lib.hid (N1.out.turned ht2 (by omega))
 have T2 := Lib.hid (T1.out.trans ht2)
 have R2 := Lib.hid hr2
 have s2 := T2.out.size
 have sN2 := N2.out.lt
 clear hr2 ht2
 have k2 := fun o i => (Bk.new rfl : Bk (w2.alloc (.cells o 99)) w2.heap.size 99 o).cell i
 go_wp2_with fail
 refine callsAt fun V hV => ?_
 have S3 : Hid (TaskSt R w w.heap.size w2.heap.size (P + 2) join split A1 ins.length c1 0 V) := by
  have hBV : Below w2.heap.size w2 V := by rw [hV]; exact (Below.refl _ _).alloc (Nat.le_refl _) _
  exact ⟨.slice none 0 0, 1 + v1, -1, 1 + v2, 0, [], rfl, N2.out.later hBV, by rw [hV]; exact Bk.new rfl, OwnC.nil _ _, R2.out.low hBV R2.out.lt, T2.out.then hBV⟩
 clear hV k2
 generalize hE : w2.heap.size = E at *
 clear hE N2 T2 R2 N1 T1 R1
 have S3' := S3.out
 obtain ⟨_, _, _, _, _, _, _, _, _, _, r3, _⟩ := S3'
 refine (l20Rd_pick R _ (1 + v2) _ r3 (by omega) (by omega)).mono ?_
 rintro e w4 ⟨v4, rfl, _, _, _, hr4, ht4⟩
 have S4 := Lib.hid (S3.out.pick hR (by omega) hr4 ht4)
 clear r3 hr4 ht4 S3
 have S4' := S4.out
 obtain ⟨_, _, _, _, _, _, _, _, bE, _, _, _⟩ := S4'
 have kE := fun i => bE.cell i
 have fE := fun i => bE.frozen i
 clear bE
 go_wp2_with fail
 refine callsAt fun V hV => ?_
 have S5 : Hid (TaskSt R w w.heap.size E (P + 3) join split A1 ins.length c1 0 V) := by rw [hV]; exact S4.out.set (by omega) sN2 s2 8 (.inr rfl) _
 clear hV kE fE S4
 have S5' := S5.out
 obtain ⟨_, _, _, _, _, _, _, _, _, _, r5, _⟩ := S5'
 refine (l20Rd_pick R _ 3 _ r5 (by omega) (by omega)).mono ?_
 rintro e w6 ⟨v6, rfl, _, _, _, hr6, ht6⟩
 have S6 := Lib.hid (S5.out.pick hR (by omega) hr6 ht6)
 clear r5 hr6 ht6 S5
 go_upto_if 34 with fail
 go_cut [] from 35 (fun wx => TaskSt R w w.heap.size E (P + 5) join split A1 ins.length c1 0 wx)
 case first =>
  by_cases h6 : v6 = 0
  ·
   subst h6
   have S6' := S6.out
   obtain ⟨_, _, _, _, _, _, _, _, _, _, r6, _⟩ := S6'
   go_wp2_with fail
   refine (l20Rd_pick R _ tasks _ r6 (by omega) (by omega)).mono ?_
   rintro e w7 ⟨v7, rfl, _, _, _, hr7, ht7⟩
   have S7 := Lib.hid (S6.out.pick hR (by omega) hr7 ht7)
   clear r6 hr7 ht7 S6
   have S7' := S7.out
   obtain ⟨_, _, _, _, _, _, _, _, bE, _, _, _⟩ := S7'
   have kE := fun i => bE.cell i
   have fE := fun i => bE.frozen i
   clear bE
   go_wp2
   go_meet
   case rel => exact (S7.out.set (by omega) sN2 s2 6 (.inl rfl) _)
  ·
   have b6 : (v6 == 0) = false := by simp [h6]
   go_wp2
   go_meet
   case rel => exact S6.out.mono (by omega)
 case rest =>
  have S7 := Lib.hid hcut
  clear hcut S6
  go_wp2
  go_loopg [14, 15] tos.length (fun gg s14 _ wr => ∃ k : Nat, k ≤ tos.length ∧ tos.length - k ≤ gg ∧ s14 = .int .i64 k ∧ Aside (TaskSt R w w.heap.size E (P + 5 + 3 * k) join split A1 ins.length c1 k wr))
  case atStart => exact ⟨0, Nat.zero_le _, by omega, rfl, S7.out⟩
  case round =>
   obtain ⟨k, hk, hgg, rfl, SW⟩ := hrel
   have SW' := SW.out
   obtain ⟨v, role, apart, all, need, outs, hok, bN, bE, OW, rW, tW⟩ := SW'
   have sw := tW.size
   by_cases hlt : k < tos.length
   ·
    have hltz : (k : Int) < (tos.length : Int) := by omega
    obtain ⟨b, off, rfl, hb, hc⟩ := ((H2.out.keep (tW.agree (by omega) (Nat.le_refl _))).more sw).ints.at_ hlt
    generalize tos[k] = tk at hc
    have BN := Lib.hid bN
    have BE := Lib.hid bE
    have OWr := Lib.hid OW
    have RWr := Lib.hid rW
    have TWr := Lib.hid tW
    have sE : E < wr.heap.size := bE.lt
    clear bN bE OW rW tW SW S7
    go_upto_region 9 with fail
    generalize hV : wr.alloc _ = V
    have fV : Bk V wr.heap.size 102 #[.int .i64 tk, .int .i64 0, .int .i64 0, .int .i64 0] := by rw [← hV]; exact Bk.new rfl
    have hBV : Below wr.heap.size wr V := by rw [← hV]; exact (Below.refl _ _).alloc (Nat.le_refl _) _
    clear hV hc
    have FV := Lib.hid fV
    have TV := Lib.hid (Turned.of_below (R := R) hBV)
    have RV := Lib.hid (RWr.out.low hBV RWr.out.lt)
    clear fV hBV
    go_cut [58] from 39 to 74 (fun s58 wx => (∃ q : Bool, s58 = .bool q) ∧ wx = V)
    case first =>
     by_cases hs : split = 1
     ·
      have hs1 : (split == 1) = true := by simp [hs]
      have hs2 : (split != 1) = false := by simp [hs]
      clear hs
      go_wp2
      go_meet
      case rel => exact ⟨⟨_, rfl⟩, rfl⟩
     ·
      have hs1 : (split == 1) = false := by simp [hs]
      have hs2 : (split != 1) = true := by simp [hs]
      clear hs
      go_wp2
      go_meet
      case rel => exact ⟨⟨_, rfl⟩, rfl⟩
    case rest =>
     obtain ⟨⟨q, rfl⟩, hwc⟩ := hcut
     have hwc' := hwc.symm
     clear hwc
     subst hwc'
     go_upto_if 58 with fail
     go_cut [] from 39 to 74 (fun wx => ∃ a b c : Int, Bk wx wr.heap.size 102 #[.int .i64 tk, .int .i64 a, .int .i64 b, .int .i64 c] ∧ RdB wx R (P + 5 + 3 * k + 3) ∧ Turned R wr wx)
     case first =>
      cases q with
      | false =>
       go_wp2
       go_meet
       case rel => exact ⟨0, 0, 0, FV.out, RV.out.mono (by omega), TV.out⟩
      | true =>
       go_wp2_with fail
       refine (l20Rd_pick R _ 3 _ RV.out (by omega) (by omega)).mono ?_
       rintro e w7 ⟨v7, rfl, _, _, _, hr7, ht7⟩
       have F7 := Lib.hid (FV.out.turned ht7 (by omega))
       have T7 := Lib.hid (TV.out.trans ht7)
       have R7 := Lib.hid hr7
       clear hr7 ht7
       go_wp2_with fail
       refine (l20Rd_pick R _ 3 _ R7.out (by omega) (by omega)).mono ?_
       rintro e w8 ⟨v8, rfl, _, _, _, hr8, ht8⟩
       have F8 := Lib.hid (F7.out.turned ht8 (by omega))
       have T8 := Lib.hid (T7.out.trans ht8)
       have R8 := Lib.hid hr8
       clear hr8 ht8
       go_wp2_with fail
       refine (l20Rd_pick R _ 5 _ R8.out (by omega) (by omega)).mono ?_
       rintro e w9 ⟨v9, rfl, hv90, hv91, _, hr9, ht9⟩
       have F9 := Lib.hid (F8.out.turned ht9 (by omega))
       have T9 := Lib.hid (T8.out.trans ht9)
       have R9 := Lib.hid hr9
       clear hr9 ht9
       have kF := fun i => F9.out.cell i
       have fF := fun i => F9.out.frozen i
       go_wp2
       go_meet
       case rel => exact ⟨_, _, _, ((F9.out.set 1 _).set 2 _).set 3 _, (R9.out.low (show Below wr.heap.size w9 _ by go_grown) (by omega)).mono (by omega), T9.out.trans' (by go_grown)⟩
     case rest =>
      obtain ⟨a, b, c, hF, hr, ht⟩ := hcut
      have BEx := Lib.hid (BE.out.turned ht (by omega))
      have BNx := Lib.hid (BN.out.turned ht (by omega))
      have OWx := Lib.hid (OWr.out.kept (Kept.of_turned ht (by omega)))
      have Tx := Lib.hid ht
      have Rx := Lib.hid hr
      have kF := fun i => hF.cell i
      have kE := fun i => BEx.out.cell i
      have fE := fun i => BEx.out.frozen i
      have sx := ht.size
      clear hF hr ht
      go_wp2_with (at_builtin; refine append_C rfl (.tmp 70) (.tmp 72) 97 rfl flowC 102 _ 32 Try.underlying97 info_flow rfl (by decide) (by decide) (E + 1) _ outs rfl (OWx.out.later ((Below.refl _ _).alloc (Nat.le_refl _) _)) ⟨tk, ⟨a, b, c⟩⟩ _ (E + 1) 0 rfl (Nat.le_refl _) (Nat.zero_le _) (fun _ _ => .inr (Nat.zero_le _)) wc.heap.size rfl (fun j u hu => by rw [Bk.cell (Bk.new rfl)]; simpa [GFlow.cells] using hu) (by simp [GFlow.cells, Value.oneCell']) (by omega) (by simp; omega) ?_; intro v' w4 hown hg4 hb4; obtain ⟨A4, c4, hv4, _⟩ := hown.rows (by simp; omega); subst hv4; have G4 := Lib.hid hg4; have O4 := Lib.hid hown; have B4 := Lib.hid hb4; have bE4 := (hb4.block E (by omega)).trans (BEx.out.alloc (.cells #[.int .i64 tk, .int .i64 a, .int .i64 b, .int .i64 c] 102)); have BE4 : Hid (Bk w4 E 99 _) := bE4; have kE := fun i => BE4.out.cell i; have fE := fun i => BE4.out.frozen i; clear hown hg4 hb4 bE4)
      go_roundg (tos.length - (k + 1))
      case measure => omega
      case rel =>
       refine ⟨k + 1, by omega, by omega, by go_num, _, role, apart, all, need, outs ++ [⟨tk, ⟨a, b, c⟩⟩], by simp; omega, ?_, BE4.out.set 3 _, by have h := O4.out.kept (Kept.setCell (p := ⟨E, 3, none⟩) (by show E < E + 1; omega) (.slice A4 (k + 1) c4)); simp only [List.length_append, List.length_cons, List.length_nil, hok] at h; exact h, ?_, ?_⟩
       ·
        exact Bk.far ((B4.out.block w.heap.size (by omega)).trans (BNx.out.alloc _)) (p := ⟨E, 3, none⟩) (by show w.heap.size ≠ E; omega) _
       ·
        exact (((Rx.out.low ((Below.refl _ _).alloc (Nat.le_refl _) _) Rx.out.lt).low B4.out (by omega)).low ((Below.refl E w4).setCell (p := ⟨E, 3, none⟩) (Nat.le_refl _) _) (by omega)).mono (by omega)
       ·
        exact ((((TWr.out.trans Tx.out).alloc _).grown G4.out (fun g hg => by have := (OWx.out.lt g hg).1; omega))).trans' ((Below.refl w.heap.size w4).setCell (p := ⟨E, 3, none⟩) (by show w.heap.size ≤ E; omega) _)
   ·
    have hltz : ¬ (k : Int) < (tos.length : Int) := by omega
    obtain ⟨A3, c3, rfl, hrow⟩ := OW.rows (by omega)
    have HROW := Lib.hid hrow
    have HIN := Lib.hid (H1.out.keep (tW.agree (by omega) (Nat.le_refl _)))
    unfold zeroTask at bN
    have kE := fun i => bE.cell i
    have kN := fun i => bN.cell i
    have fN := fun i => bN.frozen i
    have BN := Lib.hid bN
    have RWr := Lib.hid rW
    have TWr := Lib.hid tW
    clear bN bE OW rW tW SW S7 hrow
    go_wp2
    generalize hV : (((((((((wr.setCell _ _).setCell _ _).setCell _ _).setCell _ _).setCell _ _).setCell _ _).setCell _ _).setCell _ _).setCell _ _) = V
    have bV : Bk V w.heap.size 99 #[.int .i64 join, .int .i64 split, .slice A1 ins.length c1, .slice A3 k c3, .slice none 0 0, .int .i64 role, .int .i64 apart, .int .i64 all, .int .i64 need] := by rw [← hV]; exact (((((((((BN.out.set 0 _).set 1 _).set 2 _).set 3 _).set 4 _).set 5 _).set 6 _).set 7 _).set 8 _)
    have rV : RdB V R (P + 20) := (RWr.out.low (B := w.heap.size) (by rw [← hV]; go_grown) hR).mono (by omega)
    have bel : Below w.heap.size wr V := by rw [← hV]; go_grown
    have tV : Turned R w V := TWr.out.trans' bel
    have hOut : Rows flowC (some lo) V V.heap.size A3 outs := ((HROW.out.keep (by rw [← hV]; exact ((((((((((Agree.refl (some (E + 1)) wr.heap.size wr).set (by show w.heap.size < E + 1; omega) _).set (by show w.heap.size < E + 1; omega) _).set (by show w.heap.size < E + 1; omega) _).set (by show w.heap.size < E + 1; omega) _).set (by show w.heap.size < E + 1; omega) _).set (by show w.heap.size < E + 1; omega) _).set (by show w.heap.size < E + 1; omega) _).set (by show w.heap.size < E + 1; omega) _).set (by show w.heap.size < E + 1; omega) _))).more bel.size).weak (Weaker.some (by omega))
    have hIn : Rows intC (some lo) V V.heap.size A1 ins := ((HIN.out.below bel).more (Nat.le_trans sw bel.size))
    have HR1 := Lib.hid rV
    have HT1 := Lib.hid tV
    have HO1 := Lib.hid hOut
    have HI1 := Lib.hid hIn
    clear rV bel tV hOut hIn hV
    have k1 := fun i => bV.cell i
    refine bodyPost_ret (v := .agg #[.int .i64 join, .int .i64 split, .slice A1 ins.length c1, .slice A3 k c3, .slice none 0 0, .int .i64 role, .int .i64 apart, .int .i64 all, .int .i64 need]) (by simp [results, Try.results75, go_sem, k1]) rfl ?_
    refine ⟨⟨join, split, ins, outs, [], role, apart, all, need⟩, [.int .i64 join, .int .i64 split, .slice A1 ins.length c1, .slice A3 k c3, .slice none 0 0, .int .i64 role, .int .i64 apart, .int .i64 all, .int .i64 need], rfl, ⟨A1, c1, A3, c3, none, 0, ?_, HI1.out, HO1.out, Rows.nil⟩, HR1.out, HT1.out⟩
    rw [show outs.length = k from hok]
    rfl
end Go.Proofs.Ytjieilicjdoaaaa
