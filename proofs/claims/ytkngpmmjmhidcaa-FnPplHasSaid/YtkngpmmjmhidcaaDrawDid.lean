/- What was done, drawn: the reader opened; l20Did. -/
import Derived.Test.YtkngpmmjmhidcaaPick
import Derived.Test.YtkngpmmjmhidcaaAppRow
import Derived.Test.YtkngpmmjmhidcaaDid
namespace Go.Proofs.Ytkngpmmjmhidcaa
open Go.RowKit

/-- What opening a reader leaves. -/
def Opened (w : World) (e : Ending) (w' : World) : Prop := e = .returned (.pointer (some ⟨w.heap.size, 0, none⟩)) ∧ RdB w' w.heap.size 0 ∧ Below w.heap.size w w'

theorem take_bytes {w : World} {B : Nat} {A : Option Addr} {xs : List Int} (h : Bytes w B A xs) (n : Nat) : Bytes w B A (xs.take n) :=
  ⟨by rw [List.length_take]; have := h.1; omega, (fun h0 => by
    obtain ⟨b, off, hA, hb, hc⟩ := h.2.1 (by rw [List.length_take] at h0; omega)
    refine ⟨b, off, hA, hb, fun j x hx => hc j x ?_⟩
    rw [List.getElem?_take] at hx
    split at hx
    · exact hx
    · cases hx), fun x hx => h.2.2 x (List.mem_of_mem_take hx)⟩

theorem l20Open (A : Option Addr) (c : Nat) (xs : List Int) (w : World) (h : Code w w.heap.size A c xs) :
    Calls Try.prog 63 #[.slice A xs.length c] w (Opened w) := by
  obtain ⟨h1, h2⟩ := h
  have hl := h1.1
  have HB := Lib.hid h1
  clear h1
  by_cases hx : 2000 < xs.length
  · have hxz : (2000 : Int) < (xs.length : Int) := by omega
    go_enter Try.func63, Try.ntmps63
    go_wp2
    go_ret
    refine ⟨rfl, ?_, by go_grown⟩
    have b0 : Bk (w.alloc (.cells #[.slice A 2000 c, .int .i64 0] 115)) w.heap.size 115 #[.slice A 2000 c, .int .i64 0] := Bk.new rfl
    have hl2 : (xs.take 2000).length = 2000 := by rw [List.length_take]; omega
    exact ⟨0, Nat.le_refl _, A, c, xs.take 2000, by omega, (take_bytes HB.out 2000).keep fun b hb => Below.heap_alloc _ _ _ hb, by rw [hl2]; exact b0.cell 0, b0.cell 1, fun i => b0.frozen i, Int.le_refl _, b0.lt⟩
  · have hxz : ¬ (2000 : Int) < (xs.length : Int) := by omega
    go_enter Try.func63, Try.ntmps63
    go_wp2
    go_ret
    refine ⟨rfl, ?_, by go_grown⟩
    have b0 : Bk (w.alloc (.cells #[.slice A xs.length c, .int .i64 0] 115)) w.heap.size 115 #[.slice A xs.length c, .int .i64 0] := Bk.new rfl
    exact ⟨0, Nat.le_refl _, A, c, xs, by omega, HB.out.keep fun b hb => Below.heap_alloc _ _ _ hb, b0.cell 0, b0.cell 1, fun i => b0.frozen i, Int.le_refl _, b0.lt⟩

/-- What drawing a slice of structs leaves: some data, no more than n, in memory of the call's own. -/
def Drawn {α : Type} (C : Cod α) (R Q n : Nat) (w : World) (e : Ending) (w' : World) : Prop :=
  ∃ A c xs, e = .returned (.slice A xs.length c) ∧ xs.length ≤ n ∧ Rows C (some w.heap.size) w' w'.heap.size A xs ∧ RdB w' R Q ∧ Turned R w w'

theorem Kept.of_turned {R base : Nat} {w w' : World} (h : Turned R w w') (hR : R < base) : Kept base w w' := ⟨h.size, fun b hb hlo => h.block b hb (by omega)⟩
theorem info_did : (Try.prog.info? 32).map (fun i => (i.zero, i.size, i.bytes)) = some (some (.agg #[.int .i64 0, .int .i64 0]), 2, 16) := by kernel_rfl

set_option maxHeartbeats 1000000 in
theorem l20Did (R P : Nat) (w : World) (h : RdB w R P) (hP : P ≤ 900000) :
    Calls Try.prog 64 #[.pointer (some ⟨R, 0, none⟩)] w (Drawn didC R (P + 20) 4 w) := by
  have HR := Lib.hid h
  have HRlt := Lib.hid h.lt
  clear h
  go_enter Try.func64, Try.ntmps64
  go_wp2_with fail
  refine (l20Rd_pick R P 5 _ (HR.out.low (by go_grown) HRlt.out) (by omega) (by omega)).mono ?_
  rintro e w1 ⟨v, rfl, hv0, hv1, _, hr1, ht1⟩
  have K0 := Lib.hid ((OwnC.made (C := didC) (e := 32) (base := w.heap.size) (w := w) (Nat.le_refl _) 0 #[] (by decide) rfl).kept (Kept.of_turned ht1 HRlt.out))
  have T0 := Lib.hid ((Turned.of_below (by go_grown)).trans ht1 : Turned R w w1)
  have R0 := Lib.hid hr1
  have hv4 : v ≤ 4 := by omega
  clear hr1 ht1 hv1
  go_wp2
  go_loopg [3, 4] 4 (fun gg s3 s4 wr => ∃ (k : Nat) (xs : List GDid), k ≤ 4 ∧ k ≤ gg ∧ xs.length + k ≤ 4 ∧ s4 = .int .i64 k ∧ Aside (OwnC didC 32 wr w.heap.size s3 xs) ∧ Aside (Turned R w wr) ∧ Aside (RdB wr R (P + 1 + 2 * xs.length)))
  case atStart => exact ⟨v.toNat, [], by omega, by omega, by simp; omega, by simp; omega, K0.out, T0.out, R0.out⟩
  case round =>
    obtain ⟨k, xs, hk, hg, hx, rfl, OW, TW, RW⟩ := hrel
    by_cases hlt : 0 < k
    · have hltz : (0 : Int) < (k : Int) := by omega
      go_wp2_with fail
      refine (l20Rd_pick R _ 4 _ RW.out (by omega) (by omega)).mono ?_
      rintro e w2 ⟨v1, rfl, hv10, hv11, _, hr2, ht2⟩
      have OW2 := Lib.hid (OW.out.kept (Kept.of_turned ht2 HRlt.out))
      have TW2 := Lib.hid (TW.out.trans ht2)
      have RW2 := Lib.hid hr2
      clear hr2 ht2
      go_wp2_with fail
      refine (l20Rd_pick R _ 3 _ RW2.out (by omega) (by omega)).mono ?_
      rintro e w3 ⟨v2, rfl, hv20, hv21, _, hr3, ht3⟩
      have OW3 := Lib.hid (OW2.out.kept (Kept.of_turned ht3 HRlt.out))
      have TW3 := Lib.hid (TW2.out.trans ht3)
      have RW3 := Lib.hid hr3
      have hsz3 := TW3.out.size
      clear hr3 ht3
      go_wp2_with (at_builtin; refine append_C rfl (.tmp 12) (.tmp 19) 27 rfl didC 32 _ 16 Try.underlying27 info_did rfl (by decide) (by decide) w.heap.size _ xs rfl (OW3.out.later ((Below.refl _ _).alloc (Nat.le_refl _) _)) ⟨v1, 1 + v2⟩ _ w.heap.size 0 rfl (Nat.le_refl _) (Nat.zero_le _) (fun _ _ => .inr (Nat.zero_le _)) w3.heap.size rfl (fun j u hu => by rw [Bk.cell (Bk.new rfl)]; simpa [GDid.cells] using hu) (by simp [GDid.cells, Value.oneCell']) (by omega) (by simp; omega) ?_; intro v' w4 hown hg4 hb4; have OW4 := Lib.hid hown; have G4 := Lib.hid hg4; have B4 := Lib.hid hb4; clear hown hg4 hb4)
      go_roundg (k - 1)
      case measure => omega
      case rel => exact ⟨k - 1, xs ++ [GDid.mk v1 (1 + v2)], by omega, by omega, by simp; omega, by go_num, OW4.out, (TW3.out.alloc _).grown G4.out (fun g hg => (OW3.out.lt g hg).1), by show RdB _ _ _; simpa [Nat.mul_add, Nat.add_assoc] using (RW3.out.low ((Below.refl _ _).alloc (Nat.le_refl _) _) RW3.out.lt).low B4.out HRlt.out⟩
    · have hltz : ¬ (0 : Int) < (k : Int) := by omega
      go_wp2
      go_ret
      obtain ⟨A, c, rfl, hr⟩ := OW.out.rows (by omega)
      exact ⟨A, c, xs, rfl, by omega, hr, RW.out.mono (by omega), TW.out⟩

/-- What drawing data, somebody and a task leaves. -/
theorem DrawPplDid (A : Option Addr) (c : Nat) (xs : List Int) (w : World) (h : Code w w.heap.size A c xs) :
    Calls Try.prog 19 #[.slice A xs.length c] w fun e w' => ∃ A' c' ds who task, e = .returned (.tuple #[.slice A' (List.length (α := GDid) ds) c', .int .i64 who, .int .i64 task]) ∧ ds.length ≤ 4 ∧ Rows didC none w' w'.heap.size A' ds ∧ 0 ≤ who ∧ who ≤ 4 ∧ -1 ≤ task ∧ task ≤ 3 ∧ Below w.heap.size w w' := by
  have HC := Lib.hid h
  clear h
  go_enter Try.func19, Try.ntmps19
  go_wp2_with fail
  refine (l20Open A c xs w HC.out).mono ?_
  rintro e w1 ⟨rfl, hr1, hb1⟩
  have R1 := Lib.hid hr1
  have B1 := Lib.hid hb1
  clear hr1 hb1
  go_wp2_with fail
  refine (l20Did _ _ _ R1.out (by omega)).mono ?_
  rintro e w2 ⟨A', c', ds, rfl, hd4, hrow, hr2, ht2⟩
  have D2 := Lib.hid hrow
  have R2 := Lib.hid hr2
  have T2 := Lib.hid ht2
  have s1 := R1.out.lt
  have s2 := ht2.size
  clear hrow hr2 ht2
  go_wp2_with fail
  refine (l20Rd_pick _ _ 5 _ R2.out (by omega) (by omega)).mono ?_
  rintro e w3 ⟨v1, rfl, hv10, hv11, _, hr3, ht3⟩
  have D3 := Lib.hid ((D2.out.keep (ht3.agree s1 (Nat.le_refl _))).more ht3.size)
  have R3 := Lib.hid hr3
  have T3 := Lib.hid (T2.out.trans ht3)
  clear hr3 ht3
  go_wp2_with fail
  refine (l20Rd_pick _ _ 5 _ R3.out (by omega) (by omega)).mono ?_
  rintro e w4 ⟨v2, rfl, hv20, hv21, _, hr4, ht4⟩
  have D4 := Lib.hid ((D3.out.keep (ht4.agree s1 (Nat.le_refl _))).more ht4.size)
  have T4 := Lib.hid (B1.out.trans ((T3.out.trans ht4).below (Nat.le_refl _) B1.out.size))
  clear hr4 ht4
  go_wp2
  refine bodyPost_ret (v := .tuple #[.slice A' ds.length c', .int .i64 v1, .int .i64 (v2 - 1)]) (by simp [results, Try.results19, go_sem]) rfl ?_
  exact ⟨A', c', ds, v1, v2 - 1, rfl, hd4, D4.out.weak (Weaker.none _), hv10, by omega, by omega, by omega, T4.out⟩
end Go.Proofs.Ytkngpmmjmhidcaa
