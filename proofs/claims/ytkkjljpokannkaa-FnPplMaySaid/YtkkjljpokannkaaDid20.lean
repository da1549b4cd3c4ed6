/- What was done, drawn: l20Did, alone. -/
import Derived.Test.YtkkjljpokannkaaDraw0
import Derived.Test.YtkkjljpokannkaaAppRow
namespace Go.Proofs.Ytkkjljpokannkaa
open Go.RowKit

theorem info_did : (Try.prog.info? 83).map (fun i => (i.zero, i.size, i.bytes)) = some (some (.agg #[.int .i64 0, .int .i64 0]), 2, 16) := by kernel_rfl

set_option maxHeartbeats 1000000 in
theorem l20Did (R P : Nat) (w : World) (h : RdB w R P) (hP : P ≤ 900000) :
    Calls Try.prog 129 #[.pointer (some ⟨R, 0, none⟩)] w (Drawn didC R (P + 20) 4 w) := by
  have HR := Lib.hid h
  have HRlt := Lib.hid h.lt
  clear h
  go_enter Try.func129, Try.ntmps129
  go_wp2_with fail
  refine (l20Rd_pick R P 5 _ (HR.out.low (by go_grown) HRlt.out) (by omega) (by omega)).mono ?_
  rintro e w1 ⟨v, rfl, hv0, hv1, _, hr1, ht1⟩
  have K0 := Lib.hid ((OwnC.made (C := didC) (e := 83) (base := w.heap.size) (w := w) (Nat.le_refl _) 0 #[] (by decide) rfl).kept (Kept.of_turned ht1 HRlt.out))
  have T0 := Lib.hid ((Turned.of_below (by go_grown)).trans ht1 : Turned R w w1)
  have R0 := Lib.hid hr1
  have hv4 : v ≤ 4 := by omega
  clear hr1 ht1 hv1
  go_wp2
  go_loopg [3, 4] 4 (fun gg s3 s4 wr => ∃ (k : Nat) (xs : List GDid), k ≤ 4 ∧ k ≤ gg ∧ xs.length + k ≤ 4 ∧ s4 = .int .i64 k ∧ Aside (OwnC didC 83 wr w.heap.size s3 xs) ∧ Aside (Turned R w wr) ∧ Aside (RdB wr R (P + 1 + 2 * xs.length)))
  case atStart => exact ⟨v.toNat, [], by omega, by omega, by simp; omega, by simp; omega, K0.out, T0.out, R0.out⟩
  case round =>
    obtain ⟨k, xs, hk, hg, hx, rfl, OW, TW, RW⟩ := hrel
    by_cases hlt : 0 < k
    · have hltz : (0 : Int) < (k : Int) := by omega
      go_wp2_with fail
      refine (l20Rd_pick R _ 4 _ RW.out (by omega) (by omega)).mono ?_
      rintro e w2 ⟨v1, rfl, hv10, hv11, _, hr2, ht2⟩
      have OW2 := Lib.hid (OW.out.kept (Kept.of_turned ht2 HRlt.out))
      have TW2 := Lib.hid (TW.out.trans ht2)
      have RW2 := Lib.hid hr2
      clear hr2 ht2
      go_wp2_with fail
      refine (l20Rd_pick R _ 3 _ RW2.out (by omega) (by omega)).mono ?_
      rintro e w3 ⟨v2, rfl, hv20, hv21, _, hr3, ht3⟩
      have OW3 := Lib.hid (OW2.out.kept (Kept.of_turned ht3 HRlt.out))
      have TW3 := Lib.hid (TW2.out.trans ht3)
      have RW3 := Lib.hid hr3
      have hsz3 := TW3.out.size
      clear hr3 ht3
      go_wp2_with (at_builtin; refine append_C rfl (.tmp 12) (.tmp 19) 61 rfl didC 83 _ 16 Try.underlying61 info_did rfl (by decide) (by decide) w.heap.size _ xs rfl (OW3.out.later ((Below.refl _ _).alloc (Nat.le_refl _) _)) ⟨v1, 1 + v2⟩ _ w.heap.size 0 rfl (Nat.le_refl _) (Nat.zero_le _) (fun _ _ => .inr (Nat.zero_le _)) w3.heap.size rfl (fun j u hu => by rw [Bk.cell (Bk.new rfl)]; simpa [GDid.cells] using hu) (by simp [GDid.cells, Value.oneCell']) (by omega) (by simp; omega) ?_; intro v' w4 hown hg4 hb4; have OW4 := Lib.hid hown; have G4 := Lib.hid hg4; have B4 := Lib.hid hb4; clear hown hg4 hb4)
      go_roundg (k - 1)
      case measure => omega
      case rel => exact ⟨k - 1, xs ++ [GDid.mk v1 (1 + v2)], by omega, by omega, by simp; omega, by go_num, OW4.out, (TW3.out.alloc _).grown G4.out (fun g hg => (OW3.out.lt g hg).1), by show RdB _ _ _; simpa [Nat.mul_add, Nat.add_assoc] using (RW3.out.low ((Below.refl _ _).alloc (Nat.le_refl _) _) RW3.out.lt).low B4.out HRlt.out⟩
    · have hltz : ¬ (0 : Int) < (k : Int) := by omega
      go_wp2
      go_ret
      obtain ⟨A, c, rfl, hr⟩ := OW.out.rows (by omega)
      exact ⟨A, c, xs, rfl, by omega, hr, RW.out.mono (by omega), TW.out⟩
end Go.Proofs.Ytkkjljpokannkaa
