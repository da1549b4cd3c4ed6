/- A case's copy marked: it turns nothing but its own rows. -/
import Derived.Test.YtkoaaagmcjjimaaCopyCase
import Derived.Test.YtkoaaagmcjjimaaIntAt
namespace Go.Proofs.Ytkoaaagmcjjimaa
open Go.RowKit

set_option maxHeartbeats 1000000 in
theorem mark_dids (A : Option Addr) (c : Nat) (len : Nat) (k : Int) (w : World) (lo hi : Nat) (h : 0 < len → ∃ g off, A = some ⟨g, off, none⟩ ∧ IntAt w g off (len * 2) ∧ lo ≤ g ∧ g < hi) (hl : len ≤ 16777216) (hk0 : 0 ≤ k) (hk : k ≤ 4611686018427387904) :
    Calls Try.prog 152 #[.slice A len c, .int .i64 k] w (MarkedK lo hi (k + len * 2) w) := by
  have HH := Lib.hid h
  clear h
  go_enter Try.func152, Try.ntmps152
  go_wp2
  go_loopg [1, 5] len (fun gg s1 s5 wr => ∃ j : Nat, j ≤ len ∧ len - j ≤ gg ∧ s5 = .int .i64 j ∧ s1 = .int .i64 (k + j * 2) ∧ Aside (Inside lo hi w wr) ∧ Aside (∀ g o n, IntAt w g o n → IntAt wr g o n))
  case atStart => exact ⟨0, Nat.zero_le _, by omega, rfl, by simp, Inside.refl _ _ _, fun _ _ _ h => h⟩
  case round =>
    obtain ⟨j, hj, hg, rfl, rfl, IN, IK⟩ := hrel
    by_cases hlt : j < len
    · have hltz : (j : Int) < (len : Int) := by omega
      obtain ⟨g, off, rfl, hR0, hlo, hhi⟩ := HH.out (by omega)
      have hR := IK.out _ _ _ hR0
      obtain ⟨z0, hz0⟩ : ∃ z, wr.cell? ⟨g, off + j * 2, none⟩ = some (.int .i64 z) := by have h := hR.2 (j * 2) (by omega); exact h
      obtain ⟨z1, hz1⟩ : ∃ z, wr.cell? ⟨g, off + j * 2 + 1, none⟩ = some (.int .i64 z) := by have h := hR.2 (j * 2 + 1) (by omega); rwa [← Nat.add_assoc] at h
      have hfr := fun i => hR.frozen i
      have HI := Lib.hid ((IN.out.trans (Inside.setCell (p := ⟨g, off + j * 2, none⟩) hlo hhi (.int .i64 (k + j * 2)))).trans (Inside.setCell (p := ⟨g, off + j * 2 + 1, none⟩) hlo hhi (.int .i64 (k + j * 2 + 1))))
      have HK := Lib.hid (fun g' o' n' hg' => ((IK.out g' o' n' hg').any ⟨g, off + j * 2, none⟩ rfl (k + j * 2)).any ⟨g, off + j * 2 + 1, none⟩ rfl (k + j * 2 + 1))
      clear hR hR0
      go_wp2
      go_roundg (len - (j + 1))
      case measure => omega
      case rel => exact ⟨j + 1, by omega, by omega, by go_num, by go_num, HI.out, HK.out⟩
    · have hltz : ¬ (j : Int) < (len : Int) := by omega
      have he : j = len := by omega
      have HE := Lib.hid he
      clear he
      go_wp2
      go_ret
      exact ⟨by rw [HE.out]; rfl, IN.out, IK.out⟩

set_option maxHeartbeats 1000000 in
theorem mark_items (A : Option Addr) (c : Nat) (len : Nat) (k : Int) (w : World) (lo hi : Nat) (h : 0 < len → ∃ g off, A = some ⟨g, off, none⟩ ∧ IntAt w g off (len * 3) ∧ lo ≤ g ∧ g < hi) (hl : len ≤ 16777216) (hk0 : 0 ≤ k) (hk : k ≤ 4611686018427387904) :
    Calls Try.prog 151 #[.slice A len c, .int .i64 k] w (MarkedK lo hi (k + len * 3) w) := by
  have HH := Lib.hid h
  clear h
  go_enter Try.func151, Try.ntmps151
  go_wp2
  go_loopg [1, 5] len (fun gg s1 s5 wr => ∃ j : Nat, j ≤ len ∧ len - j ≤ gg ∧ s5 = .int .i64 j ∧ s1 = .int .i64 (k + j * 3) ∧ Aside (Inside lo hi w wr) ∧ Aside (∀ g o n, IntAt w g o n → IntAt wr g o n))
  case atStart => exact ⟨0, Nat.zero_le _, by omega, rfl, by simp, Inside.refl _ _ _, fun _ _ _ h => h⟩
  case round =>
    obtain ⟨j, hj, hg, rfl, rfl, IN, IK⟩ := hrel
    by_cases hlt : j < len
    · have hltz : (j : Int) < (len : Int) := by omega
      obtain ⟨g, off, rfl, hR0, hlo, hhi⟩ := HH.out (by omega)
      have hR := IK.out _ _ _ hR0
      obtain ⟨z0, hz0⟩ : ∃ z, wr.cell? ⟨g, off + j * 3, none⟩ = some (.int .i64 z) := by have h := hR.2 (j * 3) (by omega); exact h
      obtain ⟨z1, hz1⟩ : ∃ z, wr.cell? ⟨g, off + j * 3 + 1, none⟩ = some (.int .i64 z) := by have h := hR.2 (j * 3 + 1) (by omega); rwa [← Nat.add_assoc] at h
      obtain ⟨z2, hz2⟩ : ∃ z, wr.cell? ⟨g, off + j * 3 + 2, none⟩ = some (.int .i64 z) := by have h := hR.2 (j * 3 + 2) (by omega); rwa [← Nat.add_assoc] at h
      have hfr := fun i => hR.frozen i
      have HI := Lib.hid (((IN.out.trans (Inside.setCell (p := ⟨g, off + j * 3, none⟩) hlo hhi (.int .i64 (k + j * 3)))).trans (Inside.setCell (p := ⟨g, off + j * 3 + 1, none⟩) hlo hhi (.int .i64 (k + j * 3 + 1)))).trans (Inside.setCell (p := ⟨g, off + j * 3 + 2, none⟩) hlo hhi (.int .i64 (k + j * 3 + 1 + 1))))
      have HK := Lib.hid (fun g' o' n' hg' => (((IK.out g' o' n' hg').any ⟨g, off + j * 3, none⟩ rfl (k + j * 3)).any ⟨g, off + j * 3 + 1, none⟩ rfl (k + j * 3 + 1)).any ⟨g, off + j * 3 + 2, none⟩ rfl (k + j * 3 + 1 + 1))
      clear hR hR0
      go_wp2
      go_roundg (len - (j + 1))
      case measure => omega
      case rel => exact ⟨j + 1, by omega, by omega, by go_num, by go_num, HI.out, HK.out⟩
    · have hltz : ¬ (j : Int) < (len : Int) := by omega
      have he : j = len := by omega
      have HE := Lib.hid he
      clear he
      go_wp2
      go_ret
      exact ⟨by rw [HE.out]; rfl, IN.out, IK.out⟩

theorem dids_at {lo B : Nat} {w : World} {A : Option Addr} {xs : List GDid} (h : Rows didC (some lo) w B A xs) (hn : 0 < xs.length) : ∃ g off, A = some ⟨g, off, none⟩ ∧ IntAt w g off (xs.length * 2) ∧ lo ≤ g ∧ g < B :=
  Rows.intAt (k := 2) (cells := GDid.cells) (hk := fun _ => rfl) (fun x i hi => by
    rcases (by omega : i = 0 ∨ i = 1) with rfl | rfl
    · exact ⟨_, rfl⟩
    · exact ⟨_, rfl⟩) (by decide) h hn
theorem items_at {lo B : Nat} {w : World} {A : Option Addr} {xs : List GItem} (h : Rows itemC (some lo) w B A xs) (hn : 0 < xs.length) : ∃ g off, A = some ⟨g, off, none⟩ ∧ IntAt w g off (xs.length * 3) ∧ lo ≤ g ∧ g < B :=
  Rows.intAt (k := 3) (cells := GItem.cells) (hk := fun _ => rfl) (fun x i hi => by
    rcases (by omega : i = 0 ∨ i = 1 ∨ i = 2) with rfl | rfl | rfl
    · exact ⟨_, rfl⟩
    · exact ⟨_, rfl⟩
    · exact ⟨_, rfl⟩) (by decide) h hn

set_option maxHeartbeats 1000000 in
theorem laws_markCasCase (x : GCase) (A1 A2 A3 A4 : Option Addr) (c1 c2 c3 c4 : Nat) (k : Int) (w : World) (lo hi : Nat) (hhi : hi ≤ w.heap.size)
    (h1 : Rows intC (some lo) w hi A1 x.marks) (h2 : Rows itemC (some lo) w hi A2 x.busy) (h3 : Rows intC (some lo) w hi A3 x.data) (h4 : Rows didC (some lo) w hi A4 x.did)
    (l1 : x.marks.length ≤ 1048576) (l2 : x.busy.length ≤ 1048576) (l3 : x.data.length ≤ 1048576) (l4 : x.did.length ≤ 1048576) (hk0 : 0 ≤ k) (hk : k ≤ 1000) :
    Calls Try.prog 75 #[.agg #[.int .i64 x.state, .slice A1 x.marks.length c1, .slice A2 x.busy.length c2, .slice A3 x.data.length c3, .slice A4 x.did.length c4], .int .i64 k] w
      fun e w' => e = .returned (.int .i64 (k + x.marks.length + x.busy.length * 3 + x.data.length + x.did.length * 2)) ∧ InsideG lo hi w w' := by
  have P1 := Lib.hid (fun hn => ints_at h1 hn)
  have P2 := Lib.hid (fun hn => items_at h2 hn)
  have P3 := Lib.hid (fun hn => ints_at h3 hn)
  have P4 := Lib.hid (fun hn => dids_at h4 hn)
  clear h1 h2 h3 h4
  go_enter Try.func75, Try.ntmps75
  go_wp2_with fail
  refine callsAt fun W hW => ?_
  have b0 : Bk W w.heap.size 63 #[.int .i64 x.state, .slice A1 x.marks.length c1, .slice A2 x.busy.length c2, .slice A3 x.data.length c3, .slice A4 x.did.length c4] := by rw [hW]; exact Bk.new rfl
  have hB : Below w.heap.size w W := by rw [hW]; exact (Below.refl _ _).alloc (Nat.le_refl _) _
  clear hW
  refine (mark_ints A1 c1 x.marks.length k W lo hi (fun hn => by obtain ⟨g, o, e1, e2, e3, e4⟩ := P1.out hn; exact ⟨g, o, e1, e2.later hB (by omega), e3, e4⟩) (by omega) hk0 (by omega)).mono ?_
  rintro e w1 ⟨rfl, in1, k1⟩
  have b1 : Bk w1 w.heap.size 63 _ := (in1.block w.heap.size (.inr hhi)).trans b0
  have HB := Lib.hid hB
  have I1 := Lib.hid in1
  have K1 := Lib.hid k1
  have B1 := Lib.hid b1
  have kk := fun i => b1.cell i
  clear hB in1 k1 b1 b0
  go_wp2_with fail
  refine (mark_items A2 c2 x.busy.length _ w1 lo hi (fun hn => by obtain ⟨g, o, e1, e2, e3, e4⟩ := P2.out hn; exact ⟨g, o, e1, K1.out _ _ _ (e2.later HB.out (by omega)), e3, e4⟩) (by omega) (by omega) (by omega)).mono ?_
  rintro e w2 ⟨rfl, in2, k2⟩
  have b2 : Bk w2 w.heap.size 63 _ := (in2.block w.heap.size (.inr hhi)).trans B1.out
  have I2 := Lib.hid (I1.out.trans in2)
  have K2 := Lib.hid (fun g o n h => k2 g o n (K1.out g o n h))
  have B2 := Lib.hid b2
  clear kk
  have kk := fun i => b2.cell i
  clear in2 k2 b2
  go_wp2_with fail
  refine (mark_ints A3 c3 x.data.length _ w2 lo hi (fun hn => by obtain ⟨g, o, e1, e2, e3, e4⟩ := P3.out hn; exact ⟨g, o, e1, K2.out _ _ _ (e2.later HB.out (by omega)), e3, e4⟩) (by omega) (by omega) (by omega)).mono ?_
  rintro e w3 ⟨rfl, in3, k3⟩
  have b3 : Bk w3 w.heap.size 63 _ := (in3.block w.heap.size (.inr hhi)).trans B2.out
  have I3 := Lib.hid (I2.out.trans in3)
  have K3 := Lib.hid (fun g o n h => k3 g o n (K2.out g o n h))
  clear kk
  have kk := fun i => b3.cell i
  clear in3 k3 b3
  go_wp2_with fail
  refine (mark_dids A4 c4 x.did.length _ w3 lo hi (fun hn => by obtain ⟨g, o, e1, e2, e3, e4⟩ := P4.out hn; exact ⟨g, o, e1, K3.out _ _ _ (e2.later HB.out (by omega)), e3, e4⟩) (by omega) (by omega) (by omega)).mono ?_
  rintro e w4 ⟨rfl, in4, k4⟩
  have I4 := Lib.hid (I3.out.trans in4)
  clear kk in4 k4
  go_wp2
  go_ret
  exact ⟨rfl, I4.out.os.trans HB.out.os, I4.out.tape.trans HB.out.tape, I4.out.output.trans HB.out.output, by rw [I4.out.size]; exact HB.out.size, fun b hb ho => (I4.out.block b ho).trans (HB.out.block b hb)⟩
end Go.Proofs.Ytkoaaagmcjjimaa

