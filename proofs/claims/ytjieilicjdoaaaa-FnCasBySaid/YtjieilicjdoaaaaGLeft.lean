/- Nets drawn: DrawSndPlain, DrawNetAsks. -/
import Derived.Test.YtjieilicjdoaaaaDrawAny
import Derived.Test.YtjieilicjdoaaaaGNet
import Derived.Test.YtjieilicjdoaaaaCaseD
import Derived.Test.YtjieilicjdoaaaaGCopy
import Derived.Deep.RegionHeld3
import Derived.Outline
namespace Go.Proofs.Ytjieilicjdoaaaa
open Go.RowKit
set_option linter.unusedSimpArgs false
set_option linter.unusedVariables false

theorem turned_below {R B : Nat} {a b c : World} (h1 : Below B a b) (h2 : Turned R b c) (hR : B ≤ R) (hB : B ≤ a.heap.size) : Below B a c := h1.trans (h2.below hR (Nat.le_trans hB h1.size))
theorem Code.later {w w' : World} {A : Option Addr} {c : Nat} {xs : List Int} (h : Code w w.heap.size A c xs) (hb : Below w.heap.size w w') : Code w' w'.heap.size A c xs :=
 ⟨⟨h.1.1, fun hl => by
  obtain ⟨b, off, hA, hB, hc⟩ := h.1.2.1 hl
  exact ⟨b, off, hA, by have := hb.size; omega, fun j x hx => (hb.cell (p := ⟨b, off + j, none⟩) hB).trans (hc j x hx)⟩, h.1.2.2⟩, h.2⟩

end Go.Proofs.Ytjieilicjdoaaaa

/- A case drawn: DrawCasLeft. -/
namespace Go.Proofs.Ytjieilicjdoaaaa
open Go.RowKit
set_option linter.unusedSimpArgs false
set_option linter.unusedVariables false

/-- A case as a drawing leaves it, seen from outside. -/
def DrawnY (y : GCase) (D1 D4 : Option Addr) (w w' : World) : Prop :=
 Rows intC none w' w'.heap.size D1 y.marks ∧ Rows didC none w' w'.heap.size D4 y.did ∧ y.marks.length ≤ 20 ∧ y.did.length ≤ 200 ∧ Below w.heap.size w w'

set_option maxRecDepth 100000 in
set_option maxHeartbeats 4000000 in
theorem spec_DrawCasLeft (A : Option Addr) (c : Nat) (xs : List Int) (w : World) (h : Code w w.heap.size A c xs) :
  Calls Try.prog 17 #[.slice A xs.length c] w fun e w' => ∃ (y : GCase) (D1 : Option Addr) (j1 : Nat) (D2 : Option Addr) (j2 : Nat) (D3 : Option Addr) (j3 : Nat) (D4 : Option Addr) (j4 : Nat),
   e = .returned (.agg (caseCells y D1 j1 D2 j2 D3 j3 D4 j4)) ∧ DrawnY y D1 D4 w w' := by
 have HC := Lib.hid h
 clear h
 go_enter Try.func17, Try.ntmps17
 go_wp2_with fail
 refine callsAt fun W hW => ?_
 have bN : Bk W w.heap.size 43 #[.int .i64 0, .slice none 0 0, .slice none 0 0, .slice none 0 0, .slice none 0 0] := by rw [hW]; exact Bk.new rfl
 have hB : Below w.heap.size w W := by rw [hW]; exact (Below.refl _ _).alloc (Nat.le_refl _) _
 have hWs : w.heap.size < W.heap.size := by rw [hW]; simp
 have HC1 : Hid (Code W W.heap.size A c xs) := by show Code _ _ _ _ _; exact HC.out.later hB
 clear hW
 refine (l20Open A c xs W HC1.out).mono ?_
 rintro e w1 ⟨rfl, hr1, hb1⟩
 have N1 := Lib.hid (bN.later hb1)
 have B1 := Lib.hid (hB.trans (hb1.mono hB.size))
 have R1 := Lib.hid hr1
 have hRl := hr1.lt
 clear hr1 hb1 bN hB
 go_wp2_with fail
 refine (l21Case _ _ 9 _ R1.out (by omega) (by omega)).mono ?_
 rintro e w2 ⟨na, nA, nn, ncc, Pe, y, D1, j1, D2, j2, D3, j3, D4, j4, rfl, hmk, hdd, hml, hdl, hr2, ht2⟩
 have N2 := Lib.hid (N1.out.turned ht2 (by omega))
 have B2 := Lib.hid (turned_below B1.out ht2 (by omega) (Nat.le_refl _))
 have M2 := Lib.hid (hmk.weak (Weaker.some (by omega : w.heap.size + 1 ≤ W.heap.size + 1)))
 have D2' := Lib.hid (hdd.weak (Weaker.some (by omega : w.heap.size + 1 ≤ W.heap.size + 1)))
 have z2 := ht2.size
 clear hmk hdd hr2 ht2
 go_upto_region 2 with fail
 generalize hW3 : (World.alloc (World.alloc w2 _) _) = w3
 have hb3 : Below w2.heap.size w2 w3 := by rw [← hW3]; exact ((Below.refl _ _).alloc (Nat.le_refl _) _).alloc (by simp) _
 have N3 : Bk w3 w.heap.size 43 #[.int .i64 0, .slice none 0 0, .slice none 0 0, .slice none 0 0, .slice none 0 0] := N2.out.later hb3
 have bC : Bk w3 (w2.heap.size + 1) 43 (caseCells y D1 j1 D2 j2 D3 j3 D4 j4) := by rw [← hW3]; exact Bk.new (by simp)
 have N3h := Lib.hid N3
 have kN := fun i => N3.cell i
 have fN := fun i => N3.frozen i
 have kC := fun i => bC.cell i
 clear hW3 N3
 go_wp2
 generalize hV : World.setCell (World.setCell (World.setCell (World.setCell (World.setCell w3 _ _) _ _) _ _) _ _) _ _ = V
 have N3 := N3h.out
 have bV : Bk V w.heap.size 43 (caseCells y D1 j1 D2 j2 D3 j3 D4 j4) := by rw [← hV]; exact (put5 N3).1
 have hk : Kept (w.heap.size + 1) w2 V := by rw [← hV]; exact kept_trans (Kept.of_below hb3) ((put5 N3).2.1 _ (Nat.lt_succ_self _))
 have tV : Below w.heap.size w V := by rw [← hV]; exact (put5 N3).2.2.1 _ _ (Nat.le_refl _) (B2.out.trans (hb3.mono (by omega)))
 have mV := rows_kept M2.out hk
 have dV := rows_kept D2'.out hk
 clear hV kC kN fN hb3 N3 hk
 have k1 := fun i => bV.cell i
 refine bodyPost_ret (v := .agg (caseCells y D1 j1 D2 j2 D3 j3 D4 j4)) (by simp [results, Try.results17, go_sem, k1]) rfl ?_
 exact ⟨y, D1, j1, D2, j2, D3, j3, D4, j4, rfl, mV.weak (Weaker.none _), dV.weak (Weaker.none _), hml, hdl, tV⟩
end Go.Proofs.Ytjieilicjdoaaaa

/- Slices of ints measured. -/
namespace Go.Proofs.Ytjieilicjdoaaaa
open Go.RowKit

end Go.Proofs.Ytjieilicjdoaaaa

/- A case: how its struct reads, its copies, its comparison, its size. -/
namespace Go.Proofs.Ytjieilicjdoaaaa
open Go.RowKit

end Go.Proofs.Ytjieilicjdoaaaa

/- CasLeft and CasTimes of the program and of the reference. -/
namespace Go.Proofs.Ytjieilicjdoaaaa
open Go.RowKit

/-- The marks outside place 1 among the first k. -/
def leftTo (xs : List Int) : Nat → Int
 | 0 => 0
 | k + 1 => if k = 1 then leftTo xs k else wrap64 (leftTo xs k + xs.getD k 0)
theorem leftTo_one (xs : List Int) (k : Nat) (h : k = 1) : leftTo xs (k + 1) = leftTo xs k := by simp [leftTo, h]
theorem leftTo_other (xs : List Int) (k : Nat) (h : ¬ k = 1) (hk : k < xs.length) : leftTo xs (k + 1) = wrap64 (leftTo xs k + xs[k]) := by
 simp [leftTo, h, hk]

set_option maxHeartbeats 400000 in
theorem impl_CasLeft (x : GCase) (A1 A2 A3 A4 : Option Addr) (c1 c2 c3 c4 : Nat) (m : Option Nat) (w : World) (h1 : Rows intC m w w.heap.size A1 x.marks) :
  Calls Try.prog 18 #[.agg #[.int .i64 x.state, .slice A1 x.marks.length c1, .slice A2 x.busy.length c2, .slice A3 x.data.length c3, .slice A4 x.did.length c4]] w
   fun e w' => e = .returned (.int .i64 (leftTo x.marks x.marks.length)) ∧ Below w.heap.size w w' := by
 have hlen := h1.1
 have HX := Lib.hid h1.ints
 clear h1
 generalize x.marks = xs at *
 go_enter Try.func18, Try.ntmps18
 go_wp2
 generalize hW : w.alloc _ = W
 have HB : Hid (Below w.heap.size w W) := by show Below _ _ _; rw [← hW]; exact (Below.refl _ w).alloc (Nat.le_refl _) _
 clear hW
 go_loopg [3, 4, 5, 9] xs.length (fun gg s3 _ _ s9 wr => ∃ k : Nat, k ≤ xs.length ∧ xs.length - k ≤ gg ∧ s9 = .int .i64 k ∧ s3 = .int .i64 (leftTo xs k) ∧ Aside (W = wr))
 case atStart => exact ⟨0, Nat.zero_le _, by omega, rfl, rfl, rfl⟩
 case round =>
  obtain ⟨k, hk, hg, rfl, rfl, EW⟩ := hrel
  obtain rfl := EW.out
  by_cases hlt : k < xs.length
  ·
   have hltz : (k : Int) < (xs.length : Int) := by omega
   obtain ⟨b, off, rfl, hb, hc0⟩ := HX.out.at_ hlt
   have hc := (HB.out.cell (p := ⟨b, off + k, none⟩) hb).trans hc0
   clear hc0
   by_cases h1 : k = 1
   ·
    have b1 : ((k : Int) != 1) = false := by simp; omega
    have HS := Lib.hid (leftTo_one xs k h1)
    clear h1
    go_wp2
    go_roundg (xs.length - (k + 1))
    case measure => omega
    case rel => exact ⟨k + 1, by omega, by omega, by go_num, by rw [HS.out], rfl⟩
   ·
    have b1 : ((k : Int) != 1) = true := by simp; omega
    have HS := Lib.hid (leftTo_other xs k h1 hlt)
    clear h1
    generalize xs[k] = y at hc HS
    go_wp2
    go_roundg (xs.length - (k + 1))
    case measure => omega
    case rel => exact ⟨k + 1, by omega, by omega, by go_num, by rw [HS.out], rfl⟩
  ·
   have hltz : ¬ (k : Int) < (xs.length : Int) := by omega
   have he : k = xs.length := by omega
   have HE := Lib.hid he
   clear he
   go_wp2
   go_ret
   exact ⟨by rw [HE.out]; rfl, HB.out⟩

set_option maxHeartbeats 400000 in
theorem spec_CasLeft (x : GCase) (A1 A2 A3 A4 : Option Addr) (c1 c2 c3 c4 : Nat) (m : Option Nat) (w : World) (h1 : Rows intC m w w.heap.size A1 x.marks) :
  Calls Try.prog 19 #[.agg #[.int .i64 x.state, .slice A1 x.marks.length c1, .slice A2 x.busy.length c2, .slice A3 x.data.length c3, .slice A4 x.did.length c4]] w
   fun e w' => e = .returned (.int .i64 (leftTo x.marks x.marks.length)) ∧ Below w.heap.size w w' := by
 have hlen := h1.1
 have HX := Lib.hid h1.ints
 clear h1
 generalize x.marks = xs at *
 go_enter Try.func19, Try.ntmps19
 go_wp2
 generalize hW : w.alloc _ = W
 have HB : Hid (Below w.heap.size w W) := by show Below _ _ _; rw [← hW]; exact (Below.refl _ w).alloc (Nat.le_refl _) _
 have hcl : W.cell? ⟨w.heap.size, 1, none⟩ = some (.slice A1 xs.length c1) := by rw [← hW]; simp
 clear hW
 go_loopg [3, 4] xs.length (fun gg s3 s4 wr => ∃ k : Nat, k ≤ xs.length ∧ xs.length - k ≤ gg ∧ s4 = .int .i64 k ∧ s3 = .int .i64 (leftTo xs k) ∧ Aside (W = wr))
 case atStart => exact ⟨0, Nat.zero_le _, by omega, rfl, rfl, rfl⟩
 case round =>
  obtain ⟨k, hk, hg, rfl, rfl, EW⟩ := hrel
  obtain rfl := EW.out
  by_cases hlt : k < xs.length
  ·
   have hltz : (k : Int) < (xs.length : Int) := by omega
   obtain ⟨b, off, rfl, hb, hc0⟩ := HX.out.at_ hlt
   have hc := (HB.out.cell (p := ⟨b, off + k, none⟩) hb).trans hc0
   clear hc0
   by_cases h1 : k = 1
   ·
    have b1 : ((k : Int) != 1) = false := by simp; omega
    have HS := Lib.hid (leftTo_one xs k h1)
    clear h1
    go_wp2
    go_roundg (xs.length - (k + 1))
    case measure => omega
    case rel => exact ⟨k + 1, by omega, by omega, by go_num, by rw [HS.out], rfl⟩
   ·
    have b1 : ((k : Int) != 1) = true := by simp; omega
    have HS := Lib.hid (leftTo_other xs k h1 hlt)
    clear h1
    generalize xs[k] = y at hc HS
    go_wp2
    go_roundg (xs.length - (k + 1))
    case measure => omega
    case rel => exact ⟨k + 1, by omega, by omega, by go_num, by rw [HS.out], rfl⟩
  ·
   have hltz : ¬ (k : Int) < (xs.length : Int) := by omega
   have he : k = xs.length := by omega
   have HE := Lib.hid he
   clear he
   go_wp2
   go_ret
   exact ⟨by rw [HE.out]; rfl, HB.out⟩

end Go.Proofs.Ytjieilicjdoaaaa

/- The sum of marks, wrapping; and what is left of a case's marks beside it. -/
namespace Go.Proofs.Ytjieilicjdoaaaa
open Go.RowKit
set_option linter.unusedSimpArgs false

/-- The sum of the first k marks, as the machine adds. -/
def sumTo (xs : List Int) : Nat → Int
 | 0 => 0
 | k + 1 => wrap64 (sumTo xs k + xs.getD k 0)
theorem sumTo_step (xs : List Int) (k : Nat) (hk : k < xs.length) : sumTo xs (k + 1) = wrap64 (sumTo xs k + xs[k]) := by simp [sumTo, hk]
theorem wrap64_l (a b : Int) : wrap64 (wrap64 a + b) = wrap64 (a + b) := by unfold wrap64; omega
theorem wrap64_m (a b : Int) : wrap64 (wrap64 a - b) = wrap64 (a - b) := by unfold wrap64; omega
theorem left_few (xs : List Int) (h : xs.length < 2) : leftTo xs xs.length = sumTo xs xs.length := by
 rcases xs with _ | ⟨a, _ | ⟨b, t⟩⟩
 ·
  rfl
 ·
  simp [leftTo, sumTo]
 ·
  simp at h; omega
theorem left_most (xs : List Int) : ∀ k, 2 ≤ k → leftTo xs k = wrap64 (sumTo xs k - xs.getD 1 0)
 | 0, h => absurd h (by omega)
 | k + 1, h => by
  by_cases h1 : k = 1
  ·
   subst h1
   show leftTo xs 1 = wrap64 (wrap64 (sumTo xs 1 + xs.getD 1 0) - xs.getD 1 0)
   rw [wrap64_m, show sumTo xs 1 + xs.getD 1 0 - xs.getD 1 0 = sumTo xs 1 from by omega]
   show wrap64 (0 + xs.getD 0 0) = wrap64 (wrap64 (0 + xs.getD 0 0))
   unfold wrap64
   omega
  ·
   have ih := left_most xs k (by omega)
   show (if k = 1 then leftTo xs k else wrap64 (leftTo xs k + xs.getD k 0)) = wrap64 (wrap64 (sumTo xs k + xs.getD k 0) - xs.getD 1 0)
   rw [if_neg h1, ih, wrap64_l, wrap64_m]
   congr 1
   omega

theorem impl_MrkSumW (A : Option Addr) (c : Nat) (xs : List Int) (w : World) (B : Nat) (hx : Ints w B A xs) :
  Calls Try.prog 20 #[.slice A xs.length c] w fun e w' => e = .returned (.int .i64 (sumTo xs xs.length)) ∧ w = w' := by
 have hlen := hx.1
 have HX := Lib.hid hx
 clear hx
 go_enter Try.func20, Try.ntmps20
 go_wp2
 go_loopg [3, 8] xs.length (fun gg s3 s8 wr => ∃ k : Nat, k ≤ xs.length ∧ xs.length - k ≤ gg ∧ s8 = .int .i64 k ∧ s3 = .int .i64 (sumTo xs k) ∧ Aside (w = wr))
 case atStart => exact ⟨0, Nat.zero_le _, by omega, rfl, rfl, rfl⟩
 case round =>
  obtain ⟨k, hk, hg, rfl, rfl, EW⟩ := hrel
  obtain rfl := EW.out
  by_cases hlt : k < xs.length
  ·
   have hltz : (k : Int) < (xs.length : Int) := by omega
   obtain ⟨b, off, rfl, hb, hc⟩ := HX.out.at_ hlt
   have HS := Lib.hid (sumTo_step xs k hlt)
   generalize xs[k] = z at hc HS
   go_wp2
   go_roundg (xs.length - (k + 1))
   case measure => omega
   case rel => exact ⟨k + 1, by omega, by omega, by go_num, by rw [HS.out], rfl⟩
  ·
   have hltz : ¬ (k : Int) < (xs.length : Int) := by omega
   have he : k = xs.length := by omega
   have HE := Lib.hid he
   clear he
   go_wp2
   go_ret
   exact ⟨by rw [HE.out]; rfl, rfl⟩
end Go.Proofs.Ytjieilicjdoaaaa

