/- The walk of FnCasBy: it returns true. -/
import Derived.Test.YtjieilicjdoaaaaDrawBy
import Derived.Test.YtjieilicjdoaaaaBy
import Derived.Test.YtjieilicjdoaaaaGFir
import Derived.Test.YtjieilicjdoaaaaGNet
import Derived.Deep.QuietTactic
import Derived.Deep.RegionHeld3
namespace Go.Proofs.Ytjieilicjdoaaaa
open Go.RowKit
open List renaming getElem_toArray → sA, getElem_cons_succ → sB, getElem_cons_zero → sC, setIfInBounds_toArray → sD, set_cons_zero → sE, set_cons_succ → sF
set_option linter.unusedSimpArgs false
set_option linter.unusedVariables false

theorem casBy_has (ds : List GDid) (who : Int) (i : Nat) (hi : i < (casBy ds who).length) : pplDid ds who ((casBy ds who)[i]) = true := by
 have hm := List.getElem_mem hi
 generalize (casBy ds who)[i] = t at hm
 unfold casBy at hm
 simp only [List.mem_map, List.mem_filter, decide_eq_true_eq] at hm
 obtain ⟨d, ⟨hd, hw⟩, rfl⟩ := hm
 unfold pplDid
 rw [List.any_eq_true]
 exact ⟨d, hd, by simp [hw]⟩
/-- How much the first k persons have done. -/
def doneBy (ds : List GDid) : Nat → Nat
 | 0 => 0
 | k + 1 => doneBy ds k + (casBy ds ((k : Int) + 1)).length
theorem doneBy_le (ds : List GDid) : ∀ k, doneBy ds k ≤ k * ds.length
 | 0 => Nat.zero_le _
 | k + 1 => by
  have h1 := doneBy_le ds k
  have h2 := casBy_len ds ((k : Int) + 1)
  show doneBy ds k + _ ≤ _
  rw [Nat.succ_mul]
  omega
/-- Whether one of the records is of nobody. -/
def oddOf (ds : List GDid) : Bool := ds.any fun d => decide (d.who < 1) || decide (4 < d.who)
theorem casBy_cons (d : GDid) (ds : List GDid) (who : Int) : (casBy (d :: ds) who).length = (if d.who = who then 1 else 0) + (casBy ds who).length := by
 unfold casBy
 by_cases h : d.who = who
 ·
  simp [h, Nat.add_comm]
 ·
  simp [h]
theorem doneBy_four (ds : List GDid) : doneBy ds 4 = 0 + (casBy ds 1).length + (casBy ds 2).length + (casBy ds 3).length + (casBy ds 4).length := rfl
theorem doneBy_all : ∀ ds : List GDid, oddOf ds = false → doneBy ds 4 = ds.length
 | [], _ => rfl
 | d :: ds, h => by
  unfold oddOf at h
  rw [List.any_cons, Bool.or_eq_false_iff, Bool.or_eq_false_iff] at h
  obtain ⟨⟨h1, h2⟩, h3⟩ := h
  have ih := doneBy_all ds h3
  simp only [decide_eq_false_iff_not] at h1 h2
  rw [doneBy_four] at ih ⊢
  simp only [casBy_cons, List.length_cons]
  rcases (by omega : d.who = 1 ∨ d.who = 2 ∨ d.who = 3 ∨ d.who = 4) with h | h | h | h <;> simp [h] <;> omega
theorem odd_step (ds : List GDid) (i : Nat) (hi : i < ds.length) : oddOf (ds.take (i + 1)) = (oddOf (ds.take i) || (decide (ds[i].who < 1) || decide (4 < ds[i].who))) := by
 unfold oddOf
 rw [List.take_succ_eq_append_getElem hi, List.any_append]
 simp

set_option maxRecDepth 100000 in
set_option maxHeartbeats 4000000 in
theorem walk_FnCasBy (A : Option Addr) (c : Nat) (xs : List Int) (w : World) (h : Code w w.heap.size A c xs) :
  Calls Try.prog 5 #[.slice A xs.length c] w fun e w' => e = .returned (.bool true) ∧ Below w.heap.size w w' := by
 have hlen := h.1.1
 have HC := Lib.hid h
 clear h
 by_cases hl : 1048576 < xs.length
 ·
  have hlz : (1048576 : Int) < (xs.length : Int) := by omega
  go_enter Try.func5, Try.ntmps5
  go_wp2
  go_ret
  exact ⟨rfl, Below.refl _ _⟩
 have hlz : ¬ (1048576 : Int) < (xs.length : Int) := by omega
 go_enter Try.func5, Try.ntmps5
 go_wp2_with fail
 refine (spec_DrawCasBy A c xs w HC.out).mono ?_
 rintro e w1 ⟨y, D1, j1, D2, j2, D3, j3, D4, j4, who, rfl, hm, hd, hml, hdl, hb⟩
 have D := Lib.hid hd
 have B := Lib.hid hb
 clear hm hd hb
 go_wp2_with fail
 refine callsAt fun W hW => ?_
 have hbW : Below w1.heap.size w1 W := by rw [hW]; exact (Below.refl _ _).alloc (Nat.le_refl _) _
 have P : Hid (Bk W w1.heap.size 43 (caseCells y D1 j1 D2 j2 D3 j3 D4 j4)) := by show Bk _ _ _ _; rw [hW]; exact Bk.new rfl
 have D := Lib.hid (D.out.later hbW)
 have B := Lib.hid (B.out.trans (hbW.mono B.out.size))
 clear hW hbW
 refine (impl_CasBy y D1 D2 D3 D4 j1 j2 j3 j4 who none W D.out (by omega)).mono ?_
 rintro e w2 ⟨v2, rfl, o2, hb⟩
 have L1 := casBy_len y.did who
 have HAS := Lib.hid (casBy_has y.did who)
 generalize hlist : casBy y.did who = list at o2 L1 HAS
 have HL := Lib.hid hlist
 clear hlist
 obtain ⟨A5, c5, rfl, _⟩ := o2.form
 have OI := Lib.hid (ownV_rows o2).ints
 have P := Lib.hid (P.out.later hb)
 have D := Lib.hid (D.out.later hb)
 have B := Lib.hid (B.out.trans (hb.mono B.out.size))
 clear hb o2
 have kP := fun i => P.out.cell i
 go_wp2_with fail
 clear kP
 refine (spec_CasBy y D1 D2 D3 D4 j1 j2 j3 j4 who none w2 D.out (by omega)).mono ?_
 rintro e w3 ⟨v3, rfl, o3, hb⟩
 rw [HL.out] at o3
 obtain ⟨A6, c6, rfl, _⟩ := o3.form
 have OJ := Lib.hid (ownV_rows o3).ints
 have P := Lib.hid (P.out.later hb)
 have D := Lib.hid (D.out.later hb)
 have OI := Lib.hid (OI.out.later hb)
 have B := Lib.hid (B.out.trans (hb.mono B.out.size))
 clear hb o3
 go_wp2_with fail
 refine (laws_guInts _ _ _ _ list list w3 w3.heap.size OI.out OJ.out).mono ?_
 rintro e _ ⟨rfl, q1, rfl⟩
 have hdq : decide (list = list) = true := by simp
 rw [hdq]
 have hb : Below w3.heap.size w3 (w3.drewN q1) := bdN (Below.refl _ _) _
 generalize w3.drewN q1 = w4 at hb ⊢
 have P := Lib.hid (P.out.later hb)
 have D := Lib.hid (D.out.later hb)
 have OI := Lib.hid (OI.out.later hb)
 have B := Lib.hid (B.out.trans (hb.mono B.out.size))
 clear hb hdq OJ
 have DLE := Lib.hid (doneBy_le y.did)
 have DALL := Lib.hid (doneBy_all y.did)
 go_upto_region 9 with fail
 go_loopg [6, 7] 5 (fun gg s6 s7 wr => ∃ k : Nat, k ≤ 4 ∧ 4 - k ≤ gg ∧ s7 = .int .i64 ((k : Int) + 1) ∧ s6 = .int .i64 (doneBy y.did k : Nat) ∧ Aside (Below w4.heap.size w4 wr))
 case atStart => exact ⟨0, by omega, by omega, rfl, rfl, Below.refl _ _⟩
 case round =>
  obtain ⟨k, hk, hg, rfl, rfl, BW⟩ := hrel
  have kP := fun i => (P.out.later BW.out).cell i
  by_cases hlt : k < 4
  ·
   have hltz : (k : Int) + 1 ≤ 4 := by omega
   go_wp2_with fail
   clear kP
   refine (impl_CasBy y D1 D2 D3 D4 j1 j2 j3 j4 ((k : Int) + 1) none wr (D.out.later BW.out) (by omega)).mono ?_
   rintro e w5 ⟨v5, rfl, o5, hb⟩
   have l5 := casBy_len y.did ((k : Int) + 1)
   have hdk := DLE.out k
   have hs : doneBy y.did (k + 1) = doneBy y.did k + (casBy y.did ((k : Int) + 1)).length := rfl
   have HS := Lib.hid hs
   generalize casBy y.did ((k : Int) + 1) = ls at o5 l5 HS hs
   obtain ⟨A7, c7, rfl, _⟩ := o5.form
   have BW := Lib.hid (BW.out.trans (hb.mono BW.out.size))
   have hkm : k * y.did.length ≤ 4 * y.did.length := Nat.mul_le_mul_right _ hk
   have hd1 : (doneBy y.did k : Int) ≤ 1000 := by omega
   have hm1 : (ls.length : Int) ≤ 200 := by omega
   clear hb o5 hs hdk hkm l5
   go_wp2
   go_roundg (4 - (k + 1))
   case measure => omega
   case rel => exact ⟨k + 1, by omega, by omega, by go_num, by rw [HS.out]; go_num, BW.out⟩
  ·
   have hltz : ¬ (k : Int) + 1 ≤ 4 := by omega
   have he : k = 4 := by omega
   subst he
   clear hlt hltz
   have P := Lib.hid (P.out.later BW.out)
   have D := Lib.hid (D.out.later BW.out)
   have OI := Lib.hid (OI.out.later BW.out)
   have B := Lib.hid (B.out.trans (BW.out.mono B.out.size))
   have hd4 := DLE.out 4
   generalize doneBy y.did 4 = n4 at DALL hd4 ⊢
   clear kP BW DLE
   have kP := fun i => P.out.cell i
   go_upto_region 14 with fail
   go_loopg [8, 9] y.did.length (fun gg s8 s9 wq => ∃ i : Nat, i ≤ y.did.length ∧ y.did.length - i ≤ gg ∧ s9 = .int .i64 i ∧ s8 = .bool (oddOf (y.did.take i)) ∧ Aside (wr = wq))
   case atStart => exact ⟨0, by omega, by omega, rfl, rfl, rfl⟩
   case round =>
    obtain ⟨i, hi, hg, rfl, rfl, EW⟩ := hrel
    obtain rfl := EW.out
    by_cases hlt : i < y.did.length
    ·
     have hltz : (i : Int) < (y.did.length : Int) := by omega
     obtain ⟨b, off, rfl, hb, hc0, hc1⟩ := did_at D.out hlt
     have HS := Lib.hid (odd_step y.did i hlt)
     generalize oddOf (y.did.take i) = od at HS ⊢
     generalize y.did[i] = d at hc0 hc1 HS
     obtain ⟨dt, dw⟩ := d
     simp only at hc0 hc1
     cases od with
     | true =>
      go_wp2
      go_roundg (y.did.length - (i + 1))
      case measure => omega
      case rel => exact ⟨i + 1, by omega, by omega, by go_num, by rw [HS.out]; rfl, rfl⟩
     | false =>
      by_cases h1 : dw < 1
      ·
       have hd1 : decide (dw < 1) = true := by simp [h1]
       go_wp2
       go_roundg (y.did.length - (i + 1))
       case measure => omega
       case rel => exact ⟨i + 1, by omega, by omega, by go_num, by rw [HS.out]; simp [h1], rfl⟩
      ·
       have hd1 : decide (dw < 1) = false := by simp [h1]
       by_cases h4 : 4 < dw
       ·
        have hd4 : decide (4 < dw) = true := by simp [h4]
        go_wp2
        go_roundg (y.did.length - (i + 1))
        case measure => omega
        case rel => exact ⟨i + 1, by omega, by omega, by go_num, by rw [HS.out]; simp [h1, h4], rfl⟩
       ·
        have hd4 : decide (4 < dw) = false := by simp [h4]
        go_wp2
        go_roundg (y.did.length - (i + 1))
        case measure => omega
        case rel => exact ⟨i + 1, by omega, by omega, by go_num, by rw [HS.out]; simp [h1, h4], rfl⟩
    ·
     have hltz : ¬ (i : Int) < (y.did.length : Int) := by omega
     have he : i = y.did.length := by omega
     subst he
     rw [List.take_length]
     generalize oddOf y.did = od at DALL ⊢
     clear hlt
     go_upto_region 18 with fail
     clear kP
     go_loopg [10] list.length (fun gg s10 wq => ∃ i : Nat, i ≤ list.length ∧ list.length - i ≤ gg ∧ s10 = .int .i64 i ∧ Aside (Below wr.heap.size wr wq))
     case atStart => exact ⟨0, by omega, by omega, rfl, Below.refl _ _⟩
     case round =>
      obtain ⟨i, hi, hg, rfl, BQ⟩ := hrel
      by_cases hlt : i < list.length
      ·
       have hltz : (i : Int) < (list.length : Int) := by omega
       go_upto_region 20 with fail
       obtain ⟨b, off, rfl, hb, hc⟩ := (OI.out.later BQ.out).at_ hlt
       have HI := Lib.hid (HAS.out i hlt)
       generalize list[i] = t at hc HI
       have X1 := Lib.hid hc
       have PQ := Lib.hid (P.out.later BQ.out)
       clear hc
       have hdr := (Below.refl wr.heap.size wr).drew
       refine wp_region_held_drew (S := (fun V : World => V.cell? ⟨w1.heap.size, 4, none⟩ = some (.slice D4 y.did.length j4) ∧ V.cell? ⟨b, off + i, none⟩ = some (.int .i64 t))) (by kernel_rfl) ⟨PQ.out.cell 4, X1.out⟩ (fun hHeld => ?_)
       generalize wr.drew = w6 at hdr hHeld ⊢
       have PQ := Lib.hid (PQ.out.later hdr)
       have X1 : Hid (w6.cell? ⟨b, off + i, none⟩ = some (.int .i64 t)) := (hdr.cell (p := ⟨b, off + i, none⟩) hb).trans X1.out
       have hb6 : b < w6.heap.size := Nat.lt_of_lt_of_le hb hdr.size
       have BQ := Lib.hid (BQ.out.trans (hdr.mono BQ.out.size))
       clear hdr
       refine tk (i := 0) (v := ?_) rfl (.inl ⟨by rfl, ?_⟩) ?_
       rotate_left
       ·
        intro V hSw; (try dsimp only at hSw); go_simp; (try with_reducible rfl)
       simp only [sA, sB, sC, Act.put, sD, sE, sF]
       refine tk (i := 1) (v := ?_) rfl (.inl ⟨by rfl, ?_⟩) ?_
       rotate_left
       ·
        intro V hSw; (try dsimp only at hSw); go_simp; (try with_reducible rfl)
       simp only [sA, sB, sC, Act.put, sD, sE, sF]
       refine tk (i := 2) (v := ?_) rfl (.inl ⟨by rfl, ?_⟩) ?_
       rotate_left
       ·
        intro V hSw; (try dsimp only at hSw); go_simp; (try with_reducible rfl)
       simp only [sA, sB, sC, Act.put, sD, sE, sF]
       refine tk (i := 3) (v := ?_) rfl (.inl ⟨by rfl, ?_⟩) ?_
       rotate_left
       ·
        intro V hSw; (try dsimp only at hSw); go_simp; (try with_reducible rfl)
       simp only [sA, sB, sC, Act.put, sD, sE, sF]
       refine tk (i := 4) (v := ?_) rfl (.inl ⟨by rfl, ?_⟩) ?_
       rotate_left
       ·
        intro V hSw; (try dsimp only at hSw); go_simp; (try with_reducible rfl)
       simp only [sA, sB, sC, Act.put, sD, sE, sF]
       refine tk (i := 5) (v := .pointer (some ⟨b, off + i, none⟩)) rfl (.inl ⟨by rfl, ?_⟩) ?_
       ·
        intro V hSw; (try dsimp only at hSw); go_simp; (try with_reducible rfl)
       simp only [sA, sB, sC, Act.put, sD, sE, sF]
       refine tk (i := 6) (v := ?_) rfl (.inl ⟨by rfl, ?_⟩) ?_
       rotate_left
       ·
        intro V hSw; (try dsimp only at hSw); go_simp; (try with_reducible rfl)
       simp only [sA, sB, sC, Act.put, sD, sE, sF]
       refine wpAnyH_ready (rs := [7]) (by kernel_rfl) (by simp) ?_
       refine AllReadyH.cons rfl (fun K hK => ?_) AllReadyH.nil
       go_simp
       go_wp2_with (go_at_call 26; refine (impl_PplDid D4 j4 y.did who t w6 none (D.out.later BQ.out)).mono ?_; rintro e w7 ⟨rfl, hb⟩)
       rw [HI.out]
       have PQ := Lib.hid (PQ.out.later hb)
       have X1 : Hid (w7.cell? ⟨b, off + i, none⟩ = some (.int .i64 t)) := (hb.cell (p := ⟨b, off + i, none⟩) hb6).trans X1.out
       have BQ := Lib.hid (BQ.out.trans (hb.mono BQ.out.size))
       clear hb hb6
       refine hK.out _ _ ⟨PQ.out.cell 4, X1.out⟩ (fun hHeld => ?_)
       clear hK K
       refine tk (i := 8) (v := ?_) rfl (.inl ⟨by rfl, ?_⟩) ?_
       rotate_left
       ·
        intro V hSw; (try dsimp only at hSw); go_simp; (try with_reducible rfl)
       simp only [sA, sB, sC, Act.put, sD, sE, sF]
       refine wpAnyH_done (by kernel_rfl) ?_ _
       clear hHeld
       go_wp2
       go_roundg (list.length - (i + 1))
       case measure => omega
       case rel => exact ⟨i + 1, by omega, by omega, by go_num, BQ.out⟩
      ·
       have hltz : ¬ (i : Int) < (list.length : Int) := by omega
       have PQ := Lib.hid (P.out.later BQ.out)
       have B := Lib.hid (B.out.trans (BQ.out.mono B.out.size))
       have kP := fun i => PQ.out.cell i
       clear hlt BQ
       cases od with
       | true =>
        go_wp2_with (go_at_call 21; refine (laws_guOk _).mono ?_; rintro e w10 ⟨rfl, hb⟩; have B := Lib.hid (B.out.trans (hb.mono B.out.size)); clear hb)
        go_ret
        exact ⟨rfl, B.out⟩
       | false =>
        have hn4 : n4 = y.did.length := DALL.out rfl
        subst hn4
        have hnb : ((y.did.length : Int) == (y.did.length : Int)) = true := by simp
        go_wp2_with (go_at_call 21; refine (laws_guOk _).mono ?_; rintro e w10 ⟨rfl, hb⟩; have B := Lib.hid (B.out.trans (hb.mono B.out.size)); clear hb)
        go_ret
        exact ⟨rfl, B.out⟩
end Go.Proofs.Ytjieilicjdoaaaa
