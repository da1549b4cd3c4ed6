/- CasBy of the program and of the reference: the tasks that somebody has done, in order; and a case's copy marked. -/
import Derived.Test.YtjieilicjdoaaaaGCopy
import Derived.Test.YtjieilicjdoaaaaGBase
import Derived.Test.YtjieilicjdoaaaaGMark
namespace Go.Proofs.Ytjieilicjdoaaaa
open Go.RowKit

/-- What a function that hands back a new slice of ints leaves. -/
def GivesI (out : List Int) (w : World) (e : Ending) (w' : World) : Prop := ∃ v, e = .returned v ∧ OwnV w' w.heap.size v out ∧ Below w.heap.size w w'

def casBy (ds : List GDid) (who : Int) : List Int := (ds.filter fun d => decide (d.who = who)).map GDid.task
theorem casBy_yes (ds : List GDid) (who : Int) (k : Nat) (hk : k < ds.length) (h : ds[k].who = who) : casBy (ds.take (k + 1)) who = casBy (ds.take k) who ++ [ds[k].task] := by
 unfold casBy
 rw [List.take_succ_eq_append_getElem hk, List.filter_append, List.map_append]
 simp [h]
theorem casBy_no (ds : List GDid) (who : Int) (k : Nat) (hk : k < ds.length) (h : ¬ ds[k].who = who) : casBy (ds.take (k + 1)) who = casBy (ds.take k) who := by
 unfold casBy
 rw [List.take_succ_eq_append_getElem hk, List.filter_append, List.map_append]
 simp [h]
theorem casBy_len (ds : List GDid) (who : Int) : (casBy ds who).length ≤ ds.length := by
 unfold casBy
 rw [List.length_map]
 exact List.length_filter_le _ _
theorem casBy_le (ds : List GDid) (who : Int) (k : Nat) : (casBy (ds.take k) who).length ≤ ds.length :=
 Nat.le_trans (casBy_len _ _) (by rw [List.length_take]; omega)

set_option maxHeartbeats 1000000 in
theorem impl_CasBy (x : GCase) (A1 A2 A3 A4 : Option Addr) (c1 c2 c3 c4 : Nat) (who : Int) (m : Option Nat) (w : World) (h4 : Rows didC m w w.heap.size A4 x.did) (hl : x.did.length ≤ 1048576) :
  Calls Try.prog 23 #[.agg #[.int .i64 x.state, .slice A1 x.marks.length c1, .slice A2 x.busy.length c2, .slice A3 x.data.length c3, .slice A4 x.did.length c4], .int .i64 who] w (GivesI (casBy x.did who) w) := by
 have HX := Lib.hid h4
 clear h4
 generalize x.did = ds at *
 go_enter Try.func23, Try.ntmps23
 go_wp2
 generalize hW : w.alloc _ = W
 have HB : Hid (Below w.heap.size w W) := by show Below _ _ _; rw [← hW]; exact (Below.refl _ w).alloc (Nat.le_refl _) _
 clear hW
 go_loopg [5, 7, 11] ds.length (fun gg s5 _ s11 wr => ∃ k : Nat, k ≤ ds.length ∧ ds.length - k ≤ gg ∧ s11 = .int .i64 k ∧ Aside (Below w.heap.size w wr) ∧ Aside (OwnV wr w.heap.size s5 (casBy (ds.take k) who)))
 case atStart => exact ⟨0, Nat.zero_le _, by omega, rfl, HB.out, by show OwnV _ _ _ _; simpa [casBy] using OwnV.nil _ _⟩
 case round =>
  obtain ⟨k, hk, hg, rfl, EW, OW⟩ := hrel
  by_cases hlt : k < ds.length
  ·
   have hltz : (k : Int) < (ds.length : Int) := by omega
   obtain ⟨b, off, rfl, hb, hc0, hc1⟩ := did_at (HX.out.later EW.out) hlt
   have hcl := casBy_le ds who k
   have hsz := EW.out.size
   by_cases hq : ds[k].who = who
   ·
    have HS := Lib.hid (casBy_yes ds who k hlt hq)
    have hqb : (ds[k].who == who) = true := by simp [hq]
    generalize ds[k] = y at hc0 hc1 HS hqb
    obtain ⟨yt, yw⟩ := y
    have hqb2 : (yw == who) = true := hqb
    clear hq hqb
    go_wp2_with (at_builtin; refine append_int rfl (.tmp 19) (.tmp 22) rfl w.heap.size _ _ rfl ((OW.out.later ((Below.refl _ _).alloc (Nat.le_refl _) _)).alloc _) (wr.heap.size + 1) yt rfl (by simp) (by omega) (by simp; omega) ?_; intro v' w2 hown2 hb2; have HO2 := Lib.hid hown2; have HB2 := Lib.hid hb2; clear hown2 hb2)
    go_roundg (ds.length - (k + 1))
    case measure => omega
    case rel => exact ⟨k + 1, by omega, by omega, by go_num, ((EW.out.alloc EW.out.size _).alloc (by simp; omega) _).trans HB2.out, by show OwnV _ _ _ _; rw [HS.out]; exact HO2.out⟩
   ·
    have HS := Lib.hid (casBy_no ds who k hlt hq)
    have hqb : (ds[k].who == who) = false := by simp [hq]
    generalize ds[k] = y at hc0 hc1 HS hqb
    obtain ⟨yt, yw⟩ := y
    have hqb2 : (yw == who) = false := hqb
    clear hq hqb
    go_wp2
    go_roundg (ds.length - (k + 1))
    case measure => omega
    case rel => exact ⟨k + 1, by omega, by omega, by go_num, EW.out.alloc EW.out.size _, by show OwnV _ _ _ _; rw [HS.out]; exact OW.out.later ((Below.refl _ _).alloc (Nat.le_refl _) _)⟩
  ·
   have hltz : ¬ (k : Int) < (ds.length : Int) := by omega
   have he : k = ds.length := by omega
   have HE := Lib.hid he
   clear he
   go_wp2
   go_ret
   have h1 := OW.out
   rw [HE.out, List.take_length] at h1
   exact ⟨_, rfl, h1, EW.out⟩

set_option maxHeartbeats 1000000 in
theorem spec_CasBy (x : GCase) (A1 A2 A3 A4 : Option Addr) (c1 c2 c3 c4 : Nat) (who : Int) (m : Option Nat) (w : World) (h4 : Rows didC m w w.heap.size A4 x.did) (hl : x.did.length ≤ 1048576) :
  Calls Try.prog 25 #[.agg #[.int .i64 x.state, .slice A1 x.marks.length c1, .slice A2 x.busy.length c2, .slice A3 x.data.length c3, .slice A4 x.did.length c4], .int .i64 who] w (GivesI (casBy x.did who) w) := by
 have HX := Lib.hid h4
 clear h4
 generalize x.did = ds at *
 go_enter Try.func25, Try.ntmps25
 go_wp2
 generalize hW : (w.alloc _).alloc _ = W
 have b0 : Bk W w.heap.size 43 #[.int .i64 x.state, .slice A1 x.marks.length c1, .slice A2 x.busy.length c2, .slice A3 x.data.length c3, .slice A4 ds.length c4] := by rw [← hW]; exact (Bk.new rfl).alloc _
 have HB : Hid (Below w.heap.size w W) := by show Below _ _ _; rw [← hW]; exact ((Below.refl _ w).alloc (Nat.le_refl _) _).alloc (by simp) _
 have HO : Hid (OwnV W (w.heap.size + 1) (.slice (some ⟨w.heap.size + 1, 0, none⟩) 0 0) []) := by
  show OwnV _ _ _ _
  rw [← hW]
  have h := World.ownsRow_made (base := w.heap.size + 1) (e := 3) (size := 1) (w.alloc (.cells #[.int .i64 x.state, .slice A1 x.marks.length c1, .slice A2 x.busy.length c2, .slice A3 x.data.length c3, .slice A4 ds.length c4] 43)) #[] 0 (by simp) (by decide) rfl
  unfold OwnV
  simpa [iv] using h
 have B0 := Lib.hid b0
 have hs : W.heap.size = w.heap.size + 2 := by rw [← hW]; simp
 clear hW b0
 go_loopg [5, 6] ds.length (fun gg s5 s6 wr => ∃ k : Nat, k ≤ ds.length ∧ ds.length - k ≤ gg ∧ s6 = .int .i64 k ∧ Aside (Below (w.heap.size + 1) W wr) ∧ Aside (OwnV wr (w.heap.size + 1) s5 (casBy (ds.take k) who)))
 case atStart => exact ⟨0, Nat.zero_le _, by omega, rfl, Below.refl _ _, by show OwnV _ _ _ _; simpa [casBy] using HO.out⟩
 case round =>
  obtain ⟨k, hk, hg, rfl, EW, OW⟩ := hrel
  have kb : Bk wr w.heap.size 43 _ := (EW.out.block w.heap.size (by omega)).trans B0.out
  have k0 := fun i => kb.cell i
  have hEW : Below w.heap.size w wr := HB.out.trans (EW.out.mono (by omega))
  have EW2 := Lib.hid hEW
  clear kb hEW
  by_cases hlt : k < ds.length
  ·
   have hltz : (k : Int) < (ds.length : Int) := by omega
   obtain ⟨b, off, rfl, hb, hc0, hc1⟩ := did_at (HX.out.later EW2.out) hlt
   have hcl := casBy_le ds who k
   have hsz := EW.out.size
   by_cases hq : ds[k].who = who
   ·
    have HS := Lib.hid (casBy_yes ds who k hlt hq)
    have hqb : (ds[k].who == who) = true := by simp [hq]
    generalize ds[k] = y at hc0 hc1 HS hqb
    obtain ⟨yt, yw⟩ := y
    have hqb2 : (yw == who) = true := hqb
    clear hq hqb
    go_wp2_with (at_builtin; refine append_int rfl (.tmp 23) (.tmp 30) rfl (w.heap.size + 1) _ _ rfl (OW.out.alloc _) wr.heap.size yt rfl (by simp) (by omega) (by simp; omega) ?_; intro v' w2 hown2 hb2; have HO2 := Lib.hid hown2; have HB2 := Lib.hid hb2; clear hown2 hb2)
    go_roundg (ds.length - (k + 1))
    case measure => omega
    case rel => exact ⟨k + 1, by omega, by omega, by go_num, (EW.out.alloc (by omega) _).trans HB2.out, by show OwnV _ _ _ _; rw [HS.out]; exact HO2.out⟩
   ·
    have HS := Lib.hid (casBy_no ds who k hlt hq)
    have hqb : (ds[k].who == who) = false := by simp [hq]
    generalize ds[k] = y at hc0 hc1 HS hqb
    obtain ⟨yt, yw⟩ := y
    have hqb2 : (yw == who) = false := hqb
    clear hq hqb
    go_wp2
    go_roundg (ds.length - (k + 1))
    case measure => omega
    case rel => exact ⟨k + 1, by omega, by omega, by go_num, EW.out, by show OwnV _ _ _ _; rw [HS.out]; exact OW.out⟩
  ·
   have hltz : ¬ (k : Int) < (ds.length : Int) := by omega
   have he : k = ds.length := by omega
   have HE := Lib.hid he
   clear he
   go_wp2
   go_ret
   have h1 := OW.out
   rw [HE.out, List.take_length] at h1
   exact ⟨_, rfl, h1.low (by omega), EW2.out⟩
end Go.Proofs.Ytjieilicjdoaaaa
