/- What can be come to from some places of a net: a sweep over its tasks, over and over; and that a walk from many places at once comes to just what walks from each come to. Plain. -/
import Derived.Test.YtjieilicjdoaaaaBusyOk
import Derived.Test.YtjieilicjdoaaaaMrkOk
import Derived.Test.YtjieilicjdoaaaaGBase
import Derived.Test.YtjieilicjdoaaaaGFir
import Derived.Test.YtjieilicjdoaaaaBusyImpl
namespace Go.Proofs.Ytjieilicjdoaaaa

def bAt (m : List Bool) (i : Nat) : Bool := m.getD i false
def markAll (m : List Bool) (fs : List GFlow) : List Bool := fs.foldl (fun m f => m.set f.to.toNat true) m
def fires (m : List Bool) (t : GTask) : Bool := t.inn.any fun p => bAt m p.toNat
def stepT (x : GNet) (but : Int) (m : List Bool) (k : Nat) : List Bool :=
 if (k : Int) = but then m else if fires m (x.tasks.getD k task0) = true then markAll m (x.tasks.getD k task0).out else m
def sweepTo (x : GNet) (but : Int) (m : List Bool) : Nat → List Bool
 | 0 => m
 | k + 1 => stepT x but (sweepTo x but m k) k
def sweep (x : GNet) (but : Int) (m : List Bool) : List Bool := sweepTo x but m x.tasks.length
def spread (x : GNet) (but : Int) (m : List Bool) : Nat → List Bool
 | 0 => m
 | k + 1 => sweep x but (spread x but m k)
def cl (x : GNet) (but : Int) (m : List Bool) : List Bool := spread x but m x.places.toNat
def LeB (m m' : List Bool) : Prop := ∀ i, bAt m i = true → bAt m' i = true
theorem bAt_get {m : List Bool} {i : Nat} (h : i < m.length) : bAt m i = m[i] := by
 unfold bAt
 rw [List.getD_eq_getElem?_getD, List.getElem?_eq_getElem h]; rfl
theorem markAll_len : ∀ (fs : List GFlow) (m : List Bool), (markAll m fs).length = m.length
 | [], m => rfl
 | f :: fs, m => by
  show (markAll (m.set f.to.toNat true) fs).length = _
  rw [markAll_len fs]; simp
theorem markAll_snoc (m : List Bool) (fs : List GFlow) (k : Nat) (hk : k < fs.length) : markAll m (fs.take (k + 1)) = (markAll m (fs.take k)).set fs[k].to.toNat true := by
 unfold markAll
 rw [List.take_succ_eq_append_getElem hk, List.foldl_append]; rfl
theorem stepT_len (x : GNet) (but : Int) (m : List Bool) (k : Nat) : (stepT x but m k).length = m.length := by
 unfold stepT
 split
 ·
  rfl
 ·
  split
  ·
   exact markAll_len _ _
  ·
   rfl
theorem sweepTo_len (x : GNet) (but : Int) (m : List Bool) : ∀ k, (sweepTo x but m k).length = m.length
 | 0 => rfl
 | k + 1 => by rw [sweepTo, stepT_len, sweepTo_len x but m k]
theorem spread_len (x : GNet) (but : Int) (m : List Bool) : ∀ k, (spread x but m k).length = m.length
 | 0 => rfl
 | k + 1 => by rw [spread, sweep, sweepTo_len, spread_len x but m k]
theorem cl_len (x : GNet) (but : Int) (m : List Bool) : (cl x but m).length = m.length := spread_len _ _ _ _
theorem LeB.refl (m : List Bool) : LeB m m := fun _ h => h
theorem LeB.trans {a b c : List Bool} (h : LeB a b) (k : LeB b c) : LeB a c := fun i hi => k i (h i hi)
end Go.Proofs.Ytjieilicjdoaaaa

/- Which tasks of a net may begin, as plain functions; and that the two ways of asking what may still come give the same. -/
namespace Go.Proofs.Ytjieilicjdoaaaa

def taskAt (x : GNet) (k : Nat) : GTask := x.tasks.getD k task0
def mAt (ms : List Int) (p : Int) : Int := ms.getD p.toNat 0
def someP (ms l : List Int) : Bool := l.any fun p => decide (0 < mAt ms p)
def allP (ms l : List Int) : Bool := l.all fun p => decide (0 < mAt ms p)
def fromAt (ms : List Int) (t : GTask) (p : Nat) : Bool := decide (0 < ms.getD p 0) && !(t.inn.any fun y => decide (y = (p : Int)))
def fromTo (n : Nat) (ms : List Int) (t : GTask) (k : Nat) : List Bool := (List.range k).map (fromAt ms t) ++ List.replicate (n - k) false
def busyTo (x : GNet) (m : List Bool) (bs : List GItem) : List Bool := bs.foldl (fun m b => markAll m (taskAt x b.task.toNat).out) m
def fromB (x : GNet) (ms : List Int) (bs : List GItem) (t : GTask) : List Bool := busyTo x (fromTo x.places.toNat ms t x.places.toNat) bs
def hitB (ms : List Int) (t : GTask) (c : List Bool) : Bool := t.inn.any fun q => decide (mAt ms q = 0) && bAt c q.toNat
def coming (x : GNet) (ms : List Int) (bs : List GItem) (k : Nat) : Bool := hitB ms (taskAt x k) (cl x k (fromB x ms bs (taskAt x k)))
def canP (x : GNet) (ms : List Int) (bs : List GItem) (k : Nat) : Bool :=
 if (taskAt x k).join = 1 then allP ms (taskAt x k).inn else if (taskAt x k).join = 2 then someP ms (taskAt x k).inn else someP ms (taskAt x k).inn && (allP ms (taskAt x k).inn || !coming x ms bs k)
def enaTo (p : Nat → Bool) (k : Nat) : List Int := ((List.range k).filter p).map Int.ofNat
def enaOf (x : GNet) (ms : List Int) (bs : List GItem) : List Int := if (mrkOk x ms && busyOk x bs) = true then enaTo (canP x ms bs) x.tasks.length else []

theorem fromTo_len {n : Nat} {ms : List Int} {t : GTask} {k : Nat} (h : k ≤ n) : (fromTo n ms t k).length = n := by simp [fromTo]; omega
theorem fromTo_set {n : Nat} {ms : List Int} {t : GTask} {k : Nat} (h : k < n) : (fromTo n ms t k).set k (fromAt ms t k) = fromTo n ms t (k + 1) := by
 unfold fromTo
 rw [List.set_append_right _ _ (by simp), show n - k = (n - (k + 1)) + 1 from by omega, List.replicate_succ]
 simp [List.range_succ]
theorem busyTo_len (x : GNet) : ∀ (bs : List GItem) (m : List Bool), (busyTo x m bs).length = m.length
 | [], m => rfl
 | b :: bs, m => by
  show (busyTo x (markAll m _) bs).length = _
  rw [busyTo_len x bs, markAll_len]
theorem busyTo_snoc (x : GNet) (m : List Bool) (bs : List GItem) (k : Nat) (hk : k < bs.length) : busyTo x m (bs.take (k + 1)) = markAll (busyTo x m (bs.take k)) (taskAt x bs[k].task.toNat).out := by
 unfold busyTo
 rw [List.take_succ_eq_append_getElem hk, List.foldl_append]; rfl
theorem fromB_len (x : GNet) (ms : List Int) (bs : List GItem) (t : GTask) : (fromB x ms bs t).length = x.places.toNat := by
 rw [fromB, busyTo_len, fromTo_len (Nat.le_refl _)]
theorem enaTo_yes {p : Nat → Bool} {k : Nat} (h : p k = true) : enaTo p (k + 1) = enaTo p k ++ [(k : Int)] := by simp [enaTo, List.range_succ, h]
theorem enaTo_no {p : Nat → Bool} {k : Nat} (h : p k = false) : enaTo p (k + 1) = enaTo p k := by simp [enaTo, List.range_succ, h]
theorem enaTo_len (p : Nat → Bool) (k : Nat) : (enaTo p k).length ≤ k := by
 unfold enaTo
 rw [List.length_map]
 exact Nat.le_trans (List.length_filter_le _ _) (by simp)
theorem enaOf_len (x : GNet) (ms : List Int) (bs : List GItem) : (enaOf x ms bs).length ≤ 6 := by
 unfold enaOf
 split
 ·
  rename_i h
  have := enaTo_len (canP x ms bs) x.tasks.length
  rw [Bool.and_eq_true, mrkOk, Bool.and_eq_true] at h
  have := netOk_len h.1.1
  omega
 ·
  simp
end Go.Proofs.Ytjieilicjdoaaaa

/- Rows of bools of the call's own; and what a net that is ok bounds. -/
namespace Go.Proofs.Ytjieilicjdoaaaa
open Go.RowKit

def bv (m : List Bool) : List Value := m.map Value.bool
theorem bv_len (m : List Bool) : (bv m).length = m.length := by simp [bv]
theorem bv_get {m : List Bool} {i : Nat} (h : i < m.length) : (bv m)[i]? = some (.bool (bAt m i)) := by
 rw [bAt_get h]; simp [bv, h]
theorem bv_set (m : List Bool) (i : Nat) (b : Bool) : (bv m).set i (.bool b) = bv (m.set i b) := by simp [bv, List.map_set]
def boolC : Cod Bool := flat 1 (fun x => [.bool x]) fun _ => rfl
theorem info_bool : (Try.prog.info? 4).map (fun i => (i.zero, i.size, i.bytes)) = some (some (.bool false), 1, 1) := by kernel_rfl
theorem bv_flat (m : List Bool) : (m.map fun x => [Value.bool x]).flatten = bv m := by
 induction m with
 | nil => rfl
 | cons a m ih => rw [List.map_cons, List.flatten_cons, ih]; rfl
theorem Wr.bools {w : World} {g : Nat} {t : TypeId} {m : List Bool} (h : Wr w g t (bv m)) (hl : m.length ≤ 1000) : Rows boolC none w w.heap.size (some ⟨g, 0, none⟩) m :=
 ⟨by omega, fun _ => ⟨g, 0, rfl, ⟨h.lt, fun lo hlo => by cases hlo⟩, fun j x hx => ⟨[.bool x], rfl, fun i u hu => by
  have hj := (List.getElem?_eq_some_iff.1 hx).1
  match i, hu with
  | 0, hu =>
   simp only [List.getElem?_cons_zero, Option.some.injEq] at hu
   subst hu
   rw [show 0 + j * boolC.k + 0 = j from by show 0 + j * 1 + 0 = j; omega]
   refine h.cell ?_
   simp [bv, hx]
  | i + 1, hu => simp at hu⟩⟩⟩
theorem OwnC.bools {w : World} {base : Nat} {v : Value} {m : List Bool} (h : OwnC boolC 4 w base v m) (hn : 0 < m.length) : ∃ g c, v = .slice (some ⟨g, 0, none⟩) m.length c ∧ base ≤ g ∧ Wr w g 4 (bv m) := by
 obtain ⟨css, h1, h2, h3⟩ := h
 have hcs : css = m.map fun x => [Value.bool x] := List.ext_getElem? fun j => by
  rw [List.getElem?_map]
  cases hj : css[j]? with
  | none =>
   have : m[j]? = none := List.getElem?_eq_none (by have := List.getElem?_eq_none_iff.1 hj; omega)
   rw [this]; rfl
  | some cs =>
   obtain ⟨y, lo, B', hy', _, _, _, hR⟩ := h2 j cs hj
   rw [hy']
   exact congrArg some (show cs = [Value.bool y] from hR)
 subst hcs
 rw [bv_flat] at h3
 rcases h3.2 with ⟨hv, h0⟩ | ⟨g, cap, cur, hv, hb, hgg, hcap, hmax, hcs, htake⟩
 ·
  omega
 ·
  exact ⟨g, cap, hv, hb, cur, hgg, by rw [bv_len, ← Nat.mul_one m.length]; exact htake⟩

/-- What a net that is ok bounds. -/
def NetFit (x : GNet) : Prop :=
 (2 ≤ x.places ∧ x.places ≤ 8 ∧ 1 ≤ x.tasks.length ∧ x.tasks.length ≤ 6) ∧ ∀ j (hj : j < x.tasks.length), (x.tasks[j].inn.length ≤ 3 ∧ x.tasks[j].out.length ≤ 3) ∧ (∀ y ∈ x.tasks[j].inn, 0 ≤ y ∧ y ≤ x.places - 1) ∧ ∀ f ∈ x.tasks[j].out, 1 ≤ f.to ∧ f.to ≤ x.places - 1
theorem netFit {x : GNet} (h : netOk x = true) : NetFit x := by
 obtain ⟨h1, h2, h3, h4⟩ := netOk_len h
 refine ⟨⟨h3, h4, h1, h2⟩, fun j hj => ?_⟩
 have ht := netOk_task h hj
 have hf := ok_flows ht h4
 generalize x.tasks[j] = t at ht hf
 have hin : rises t.inn 1 3 0 (x.places - 1) = true := by
  unfold taskOk at ht
  simp only [Bool.and_eq_true] at ht
  exact ht.1.2.2.1
 have hl : t.inn.length ≤ 3 := by
  unfold rises at hin
  simp only [Bool.and_eq_true, inB_iff] at hin
  omega
 refine ⟨⟨hl, hf.1⟩, fun y hy => ?_, fun f hm => hf.2.2.2 _ (List.mem_map.2 ⟨f, hm, rfl⟩)⟩
 obtain ⟨i, hi, rfl⟩ := List.mem_iff_getElem.1 hy
 exact rises_mem hin i hi
theorem taskAt_get {x : GNet} {j : Nat} (hj : j < x.tasks.length) : taskAt x j = x.tasks[j] := getD_get hj
end Go.Proofs.Ytjieilicjdoaaaa

/- What can be come to, as the reference asks: l2Spread. -/
namespace Go.Proofs.Ytjieilicjdoaaaa
open Go.RowKit
set_option linter.unusedSimpArgs false
set_option linter.unusedVariables false

theorem anyB_snoc {α : Type} (p : α → Bool) (xs : List α) (k : Nat) (hk : k < xs.length) : (xs.take (k + 1)).any p = ((xs.take k).any p || p xs[k]) := by
 rw [List.take_succ_eq_append_getElem hk, List.any_append]; simp
theorem Bk.belowG {g : Nat} {t : TypeId} {cs : Array Value} {B : Nat} {w w' : World} (h : Bk w g t cs) (hb : Below B w w') (hg : g < B) : Bk w' g t cs := (hb.block g hg).trans h
theorem spread_next (x : GNet) (but : Int) (m : List Bool) (k : Nat) : spread x but m (k + 1) = sweepTo x but (spread x but m k) x.tasks.length := rfl
theorem step_no {x : GNet} {but : Int} {m : List Bool} {k : Nat} (h : fires m (taskAt x k) = false ∨ (k : Int) = but) : stepT x but m k = m := by
 unfold stepT
 by_cases h2 : (k : Int) = but
 ·
  rw [if_pos h2]
 ·
  rw [if_neg h2, if_neg]
  rcases h with h | h
  ·
   rw [show x.tasks.getD k task0 = taskAt x k from rfl, h]; simp
  ·
   exact absurd h h2
theorem step_yes {x : GNet} {but : Int} {m : List Bool} {k : Nat} (h : fires m (taskAt x k) = true) (h2 : (k : Int) ≠ but) : stepT x but m k = markAll m (taskAt x k).out := by
 unfold stepT
 rw [if_neg h2, if_pos (show fires m (x.tasks.getD k task0) = true from h)]; rfl

/-- What asking what can be come to leaves. -/
def GivesB (m : List Bool) (w : World) (e : Ending) (w' : World) : Prop :=
 ∃ g c, e = .returned (.slice (some ⟨g, 0, none⟩) m.length c) ∧ w.heap.size ≤ g ∧ Wr w' g 4 (bv m) ∧ Below w.heap.size w w'

set_option maxRecDepth 100000 in
set_option maxHeartbeats 4000000 in
theorem spec_l2Spread (x : GNet) (A : Option Addr) (c : Nat) (g0 c0 : Nat) (m : List Bool) (but : Int) (mo : Option Nat) (w : World) (hfit : NetFit x)
  (hx : Rows taskC mo w w.heap.size A x.tasks) (hm : Wr w g0 4 (bv m)) (hml : m.length = x.places.toNat) :
  Calls Try.prog 95 #[.agg (netCells x A c), .slice (some ⟨g0, 0, none⟩) m.length c0, .int .i64 but] w (GivesB (cl x but m) w) := by
 obtain ⟨bA, oA, _, _, _, _, _, _, hAA, _⟩ := task_at hx (j := 0) (by have := hfit.1; omega)
 subst hAA
 have HX := Lib.hid hx
 have HM := Lib.hid hm
 have HF := Lib.hid hfit
 obtain ⟨⟨hp2, hp8, ht1, ht6⟩, _⟩ := hfit
 obtain ⟨np, hnp⟩ := Int.eq_ofNat_of_zero_le (by omega : 0 ≤ x.places)
 have hml8 : m.length ≤ 8 := by omega
 have hml2 : 2 ≤ m.length := by omega
 have HMN : Hid (m.length = np) := (by omega : m.length = np)
 have HNP := Lib.hid hnp
 have hnp8 : np ≤ 8 := by omega
 clear hx hm hml
 go_enter Try.func95, Try.ntmps95
 have hA0 : Hid (OwnC boolC 4 (World.alloc (World.alloc w (.cells (netCells x (some ⟨bA, oA, none⟩) c) 75)) (.cells #[] 4)) (w.heap.size + 1) (.slice (some ⟨w.heap.size + 1, 0, none⟩) 0 0) []) := by
  show OwnC _ _ _ _ _ _
  have h := OwnC.made (C := boolC) (e := 4) (w := World.alloc w (.cells (netCells x (some ⟨bA, oA, none⟩) c) 75)) (base := w.heap.size + 1) (by simp) 0 #[] (by decide) rfl
  simpa using h
 have hIN : Hid (Rows boolC none (World.alloc (World.alloc w (.cells (netCells x (some ⟨bA, oA, none⟩) c) 75)) (.cells #[] 4)) w.heap.size (some ⟨g0, 0, none⟩) m) := by
  show Rows _ _ _ _ _ _
  exact (HM.out.bools (by omega)).below (((Below.refl _ _).alloc (Nat.le_refl _) _).alloc (by simp) _)
 have hP0 : Hid (Bk (World.alloc (World.alloc w (.cells (netCells x (some ⟨bA, oA, none⟩) c) 75)) (.cells #[] 4)) w.heap.size 75 (netCells x (some ⟨bA, oA, none⟩) c)) := (Bk.new rfl).alloc _
 have hB0 : Hid (Below w.heap.size w (World.alloc (World.alloc w (.cells (netCells x (some ⟨bA, oA, none⟩) c) 75)) (.cells #[] 4))) := ((Below.refl _ _).alloc (Nat.le_refl _) _).alloc (by simp) _
 go_upto_region 2 with (at_builtin; refine append_flatA (k := 1) (cells := fun x => [Value.bool x]) (hk := fun _ => rfl) rfl (.tmp 13) (.tmp 14) 130 4 rfl _ 1 Try.underlying130 info_bool rfl (by decide) (by decide) (fun x u hu => by simp at hu; subst hu; rfl) (w.heap.size + 1) _ [] rfl hA0.out (some ⟨g0, 0, none⟩) c0 w.heap.size none m rfl hIN.out (by simp; omega) (by simp) ?_; intro v1 w1 hown hg hb; rw [List.nil_append] at hown; have O1 := Lib.hid hown; have HB1 := Lib.hid hb; clear hown hg hb)
 have P1 : Hid (Bk w1 w.heap.size 75 (netCells x (some ⟨bA, oA, none⟩) c)) := hP0.out.belowG HB1.out (by omega)
 have B1 : Hid (Below w.heap.size w w1) := hB0.out.trans (HB1.out.mono (by omega))
 obtain ⟨g, cg, hv, hgb, hwr⟩ := OwnC.bools O1.out (by omega)
 subst hv
 have HW := Lib.hid hwr
 have hl1 := hwr.lt
 clear hA0 hIN hP0 hB0 HB1 O1 hwr HM
 have k0 := fun i => P1.out.cell i
 rw [show netCells x (some ⟨bA, oA, none⟩) c = #[.int .i64 x.places, .slice (some ⟨bA, oA, none⟩) x.tasks.length c] from rfl, HNP.out] at k0
 go_wp2
 clear k0
 go_loopg [8] np (fun gg s8 wr => ∃ k : Nat, k ≤ np ∧ np - k ≤ gg ∧ s8 = .int .i64 k ∧ Aside (Below (w.heap.size + 1) w1 wr) ∧ Aside (Wr wr g 4 (bv (spread x but m k))))
 case atStart => exact ⟨0, Nat.zero_le _, by omega, rfl, Below.refl _ _, HW.out⟩
 case round =>
  obtain ⟨k, hk, hg, rfl, BW, WW⟩ := hrel
  have PW : Hid (Bk wr w.heap.size 75 (netCells x (some ⟨bA, oA, none⟩) c)) := P1.out.belowG BW.out (by omega)
  have k0 := fun i => PW.out.cell i
  rw [show netCells x (some ⟨bA, oA, none⟩) c = #[.int .i64 x.places, .slice (some ⟨bA, oA, none⟩) x.tasks.length c] from rfl, HNP.out] at k0
  by_cases hlt : k < np
  ·
   have hltz : (k : Int) < (np : Int) := by omega
   have HCL := Lib.hid (spread_len x but m k)
   have HNX := Lib.hid (spread_next x but m k)
   generalize spread x but m k = cur at WW HCL HNX
   obtain ⟨wo, hwo⟩ : ∃ wo : World, wo = wr := ⟨_, rfl⟩
   subst hwo
   go_wp2
   clear k0
   go_loopg [9] x.tasks.length (fun gg s9 wr => ∃ i : Nat, i ≤ x.tasks.length ∧ x.tasks.length - i ≤ gg ∧ s9 = .int .i64 i ∧ Aside (Below (w.heap.size + 1) wo wr) ∧ Aside (Wr wr g 4 (bv (sweepTo x but cur i))))
   case atStart => exact ⟨0, Nat.zero_le _, by omega, rfl, Below.refl _ _, WW.out⟩
   case round =>
    obtain ⟨i, hi, hgi, rfl, BI, WI⟩ := hrel
    have PI : Hid (Bk wr w.heap.size 75 (netCells x (some ⟨bA, oA, none⟩) c)) := PW.out.belowG BI.out (by omega)
    have hs1 := BW.out.size
    have hs2 := BI.out.size
    have BX : Hid (Below w.heap.size w wr) := B1.out.trans ((BW.out.trans (BI.out.mono (Nat.le_refl _))).mono (by omega))
    have k0 := fun i => PI.out.cell i
    rw [show netCells x (some ⟨bA, oA, none⟩) c = #[.int .i64 x.places, .slice (some ⟨bA, oA, none⟩) x.tasks.length c] from rfl] at k0
    by_cases hil : i < x.tasks.length
    ·
     have hiz : (i : Int) < (x.tasks.length : Int) := by omega
     have hfx := HF.out.2 i hil
     obtain ⟨b, off, a1, d1, a2, d2, a3, d3, hA, hbb, ⟨r1, r2, r3⟩, e0, e1, e2, e3, e4, e5, e6, e7, e8⟩ := task_at HX.out hil
     cases hA
     have HNO : Hid (fires (sweepTo x but cur i) x.tasks[i] = false ∨ (i : Int) = but → sweepTo x but cur (i + 1) = sweepTo x but cur i) := fun h => step_no (by rw [taskAt_get hil]; exact h)
     have HYES : Hid (fires (sweepTo x but cur i) x.tasks[i] = true → (i : Int) ≠ but → sweepTo x but cur (i + 1) = markAll (sweepTo x but cur i) x.tasks[i].out) := fun h h2 => by
      have h3 := step_yes (x := x) (but := but) (m := sweepTo x but cur i) (k := i) (by rw [taskAt_get hil]; exact h) h2
      rw [taskAt_get hil] at h3
      exact h3
     have hmi : (sweepTo x but cur i).length = m.length := by rw [sweepTo_len, HCL.out]
     generalize x.tasks[i] = y at HNO HYES hfx r1 r2 r3 e0 e1 e2 e3 e4 e5 e6 e7 e8
     generalize sweepTo x but cur i = mi at HNO HYES hmi WI
     have HMI := Lib.hid hmi
     obtain ⟨⟨hin3, hout3⟩, hin, hout⟩ := hfx
     have HIN := Lib.hid hin
     have HOUT := Lib.hid hout
     have TC : Hid (∀ W : World, Below w.heap.size w W → W.cell? ⟨bA, oA + i * 9 + 2, none⟩ = some (.slice a1 y.inn.length d1) ∧ W.cell? ⟨bA, oA + i * 9 + 3, none⟩ = some (.slice a2 y.out.length d2)) := fun W hb => ⟨(hb.cell (p := ⟨bA, oA + i * 9 + 2, none⟩) hbb).trans e2, (hb.cell (p := ⟨bA, oA + i * 9 + 3, none⟩) hbb).trans e3⟩
     have R1 := Lib.hid (r1.below BX.out)
     have R2 := Lib.hid r2
     have hm8 : (m.length : Int) = x.places := by have := HMN.out; have := HNP.out; omega
     have HM8 := Lib.hid hm8
     clear r1 r2 r3 e0 e1 e2 e3 e4 e5 e6 e7 e8 hmi hin hout hm8
     obtain ⟨wi, hwi⟩ : ∃ wi : World, wi = wr := ⟨_, rfl⟩
     subst hwi
     obtain ⟨t2, t3⟩ := TC.out _ BX.out
     go_wp2
     go_loopg [10, 11] y.inn.length (fun gg s10 s11 wr => ∃ j : Nat, j ≤ y.inn.length ∧ y.inn.length - j ≤ gg ∧ s11 = .int .i64 j ∧ s10 = .bool ((y.inn.take j).any fun p => bAt mi p.toNat) ∧ Aside (wi = wr))
     case atStart => exact ⟨0, Nat.zero_le _, by omega, rfl, by simp, rfl⟩
     case round =>
      obtain ⟨j, hj, hgj, rfl, rfl, EW⟩ := hrel
      obtain rfl := EW.out
      by_cases hjl : j < y.inn.length
      ·
       have hjz : (j : Int) < (y.inn.length : Int) := by omega
       obtain ⟨b1, o1, hA1, _, hc1⟩ := R1.out.ints.at_ hjl
       subst hA1
       have hpb := HIN.out _ (List.getElem_mem hjl)
       have hsn := anyB_snoc (fun p => bAt mi p.toNat) y.inn j hjl
       obtain ⟨p, hp⟩ := Int.eq_ofNat_of_zero_le hpb.1
       rw [hp] at hc1 hpb hsn
       rw [Int.toNat_natCast] at hsn
       have HS := Lib.hid hsn
       have hpm : p < m.length := by have := HM8.out; omega
       have hpz : (p : Int) < (m.length : Int) := by omega
       have hcb := WI.out.cell (bv_get (m := mi) (i := p) (by have := HMI.out; omega))
       clear hsn hp
       cases q1 : (y.inn.take j).any fun p => bAt mi p.toNat with
       | true =>
        go_wp2
        go_roundg (y.inn.length - (j + 1))
        case measure => omega
        case rel => exact ⟨j + 1, by omega, by omega, by go_num, by rw [HS.out, q1]; rfl, rfl⟩
       | false =>
        go_wp2
        go_roundg (y.inn.length - (j + 1))
        case measure => omega
        case rel => exact ⟨j + 1, by omega, by omega, by go_num, by rw [HS.out, q1]; rfl, rfl⟩
      ·
       have hjz : ¬ (j : Int) < (y.inn.length : Int) := by omega
       have he : j = y.inn.length := by omega
       subst he
       have hfi : ((y.inn.take y.inn.length).any fun p => bAt mi p.toNat) = fires mi y := by rw [List.take_length]; rfl
       rw [hfi]
       clear hfi
       cases q : fires mi y with
       | false =>
       go_wp2
       go_loopg [12] 0 (fun gg s12 wr => s12 = .int .i64 0 ∧ Aside (wi = wr))
       case atStart => exact ⟨rfl, rfl⟩
       case round =>
        obtain ⟨rfl, EW⟩ := hrel
        obtain rfl := EW.out
        have k0 := fun i => PI.out.cell i
        rw [show netCells x (some ⟨bA, oA, none⟩) c = #[.int .i64 x.places, .slice (some ⟨bA, oA, none⟩) x.tasks.length c] from rfl] at k0
        by_cases h0 : 0 < y.out.length
        ·
         have h0z : (0 : Int) < (y.out.length : Int) := by omega
         go_wp2
         go_roundg (x.tasks.length - (i + 1))
         case measure => omega
         case rel => exact ⟨i + 1, by omega, by omega, by go_num, BI.out, by show Wr _ _ _ _; rw [HNO.out (.inl q)]; exact WI.out⟩
        ·
         have h0z : ¬ (0 : Int) < (y.out.length : Int) := by omega
         go_wp2
         go_roundg (x.tasks.length - (i + 1))
         case measure => omega
         case rel => exact ⟨i + 1, by omega, by omega, by go_num, BI.out, by show Wr _ _ _ _; rw [HNO.out (.inl q)]; exact WI.out⟩
       | true =>
       by_cases hbut : (i : Int) = but
       ·
        have hb1 : ((i : Int) != but) = false := by simp [hbut]
        have HBUT := Lib.hid hbut
        clear hbut
        go_wp2
        go_loopg [12] 0 (fun gg s12 wr => s12 = .int .i64 0 ∧ Aside (wi = wr))
        case atStart => exact ⟨rfl, rfl⟩
        case round =>
         obtain ⟨rfl, EW⟩ := hrel
         obtain rfl := EW.out
         have k0 := fun i => PI.out.cell i
         rw [show netCells x (some ⟨bA, oA, none⟩) c = #[.int .i64 x.places, .slice (some ⟨bA, oA, none⟩) x.tasks.length c] from rfl] at k0
         by_cases h0 : 0 < y.out.length
         ·
          have h0z : (0 : Int) < (y.out.length : Int) := by omega
          go_wp2
          go_roundg (x.tasks.length - (i + 1))
          case measure => omega
          case rel => exact ⟨i + 1, by omega, by omega, by go_num, BI.out, by show Wr _ _ _ _; rw [HNO.out (.inr HBUT.out)]; exact WI.out⟩
         ·
          have h0z : ¬ (0 : Int) < (y.out.length : Int) := by omega
          go_wp2
          go_roundg (x.tasks.length - (i + 1))
          case measure => omega
          case rel => exact ⟨i + 1, by omega, by omega, by go_num, BI.out, by show Wr _ _ _ _; rw [HNO.out (.inr HBUT.out)]; exact WI.out⟩
       have hb1 : ((i : Int) != but) = true := by simp [hbut]
       have HBUT := Lib.hid hbut
       clear hbut
       go_wp2
       clear k0 t2 t3
       go_loopg [12] y.out.length (fun gg s12 wr => ∃ j : Nat, j ≤ y.out.length ∧ y.out.length - j ≤ gg ∧ s12 = .int .i64 j ∧ Aside (Below (w.heap.size + 1) wi wr) ∧ Aside (Wr wr g 4 (bv (markAll mi (y.out.take j)))))
       case atStart => exact ⟨0, Nat.zero_le _, by omega, rfl, Below.refl _ _, WI.out⟩
       case round =>
        obtain ⟨j, hj, hgj, rfl, BJ, WJ⟩ := hrel
        have PJ : Hid (Bk wr w.heap.size 75 (netCells x (some ⟨bA, oA, none⟩) c)) := PI.out.belowG BJ.out (by omega)
        have k0 := fun i => PJ.out.cell i
        rw [show netCells x (some ⟨bA, oA, none⟩) c = #[.int .i64 x.places, .slice (some ⟨bA, oA, none⟩) x.tasks.length c] from rfl] at k0
        have BXJ : Hid (Below w.heap.size w wr) := BX.out.trans (BJ.out.mono (by omega))
        obtain ⟨t2, t3⟩ := TC.out _ BXJ.out
        by_cases hjl : j < y.out.length
        ·
         have hjz : (j : Int) < (y.out.length : Int) := by omega
         obtain ⟨b2, o2, hA2, _, f0, f1, f2, f3⟩ := flow_at (R2.out.below BXJ.out) hjl
         subst hA2
         have hpb := HOUT.out _ (List.getElem_mem hjl)
         have hsn := markAll_snoc mi y.out j hjl
         have hml : (markAll mi (y.out.take j)).length = m.length := by rw [markAll_len, HMI.out]
         obtain ⟨p, hp⟩ := Int.eq_ofNat_of_zero_le (by omega : 0 ≤ y.out[j].to)
         rw [hp] at f0 hpb hsn
         rw [Int.toNat_natCast] at hsn
         have HS := Lib.hid hsn
         have hpm : p < m.length := by have := HM8.out; omega
         have hpz : (p : Int) < (m.length : Int) := by omega
         have hold := WJ.out.cell (bv_get (m := markAll mi (y.out.take j)) (i := p) (by omega))
         have hfr := WJ.out.frozen p
         have hset := WJ.out.set p (.bool true)
         rw [bv_set, ← hsn] at hset
         have HSET := Lib.hid hset
         have HBS := Lib.hid (BJ.out.setCell (p := ⟨g, p, none⟩) (by show w.heap.size + 1 ≤ g; omega) (.bool true))
         clear hsn hp hset hml f1 f2 f3
         go_wp2
         go_roundg (y.out.length - (j + 1))
         case measure => omega
         case rel => exact ⟨j + 1, by omega, by omega, by go_num, HBS.out, HSET.out⟩
        ·
         have hjz : ¬ (j : Int) < (y.out.length : Int) := by omega
         have he : j = y.out.length := by omega
         subst he
         have WJ2 : Hid (Wr wr g 4 (bv (markAll mi y.out))) := by
          have h := WJ.out
          rw [List.take_length] at h
          exact h
         go_wp2
         go_roundg (x.tasks.length - (i + 1))
         case measure => omega
         case rel => exact ⟨i + 1, by omega, by omega, by go_num, BI.out.trans BJ.out, by show Wr _ _ _ _; rw [HYES.out q HBUT.out]; exact WJ2.out⟩
    ·
     have hiz : ¬ (i : Int) < (x.tasks.length : Int) := by omega
     have he : i = x.tasks.length := by omega
     subst he
     go_wp2
     go_roundg (np - (k + 1))
     case measure => omega
     case rel => exact ⟨k + 1, by omega, by omega, by go_num, BW.out.trans (BI.out.mono (Nat.le_refl _)), by show Wr _ _ _ _; rw [HNX.out]; exact WI.out⟩
  ·
   have hltz : ¬ (k : Int) < (np : Int) := by omega
   have he : k = np := by omega
   subst he
   have HE : Hid (spread x but m k = cl x but m) := by show _ = _; rw [cl, HNP.out, Int.toNat_natCast]
   go_wp2
   go_ret
   exact ⟨g, cg, by rw [cl_len]; rfl, by omega, by rw [← HE.out]; exact WW.out, B1.out.trans (BW.out.mono (by omega))⟩
end Go.Proofs.Ytjieilicjdoaaaa

/- What can be come to from a place, as the program asks: reach. -/
namespace Go.Proofs.Ytjieilicjdoaaaa
open Go.RowKit
set_option linter.unusedSimpArgs false
set_option linter.unusedVariables false

/-- While places are marked: the net's box P, the marks' variable D, the marks in block g. -/
structure RSt (w0 : World) (P D g : Nat) (x : GNet) (A : Option Addr) (c n : Nat) (m : List Bool) (wr : World) : Prop where
 p : Bk wr P 75 (netCells x A c)
 d : Bk wr D 130 #[.slice (some ⟨g, 0, none⟩) n n]
 l : m.length = n
 m : Wr wr g 4 (bv m)
 b : Below w0.heap.size w0 wr
 o1 : P ≠ g
 o2 : D ≠ g
 o3 : w0.heap.size ≤ g
section
variable {w0 wr w' : World} {P D g : Nat} {x : GNet} {A : Option Addr} {c n : Nat} {m : List Bool}
theorem RSt.later (h : RSt w0 P D g x A c n m wr) (hb : Below wr.heap.size wr w') : RSt w0 P D g x A c n m w' :=
 ⟨h.p.later hb, h.d.later hb, h.l, h.m.later hb, h.b.trans (hb.mono h.b.size), h.o1, h.o2, h.o3⟩
theorem RSt.set (h : RSt w0 P D g x A c n m wr) (p : Nat) : RSt w0 P D g x A c n (m.set p true) (wr.setCell ⟨g, p, none⟩ (.bool true)) :=
 ⟨h.p.far (p := ⟨g, p, none⟩) h.o1 _, h.d.far (p := ⟨g, p, none⟩) h.o2 _, by rw [List.length_set]; exact h.l, by rw [← bv_set]; exact h.m.set p _, h.b.setCell (p := ⟨g, p, none⟩) h.o3 _, h.o1, h.o2, h.o3⟩
end

end Go.Proofs.Ytjieilicjdoaaaa

/- Which tasks may begin, as the reference asks: l3Some, l3Coming, l3Can, EnaCan, EnaTasks. -/
namespace Go.Proofs.Ytjieilicjdoaaaa
open Go.RowKit
set_option linter.unusedSimpArgs false
set_option linter.unusedVariables false

theorem all_snocB {α : Type} (p : α → Bool) (xs : List α) (k : Nat) (hk : k < xs.length) : (xs.take (k + 1)).all p = ((xs.take k).all p && p xs[k]) := by
 rw [List.take_succ_eq_append_getElem hk, List.all_append]; simp
theorem getD_at {ms : List Int} {p : Nat} (h : p < ms.length) : ms.getD p 0 = ms[p] := by simp [List.getD_eq_getElem?_getD, List.getElem?_eq_getElem h]

set_option maxRecDepth 100000 in
set_option maxHeartbeats 1000000 in
theorem spec_l3Some (A : Option Addr) (c : Nat) (ms : List Int) (A2 : Option Addr) (c2 : Nat) (l : List Int) (w : World) (B : Nat) (h1 : Ints w B A ms) (h2 : Ints w B A2 l) (hb : ∀ y ∈ l, 0 ≤ y ∧ y < ms.length) :
  Calls Try.prog 93 #[.slice A ms.length c, .slice A2 l.length c2] w fun e w' => e = .returned (.tuple #[.bool (someP ms l), .bool (allP ms l)]) ∧ w = w' := by
 have n1 := h1.1
 have n2 := h2.1
 have H1 := Lib.hid h1
 have H2 := Lib.hid h2
 have HB := Lib.hid hb
 clear h1 h2 hb
 go_enter Try.func93, Try.ntmps93
 go_wp2
 go_loopg [6, 7, 8] l.length (fun gg s6 s7 s8 wr => ∃ k : Nat, k ≤ l.length ∧ l.length - k ≤ gg ∧ s8 = .int .i64 k ∧ s6 = .bool (someP ms (l.take k)) ∧ s7 = .bool (allP ms (l.take k)) ∧ Aside (w = wr))
 case atStart => exact ⟨0, Nat.zero_le _, by omega, rfl, by simp [someP], by simp [allP], rfl⟩
 case round =>
  obtain ⟨k, hk, hg, rfl, rfl, rfl, EW⟩ := hrel
  obtain rfl := EW.out
  by_cases hlt : k < l.length
  ·
   have hltz : (k : Int) < (l.length : Int) := by omega
   have hyb := HB.out _ (List.getElem_mem hlt)
   obtain ⟨p, hp⟩ := Int.eq_ofNat_of_zero_le hyb.1
   have hs := anyB_snoc (fun p => decide (0 < mAt ms p)) l k hlt
   have ha := all_snocB (fun p => decide (0 < mAt ms p)) l k hlt
   obtain ⟨b2, o2, rfl, hb2, hc2⟩ := H2.out.at_ hlt
   rw [hp] at hyb hs ha hc2
   have hpl : p < ms.length := by omega
   have hpz : (p : Int) < (ms.length : Int) := by omega
   obtain ⟨b1, o1, rfl, hb1, hc1⟩ := H1.out.at_ hpl
   have hz : mAt ms (p : Int) = ms[p] := by rw [mAt, Int.toNat_natCast, getD_at hpl]
   rw [hz] at hs ha
   have HS : Hid (someP ms (l.take (k + 1)) = (someP ms (l.take k) || decide (0 < ms[p]))) := hs
   have HA : Hid (allP ms (l.take (k + 1)) = (allP ms (l.take k) && decide (0 < ms[p]))) := ha
   generalize ms[p] = z at hc1 HS HA
   clear hs ha hz hp
   by_cases h0 : 0 < z
   ·
    have hd : decide (0 < z) = true := by simp [h0]
    rw [hd] at HS HA
    cases q1 : someP ms (l.take k) <;> cases q2 : allP ms (l.take k)
    all_goals
     rw [q1] at HS
     rw [q2] at HA
     go_wp2
     go_roundg (l.length - (k + 1))
     case measure => omega
     case rel => exact ⟨k + 1, by omega, by omega, by go_num, by rw [HS.out]; rfl, by rw [HA.out]; rfl, rfl⟩
   ·
    have hd : decide (0 < z) = false := by simp; omega
    rw [hd] at HS HA
    cases q1 : someP ms (l.take k) <;> cases q2 : allP ms (l.take k)
    all_goals
     rw [q1] at HS
     rw [q2] at HA
     go_wp2
     go_roundg (l.length - (k + 1))
     case measure => omega
     case rel => exact ⟨k + 1, by omega, by omega, by go_num, by rw [HS.out]; rfl, by rw [HA.out]; rfl, rfl⟩
  ·
   have hltz : ¬ (k : Int) < (l.length : Int) := by omega
   have he : k = l.length := by omega
   subst he
   go_wp2
   go_ret2
   exact ⟨rfl, rfl⟩

theorem fromTo_zero (n : Nat) (ms : List Int) (t : GTask) : bv (fromTo n ms t 0) = List.replicate n (Value.bool false) := by simp [fromTo, bv]
set_option maxRecDepth 100000 in
set_option maxHeartbeats 4000000 in
theorem spec_l3Coming (x : GNet) (A : Option Addr) (c : Nat) (A1 : Option Addr) (c1 : Nat) (ms : List Int) (A2 : Option Addr) (c2 : Nat) (bs : List GItem) (k : Nat) (mo m2 : Option Nat) (w : World) (hfit : NetFit x)
  (hx : Rows taskC mo w w.heap.size A x.tasks) (h1 : Ints w w.heap.size A1 ms) (h2 : Rows itemC m2 w w.heap.size A2 bs) (hml : (ms.length : Int) = x.places) (hk : k < x.tasks.length) (hbs : ∀ b ∈ bs, 0 ≤ b.task ∧ b.task < x.tasks.length) :
  Calls Try.prog 94 #[.agg (netCells x A c), .slice A1 ms.length c1, .slice A2 bs.length c2, .int .i64 k] w (Says (.bool (coming x ms bs k)) w) := by
 obtain ⟨bA, oA, a1, d1, a2, d2, a3, d3, hAA, hbb, ⟨r1, r2, r3⟩, e0, e1, e2, e3, e4, e5, e6, e7, e8⟩ := task_at hx hk
 subst hAA
 have hfx := hfit.2 k hk
 have HCO : Hid (coming x ms bs k = hitB ms x.tasks[k] (cl x k (fromB x ms bs x.tasks[k]))) := by show _ = _; rw [coming, taskAt_get hk]
 generalize x.tasks[k] = y at hfx r1 r2 r3 e0 e1 e2 e3 e4 e5 e6 e7 e8 HCO
 obtain ⟨⟨hin3, hout3⟩, hin, _⟩ := hfx
 have HIN := Lib.hid hin
 have nb := h2.1
 have hkz : (k : Int) < (x.tasks.length : Int) := by omega
 have HX := Lib.hid hx
 have H1 := Lib.hid h1
 have H2 := Lib.hid h2
 have R1 := Lib.hid r1
 have HBS := Lib.hid hbs
 have HF := Lib.hid hfit
 obtain ⟨⟨hp2, hp8, ht1, ht6⟩, _⟩ := hfit
 obtain ⟨np, hnp⟩ := Int.eq_ofNat_of_zero_le (by omega : 0 ≤ x.places)
 have HML : Hid (ms.length = np) := (by omega : ms.length = np)
 have hml2 : np ≤ ms.length := by omega
 have HNP := Lib.hid hnp
 have hnp8 : np ≤ 8 := by omega
 have hnp2 : 2 ≤ np := by omega
 have TC : Hid (∀ W : World, Below w.heap.size w W → W.cell? ⟨bA, oA + k * 9 + 2, none⟩ = some (.slice a1 y.inn.length d1)) := fun W hb => (hb.cell (p := ⟨bA, oA + k * 9 + 2, none⟩) hbb).trans e2
 clear hx h1 h2 hml hbs hin r1 r2 r3 e0 e1 e2 e3 e4 e5 e6 e7 e8 hnp
 have hmk := run_make_row' (P := Try.prog) 130 4 (.bool false) 1 Try.underlying130 info_bool rfl .i64 .i64 np (by omega) (by omega)
 go_enter Try.func94, Try.ntmps94
 have hP0 : ∀ i, (World.alloc w (.cells (netCells x (some ⟨bA, oA, none⟩) c) 75)).cell? ⟨w.heap.size, i, none⟩ = #[Value.int .i64 (np : Int), .slice (some ⟨bA, oA, none⟩) x.tasks.length c][i]? := fun i => by
  rw [← HNP.out]
  exact (Bk.new (t := 75) (cs := netCells x (some ⟨bA, oA, none⟩) c) rfl).cell i
 go_upto_region 2 with fail
 clear hP0 hmk
 generalize hV : World.alloc (World.alloc w _) _ = w1
 have P1 : Hid (Bk w1 w.heap.size 75 (netCells x (some ⟨bA, oA, none⟩) c)) := by show Bk _ _ _ _; rw [← hV]; exact (Bk.new rfl).alloc _
 have B1 : Hid (Below w.heap.size w w1) := by show Below _ _ _; rw [← hV]; exact ((Below.refl _ _).alloc (Nat.le_refl _) _).alloc (by simp) _
 have HW : Hid (Wr w1 (w.heap.size + 1) 4 (bv (fromTo np ms y 0))) := by
  show Wr _ _ _ _
  have h := Wr.new (World.alloc w (.cells (netCells x (some ⟨bA, oA, none⟩) c) 75)) 4 (madeCells #[.bool false] np)
  rw [toList_madeCells_one] at h
  rw [← hV, fromTo_zero]
  simpa using h
 have hl1 := HW.out.lt
 clear hV
 go_wp2
 go_loopg [10] np (fun gg s10 wr => ∃ p : Nat, p ≤ np ∧ np - p ≤ gg ∧ s10 = .int .i64 p ∧ Aside (Below (w.heap.size + 1) w1 wr) ∧ Aside (Wr wr (w.heap.size + 1) 4 (bv (fromTo np ms y p))))
 case atStart => exact ⟨0, Nat.zero_le _, by omega, rfl, Below.refl _ _, HW.out⟩
 case round =>
  obtain ⟨p, hp, hg, rfl, BW, WW⟩ := hrel
  have PW : Hid (Bk wr w.heap.size 75 (netCells x (some ⟨bA, oA, none⟩) c)) := P1.out.belowG BW.out (by omega)
  have BX : Hid (Below w.heap.size w wr) := B1.out.trans (BW.out.mono (by omega))
  have k0 := fun i => PW.out.cell i
  rw [show netCells x (some ⟨bA, oA, none⟩) c = #[.int .i64 x.places, .slice (some ⟨bA, oA, none⟩) x.tasks.length c] from rfl, HNP.out] at k0
  have t2 := TC.out _ BX.out
  by_cases hlt : p < np
  ·
   have hltz : (p : Int) < (np : Int) := by omega
   have hpm : p < ms.length := by omega
   have hpz : (p : Int) < (ms.length : Int) := by omega
   obtain ⟨b1, o1, hA1, hb1, hc1⟩ := (H1.out.below BX.out).at_ hpm
   subst hA1
   have hst := fromTo_set (n := np) (ms := ms) (t := y) hlt
   have hfa : fromAt ms y p = (decide (0 < ms[p]) && !(y.inn.any fun z => decide (z = (p : Int)))) := by rw [fromAt, getD_at hpm]
   have hold := WW.out.cell (bv_get (m := fromTo np ms y p) (i := p) (by rw [fromTo_len (by omega)]; exact hlt))
   have hfr := WW.out.frozen p
   generalize hq : fromAt ms y p = q at hst hfa
   have hset := WW.out.set p (.bool q)
   rw [bv_set, hst] at hset
   have HSET := Lib.hid hset
   have HBS2 := Lib.hid (BW.out.setCell (p := ⟨w.heap.size + 1, p, none⟩) (Nat.le_refl _) (.bool q))
   generalize ms[p] = z at hc1 hfa
   clear hst hset hq
   by_cases h0 : 0 < z
   ·
    have hq2 : (!(y.inn.any fun z => decide (z = (p : Int)))) = q := by rw [hfa]; simp [h0]
    have HQ2 := Lib.hid hq2
    clear hfa hq2
    go_wp2_with (go_at_call 85; refine (l2Has _ _ y.inn _ _ w.heap.size (R1.out.below BX.out).ints).mono ?_; rintro e w' ⟨rfl, rfl⟩; rw [← Bool.not_not (y.inn.any _), HQ2.out])
    go_roundg (np - (p + 1))
    case measure => omega
    case rel => exact ⟨p + 1, by omega, by omega, by go_num, HBS2.out, HSET.out⟩
   ·
    have hq2 : q = false := by rw [hfa]; simp; omega
    subst hq2
    clear hfa
    go_wp2
    go_roundg (np - (p + 1))
    case measure => omega
    case rel => exact ⟨p + 1, by omega, by omega, by go_num, HBS2.out, HSET.out⟩
  ·
   have hltz : ¬ (p : Int) < (np : Int) := by omega
   have he : p = np := by omega
   subst he
   have hfl : (fromTo p ms y p).length = p := fromTo_len (Nat.le_refl _)
   have HFB : Hid (fromB x ms bs y = busyTo x (fromTo p ms y p) bs) := by show _ = _; rw [fromB, HNP.out, Int.toNat_natCast]
   generalize fromTo p ms y p = fr at WW hfl HFB
   have HFL := Lib.hid hfl
   clear hfl t2 hg hlt hltz
   obtain ⟨wo, hwo⟩ : ∃ wo : World, wo = wr := ⟨_, rfl⟩
   subst hwo
   go_wp2
   clear k0
   go_loopg [11] bs.length (fun gg s11 wr => ∃ i : Nat, i ≤ bs.length ∧ bs.length - i ≤ gg ∧ s11 = .int .i64 i ∧ Aside (Below (w.heap.size + 1) w1 wr) ∧ Aside (Wr wr (w.heap.size + 1) 4 (bv (busyTo x fr (bs.take i)))))
   case atStart => exact ⟨0, Nat.zero_le _, by omega, rfl, BW.out, WW.out⟩
   case round =>
    obtain ⟨i, hi, hgi, rfl, BI, WI⟩ := hrel
    have PI : Hid (Bk wr w.heap.size 75 (netCells x (some ⟨bA, oA, none⟩) c)) := P1.out.belowG BI.out (by omega)
    have BXI : Hid (Below w.heap.size w wr) := B1.out.trans (BI.out.mono (by omega))
    have k0 := fun i => PI.out.cell i
    rw [show netCells x (some ⟨bA, oA, none⟩) c = #[.int .i64 x.places, .slice (some ⟨bA, oA, none⟩) x.tasks.length c] from rfl] at k0
    by_cases hil : i < bs.length
    ·
     have hiz : (i : Int) < (bs.length : Int) := by omega
     obtain ⟨b3, o3, hA3, hb3, f0, f1, f2⟩ := item_at (H2.out.below BXI.out) hil
     subst hA3
     have hbt := HBS.out _ (List.getElem_mem hil)
     have hsn := busyTo_snoc x fr bs i hil
     obtain ⟨q, hq⟩ := Int.eq_ofNat_of_zero_le hbt.1
     rw [hq] at f0 hbt hsn
     rw [Int.toNat_natCast] at hsn
     have hql : q < x.tasks.length := by omega
     have hqz : (q : Int) < (x.tasks.length : Int) := by omega
     rw [taskAt_get hql] at hsn
     obtain ⟨bA', oA', a1', d1', a2', d2', a3', d3', hAA', hbb', ⟨_, r2', _⟩, _, _, _, e3', _, _, _, _, _⟩ := task_at HX.out hql
     cases hAA'
     have hfx' := HF.out.2 q hql
     have hv3 := hfx'.1.2
     have hmi : (busyTo x fr (bs.take i)).length = p := by rw [busyTo_len, HFL.out]
     generalize x.tasks[q] = v at hsn r2' e3' hfx' hv3
     generalize busyTo x fr (bs.take i) = mi at hsn hmi WI
     have HSN := Lib.hid hsn
     have HMI := Lib.hid hmi
     have TV : Hid (∀ W : World, Below w.heap.size w W → W.cell? ⟨bA, oA + q * 9 + 3, none⟩ = some (.slice a2' v.out.length d2')) := fun W hb => (hb.cell (p := ⟨bA, oA + q * 9 + 3, none⟩) hbb').trans e3'
     have R2 := Lib.hid r2'
     have HOUT := Lib.hid hfx'.2.2
     have t3 := TV.out _ BXI.out
     clear hsn hmi r2' e3' hfx' hq f1 f2
     obtain ⟨wi, hwi⟩ : ∃ wi : World, wi = wr := ⟨_, rfl⟩
     subst hwi
     go_wp2
     go_quiet (fail)
     go_wp2
     clear k0 t3
     go_loopg [13] v.out.length (fun gg s13 wr => ∃ j : Nat, j ≤ v.out.length ∧ v.out.length - j ≤ gg ∧ s13 = .int .i64 j ∧ Aside (Below (w.heap.size + 1) wi wr) ∧ Aside (Wr wr (w.heap.size + 1) 4 (bv (markAll mi (v.out.take j)))))
     case atStart => exact ⟨0, Nat.zero_le _, by omega, rfl, bdN (Below.refl _ _) _, WI.out⟩
     case round =>
      obtain ⟨j, hj, hgj, rfl, BJ, WJ⟩ := hrel
      have BXJ : Hid (Below w.heap.size w wr) := BXI.out.trans (BJ.out.mono (by omega))
      by_cases hjl : j < v.out.length
      ·
       have hjz : (j : Int) < (v.out.length : Int) := by omega
       obtain ⟨b2, o2, hA2, _, f0, f1, f2, f3⟩ := flow_at (R2.out.below BXJ.out) hjl
       subst hA2
       have hpb := HOUT.out _ (List.getElem_mem hjl)
       have hsn := markAll_snoc mi v.out j hjl
       have hml : (markAll mi (v.out.take j)).length = p := by rw [markAll_len, HMI.out]
       obtain ⟨z, hz⟩ := Int.eq_ofNat_of_zero_le (by omega : 0 ≤ v.out[j].to)
       rw [hz] at f0 hpb hsn
       rw [Int.toNat_natCast] at hsn
       have hzm : z < p := by have := HNP.out; omega
       have hzz : (z : Int) < (p : Int) := by omega
       have hold := WJ.out.cell (bv_get (m := markAll mi (v.out.take j)) (i := z) (by omega))
       have hfr := WJ.out.frozen z
       have hset := WJ.out.set z (.bool true)
       rw [bv_set, ← hsn] at hset
       have HSET := Lib.hid hset
       have HBS := Lib.hid (BJ.out.setCell (p := ⟨w.heap.size + 1, z, none⟩) (Nat.le_refl _) (.bool true))
       clear hsn hz hset hml f1 f2 f3
       go_wp2
       go_roundg (v.out.length - (j + 1))
       case measure => omega
       case rel => exact ⟨j + 1, by omega, by omega, by go_num, HBS.out, HSET.out⟩
      ·
       have hjz : ¬ (j : Int) < (v.out.length : Int) := by omega
       have he : j = v.out.length := by omega
       subst he
       have WJ2 : Hid (Wr wr (w.heap.size + 1) 4 (bv (markAll mi v.out))) := by
        have h := WJ.out
        rw [List.take_length] at h
        exact h
       go_wp2
       go_roundg (bs.length - (i + 1))
       case measure => omega
       case rel => exact ⟨i + 1, by omega, by omega, by go_num, BI.out.trans BJ.out, by show Wr _ _ _ _; rw [HSN.out]; exact WJ2.out⟩
    ·
     have hiz : ¬ (i : Int) < (bs.length : Int) := by omega
     have he : i = bs.length := by omega
     subst he
     have WF : Hid (Wr wr (w.heap.size + 1) 4 (bv (fromB x ms bs y))) := by
      have h := WI.out
      rw [List.take_length, ← HFB.out] at h
      exact h
     have hsp := spec_l2Spread x (some ⟨bA, oA, none⟩) c (w.heap.size + 1) p (fromB x ms bs y) (k : Int) mo wr HF.out (HX.out.later BXI.out) WF.out (fromB_len _ _ _ _)
     have hfb : (fromB x ms bs y).length = p := by rw [fromB_len, HNP.out, Int.toNat_natCast]
     have hcl : (cl x k (fromB x ms bs y)).length = p := by rw [cl_len, hfb]
     rw [hfb] at hsp
     unfold GivesB at hsp
     rw [hcl] at hsp
     have HSP := Lib.hid hsp
     have HCO2 : Hid (coming x ms bs k = hitB ms y (cl x k (fromB x ms bs y))) := HCO.out
     generalize cl x k (fromB x ms bs y) = cc at HSP HCO2 hcl
     have HCL := Lib.hid hcl
     clear hsp hfb hcl
     go_wp2_with fail
     refine HSP.out.mono ?_
     rintro e w5 ⟨g5, c5, rfl, hg5, hw5, hb5⟩
     have P5 := Lib.hid (PI.out.later hb5)
     have B5 := Lib.hid (BXI.out.trans (hb5.mono BXI.out.size))
     have W5 := Lib.hid hw5
     clear hb5 hw5 k0 HSP
     have k0 := fun i => P5.out.cell i
     rw [show netCells x (some ⟨bA, oA, none⟩) c = #[.int .i64 x.places, .slice (some ⟨bA, oA, none⟩) x.tasks.length c] from rfl] at k0
     have t2 := TC.out _ B5.out
     go_wp2
     go_loopg [15] y.inn.length (fun gg s15 wr => ∃ j : Nat, j ≤ y.inn.length ∧ y.inn.length - j ≤ gg ∧ s15 = .int .i64 j ∧ Aside (w5 = wr) ∧ Aside ((y.inn.take j).any (fun q => decide (mAt ms q = 0) && bAt cc q.toNat) = false))
     case atStart => exact ⟨0, Nat.zero_le _, by omega, rfl, rfl, by show (y.inn.take 0).any _ = false; simp⟩
     case round =>
      obtain ⟨j, hj, hgj, rfl, EW, AN⟩ := hrel
      obtain rfl := EW.out
      by_cases hjl : j < y.inn.length
      ·
       have hjz : (j : Int) < (y.inn.length : Int) := by omega
       obtain ⟨b1, o1, hA1, _, hc1⟩ := (R1.out.below B5.out).ints.at_ hjl
       subst hA1
       have hpb := HIN.out _ (List.getElem_mem hjl)
       have hmiss := any_miss (fun q => decide (mAt ms q = 0) && bAt cc q.toNat) y.inn j hjl AN.out
       have hhit := any_hit (fun q => decide (mAt ms q = 0) && bAt cc q.toNat) y.inn j hjl
       obtain ⟨q, hq⟩ := Int.eq_ofNat_of_zero_le hpb.1
       rw [hq] at hc1 hpb hmiss hhit
       rw [Int.toNat_natCast] at hmiss hhit
       have hqp : q < p := by have := HNP.out; omega
       have hqm : q < ms.length := by omega
       have hqz : (q : Int) < (p : Int) := by omega
       have hqz2 : (q : Int) < (ms.length : Int) := by omega
       obtain ⟨b4, o4, hA4, _, hc4⟩ := (H1.out.below B5.out).at_ hqm
       subst hA4
       have hcb := W5.out.cell (bv_get (m := cc) (i := q) (by have := HCL.out; omega))
       rw [show mAt ms (q : Int) = ms[q] from by rw [mAt, Int.toNat_natCast, getD_at hqm]] at hmiss hhit
       have HMISS := Lib.hid hmiss
       have HHIT := Lib.hid hhit
       generalize ms[q] = z at hc4 HMISS HHIT
       clear hmiss hhit hq
       by_cases h0 : z = 0
       ·
        have hb0 : (z == 0) = true := by simp [h0]
        cases qc : bAt cc q with
        | true =>
         have HS := Lib.hid (HHIT.out (by simp [h0, qc]))
         rw [qc] at hcb
         clear h0
         go_wp2
         go_ret
         exact ⟨by rw [HCO2.out, hitB, HS.out]; rfl, B5.out⟩
        | false =>
         have HS := Lib.hid (HMISS.out (by simp [qc]))
         rw [qc] at hcb
         clear h0
         go_wp2
         go_roundg (y.inn.length - (j + 1))
         case measure => omega
         case rel => exact ⟨j + 1, by omega, by omega, by go_num, rfl, HS.out⟩
       ·
        have hb0 : (z == 0) = false := by simp [h0]
        have HS := Lib.hid (HMISS.out (by simp [h0]))
        clear h0
        go_wp2
        go_roundg (y.inn.length - (j + 1))
        case measure => omega
        case rel => exact ⟨j + 1, by omega, by omega, by go_num, rfl, HS.out⟩
      ·
       have hjz : ¬ (j : Int) < (y.inn.length : Int) := by omega
       have he : j = y.inn.length := by omega
       subst he
       have HS : Hid (hitB ms y cc = false) := by
        have h := AN.out
        rw [List.take_length] at h
        exact h
       go_wp2
       go_ret
       exact ⟨by rw [HCO2.out, HS.out]; rfl, B5.out⟩
end Go.Proofs.Ytjieilicjdoaaaa

/- Which tasks may begin, as the reference asks: l3Can, EnaCan, EnaTasks. -/
namespace Go.Proofs.Ytjieilicjdoaaaa
open Go.RowKit
set_option linter.unusedSimpArgs false
set_option linter.unusedVariables false

theorem canP_of {x : GNet} {ms : List Int} {bs : List GItem} {k : Nat} {y : GTask} (h : taskAt x k = y) :
  canP x ms bs k = if y.join = 1 then allP ms y.inn else if y.join = 2 then someP ms y.inn else someP ms y.inn && (allP ms y.inn || !coming x ms bs k) := by subst h; rfl

set_option maxRecDepth 100000 in
set_option maxHeartbeats 4000000 in
theorem spec_l3Can (x : GNet) (A : Option Addr) (c : Nat) (A1 : Option Addr) (c1 : Nat) (ms : List Int) (A2 : Option Addr) (c2 : Nat) (bs : List GItem) (k : Nat) (mo m2 : Option Nat) (w : World) (hfit : NetFit x)
  (hx : Rows taskC mo w w.heap.size A x.tasks) (h1 : Ints w w.heap.size A1 ms) (h2 : Rows itemC m2 w w.heap.size A2 bs) (hml : (ms.length : Int) = x.places) (hk : k < x.tasks.length) (hbs : ∀ b ∈ bs, 0 ≤ b.task ∧ b.task < x.tasks.length) :
  Calls Try.prog 92 #[.agg (netCells x A c), .slice A1 ms.length c1, .slice A2 bs.length c2, .int .i64 k] w (Says (.bool (canP x ms bs k)) w) := by
 obtain ⟨bA, oA, a1, d1, a2, d2, a3, d3, hAA, hbb, ⟨r1, r2, r3⟩, e0, e1, e2, e3, e4, e5, e6, e7, e8⟩ := task_at hx hk
 subst hAA
 have hfx := hfit.2 k hk
 have HCP := Lib.hid (canP_of (ms := ms) (bs := bs) (taskAt_get hk))
 have HCOM := Lib.hid (fun (W : World) (hb : Below w.heap.size w W) => spec_l3Coming x (some ⟨bA, oA, none⟩) c A1 c1 ms A2 c2 bs k mo m2 W hfit (hx.later hb) (h1.later hb) (h2.later hb) hml hk hbs)
 generalize x.tasks[k] = y at hfx r1 r2 r3 e0 e1 e2 e3 e4 e5 e6 e7 e8 HCP
 obtain ⟨_, hin, _⟩ := hfx
 have hkz : (k : Int) < (x.tasks.length : Int) := by omega
 have H1 := Lib.hid h1
 have R1 := Lib.hid r1
 have HIN : Hid (∀ z ∈ y.inn, 0 ≤ z ∧ z < ms.length) := fun z hz => by have := hin z hz; omega
 clear hx h1 h2 hbs hin r1 r2 r3 e1 e3 e4 e5 e6 e7 e8 hfit hml
 go_enter Try.func92, Try.ntmps92
 go_wp2_with fail
 refine callsAt fun W hW => ?_
 have P1 : Hid (Bk W w.heap.size 75 (netCells x (some ⟨bA, oA, none⟩) c)) := by show Bk _ _ _ _; rw [hW]; exact Bk.new rfl
 have B1 : Hid (Below w.heap.size w W) := by show Below _ _ _; rw [hW]; exact (Below.refl _ _).alloc (Nat.le_refl _) _
 clear hW
 have k0 := fun i => P1.out.cell i
 rw [show netCells x (some ⟨bA, oA, none⟩) c = #[.int .i64 x.places, .slice (some ⟨bA, oA, none⟩) x.tasks.length c] from rfl] at k0
 have t0 := (B1.out.cell (p := ⟨bA, oA + k * 9, none⟩) hbb).trans e0
 clear e0 e2
 refine (spec_l3Some A1 c1 ms a1 d1 y.inn W w.heap.size (H1.out.below B1.out) (R1.out.below B1.out).ints HIN.out).mono ?_
 rintro e w' ⟨rfl, rfl⟩
 by_cases j1 : y.join = 1
 ·
  have hb1 : (y.join == 1) = true := by simp [j1]
  have HS : Hid (canP x ms bs k = allP ms y.inn) := by show _ = _; rw [HCP.out, if_pos j1]
  clear j1
  go_wp2
  go_ret
  exact ⟨by rw [HS.out]; rfl, B1.out⟩
 have hb1 : (y.join == 1) = false := by simp [j1]
 by_cases j2 : y.join = 2
 ·
  have hb2 : (y.join == 2) = true := by simp [j2]
  have HS : Hid (canP x ms bs k = someP ms y.inn) := by show _ = _; rw [HCP.out, if_neg j1, if_pos j2]
  clear j1 j2
  go_wp2
  go_ret
  exact ⟨by rw [HS.out]; rfl, B1.out⟩
 have hb2 : (y.join == 2) = false := by simp [j2]
 have HS : Hid (canP x ms bs k = (someP ms y.inn && (allP ms y.inn || !coming x ms bs k))) := by show _ = _; rw [HCP.out, if_neg j1, if_neg j2]
 clear j1 j2
 cases q1 : someP ms y.inn with
 | false =>
  go_wp2
  go_ret
  exact ⟨by rw [HS.out, q1]; rfl, B1.out⟩
 | true =>
 cases q2 : allP ms y.inn with
 | true =>
  go_wp2
  go_ret
  exact ⟨by rw [HS.out, q1, q2]; rfl, B1.out⟩
 | false =>
 go_wp2_with fail
 refine (HCOM.out _ B1.out).mono ?_
 rintro e w2 ⟨rfl, hb⟩
 have B2 := Lib.hid (B1.out.trans (hb.mono B1.out.size))
 clear hb
 go_wp2
 go_ret
 exact ⟨by rw [HS.out, q1, q2]; rfl, B2.out⟩

/-- Task t may begin. -/
def enaCan (x : GNet) (ms : List Int) (bs : List GItem) (t : Int) : Bool := mrkOk x ms && (busyOk x bs && (inB t 0 ((x.tasks.length : Int) - 1) && canP x ms bs t.toNat))
theorem busy_tasks {x : GNet} {bs : List GItem} (h : busyOk x bs = true) : ∀ b ∈ bs, 0 ≤ b.task ∧ b.task < x.tasks.length := fun b hb => by
 unfold busyOk at h
 rw [Bool.and_eq_true, List.all_eq_true] at h
 have h2 := h.2 b hb
 unfold busyAt at h2
 rw [Bool.and_eq_true, inB_iff] at h2
 omega
theorem mrk_len {x : GNet} {ms : List Int} (h : mrkOk x ms = true) : netOk x = true ∧ (ms.length : Int) = x.places := by
 unfold mrkOk at h
 rw [Bool.and_eq_true] at h
 exact ⟨h.1, (marksOk_iff.1 h.2).1⟩

set_option maxRecDepth 100000 in
set_option maxHeartbeats 2000000 in
theorem spec_EnaCan (x : GNet) (A : Option Addr) (c : Nat) (A1 : Option Addr) (c1 : Nat) (ms : List Int) (A2 : Option Addr) (c2 : Nat) (bs : List GItem) (t : Int) (mo m2 : Option Nat) (w : World)
  (hx : Rows taskC mo w w.heap.size A x.tasks) (h1 : Ints w w.heap.size A1 ms) (h2 : Rows itemC m2 w w.heap.size A2 bs) :
  Calls Try.prog 81 #[.agg (netCells x A c), .slice A1 ms.length c1, .slice A2 bs.length c2, .int .i64 t] w (Says (.bool (enaCan x ms bs t)) w) := by
 have nx := hx.1
 have HX := Lib.hid hx
 have H1 := Lib.hid h1
 have H2 := Lib.hid h2
 clear hx h1 h2
 go_enter Try.func81, Try.ntmps81
 go_wp2_with fail
 refine callsAt fun W hW => ?_
 have P1 : Hid (Bk W w.heap.size 75 (netCells x A c)) := by show Bk _ _ _ _; rw [hW]; exact Bk.new rfl
 have B : Hid (Below w.heap.size w W) := by show Below _ _ _; rw [hW]; exact (Below.refl _ _).alloc (Nat.le_refl _) _
 clear hW
 refine (spec_MrkOk x A c A1 c1 ms mo W (HX.out.later B.out) (H1.out.later B.out)).mono ?_
 rintro e w1 ⟨rfl, hb⟩
 have P1 := Lib.hid (P1.out.later hb)
 have B := Lib.hid (B.out.trans (hb.mono B.out.size))
 clear hb
 have k0 := fun i => P1.out.cell i
 cases q1 : mrkOk x ms with
 | false =>
  have HE : Hid (enaCan x ms bs t = false) := by show _ = _; rw [enaCan, q1]; rfl
  go_wp2
  go_ret
  exact ⟨by rw [HE.out]; rfl, B.out⟩
 | true =>
 obtain ⟨hnet, hml⟩ := mrk_len q1
 have HNET := Lib.hid hnet
 have HML := Lib.hid hml
 clear hnet hml
 go_wp2_with fail
 clear k0
 refine (l3Busy x A c A2 c2 bs mo m2 _ HNET.out (HX.out.later B.out) (H2.out.later B.out)).mono ?_
 rintro e w2 ⟨rfl, hb⟩
 have P1 := Lib.hid (P1.out.later hb)
 have B := Lib.hid (B.out.trans (hb.mono B.out.size))
 clear hb
 have k0 := fun i => P1.out.cell i
 cases q2 : busyOk x bs with
 | false =>
  have HE : Hid (enaCan x ms bs t = false) := by show _ = _; rw [enaCan, q1, q2]; rfl
  go_wp2
  go_ret
  exact ⟨by rw [HE.out]; rfl, B.out⟩
 | true =>
 rw [show netCells x A c = #[.int .i64 x.places, .slice A x.tasks.length c] from rfl] at k0
 go_wp2_with fail
 refine (l1In t 0 ((x.tasks.length : Int) - 1) _).mono ?_
 rintro e w' ⟨rfl, rfl⟩
 cases q3 : inB t 0 ((x.tasks.length : Int) - 1) with
 | false =>
  have HE : Hid (enaCan x ms bs t = false) := by show _ = _; rw [enaCan, q1, q2, q3]; rfl
  go_wp2
  go_ret
  exact ⟨by rw [HE.out]; rfl, B.out⟩
 | true =>
 have ht := inB_iff.1 q3
 obtain ⟨k, rfl⟩ := Int.eq_ofNat_of_zero_le ht.1
 have hk : k < x.tasks.length := by omega
 have HE : Hid (enaCan x ms bs k = canP x ms bs k) := by show _ = _; rw [enaCan, q1, q2, q3, Int.toNat_natCast]; rfl
 have HBS := Lib.hid (busy_tasks q2)
 clear q1 q2 q3 ht
 go_wp2_with fail
 clear k0
 refine (spec_l3Can x A c A1 c1 ms A2 c2 bs k mo m2 _ (netFit HNET.out) (HX.out.later B.out) (H1.out.later B.out) (H2.out.later B.out) HML.out hk HBS.out).mono ?_
 rintro e w3 ⟨rfl, hb⟩
 have B := Lib.hid (B.out.trans (hb.mono B.out.size))
 clear hb
 go_wp2
 go_ret
 exact ⟨by rw [HE.out]; rfl, B.out⟩
end Go.Proofs.Ytjieilicjdoaaaa

/- What may still come, as the program asks: arrives. -/
namespace Go.Proofs.Ytjieilicjdoaaaa
open Go.RowKit
set_option linter.unusedSimpArgs false
set_option linter.unusedVariables false

end Go.Proofs.Ytjieilicjdoaaaa

/- Which tasks may begin: impl.EnaTasks and spec.EnaTasks give the same. -/
namespace Go.Proofs.Ytjieilicjdoaaaa
open Go.RowKit
set_option linter.unusedSimpArgs false
set_option linter.unusedVariables false

theorem enaOf_as (x : GNet) (ms : List Int) (bs : List GItem) : enaOf x ms bs = enaTo (fun k => enaCan x ms bs (k : Int)) x.tasks.length := by
 have hc : ∀ k, k < x.tasks.length → enaCan x ms bs (k : Int) = ((mrkOk x ms && busyOk x bs) && canP x ms bs k) := fun k hk => by
  have h3 : inB (k : Int) 0 ((x.tasks.length : Int) - 1) = true := inB_true (by omega) (by omega)
  rw [enaCan, h3, Int.toNat_natCast, Bool.true_and, Bool.and_assoc]
 have hf : (List.range x.tasks.length).filter (fun k : Nat => enaCan x ms bs (k : Int)) = (List.range x.tasks.length).filter (fun k : Nat => (mrkOk x ms && busyOk x bs) && canP x ms bs k) :=
  List.filter_congr fun k hk => hc k (List.mem_range.1 hk)
 unfold enaOf enaTo
 rw [hf]
 cases q : (mrkOk x ms && busyOk x bs) with
 | true => simp
 | false => simp

set_option maxRecDepth 100000 in
set_option maxHeartbeats 2000000 in
theorem spec_EnaTasks (x : GNet) (A : Option Addr) (c : Nat) (A1 : Option Addr) (c1 : Nat) (ms : List Int) (A2 : Option Addr) (c2 : Nat) (bs : List GItem) (mo m2 : Option Nat) (w : World)
  (hx : Rows taskC mo w w.heap.size A x.tasks) (h1 : Ints w w.heap.size A1 ms) (h2 : Rows itemC m2 w w.heap.size A2 bs) (hl : x.tasks.length ≤ 1048576) :
  Calls Try.prog 71 #[.agg (netCells x A c), .slice A1 ms.length c1, .slice A2 bs.length c2] w (GivesInts (enaOf x ms bs) w) := by
 have HX := Lib.hid hx
 have H1 := Lib.hid h1
 have H2 := Lib.hid h2
 have HE := Lib.hid (enaOf_as x ms bs)
 clear hx h1 h2
 go_enter Try.func71, Try.ntmps71
 go_upto_region 2 with fail
 generalize hV : World.alloc (World.alloc w _) _ = w1
 have P1 : Hid (Bk w1 w.heap.size 75 (netCells x A c)) := by show Bk _ _ _ _; rw [← hV]; exact (Bk.new rfl).alloc _
 have B1 : Hid (Below w.heap.size w w1) := by show Below _ _ _; rw [← hV]; exact ((Below.refl _ _).alloc (Nat.le_refl _) _).alloc (by simp) _
 have O1 : Hid (OwnV w1 (w.heap.size + 1) (.slice (some ⟨w.heap.size + 1, 0, none⟩) 0 0) []) := by
  show OwnV _ _ _ _
  have h := OwnV.made' (w := World.alloc w (.cells (netCells x A c) 75)) (base := w.heap.size + 1) (by simp)
  rw [← hV]
  simpa using h
 have hl1 : w.heap.size + 1 ≤ w1.heap.size := by rw [← hV]; simp
 clear hV
 go_wp2
 go_loopg [7, 8] x.tasks.length (fun gg s7 s8 wr => ∃ k : Nat, k ≤ x.tasks.length ∧ x.tasks.length - k ≤ gg ∧ s8 = .int .i64 k ∧ Aside (Below (w.heap.size + 1) w1 wr) ∧ Aside (OwnV wr (w.heap.size + 1) s7 (enaTo (fun k => enaCan x ms bs (k : Int)) k)))
 case atStart => exact ⟨0, Nat.zero_le _, by omega, rfl, Below.refl _ _, O1.out⟩
 case round =>
  obtain ⟨k, hk, hg, rfl, BW, OW⟩ := hrel
  have PW : Hid (Bk wr w.heap.size 75 (netCells x A c)) := P1.out.belowG BW.out (by omega)
  have BX : Hid (Below w.heap.size w wr) := B1.out.trans (BW.out.mono (by omega))
  have hlw := BW.out.size
  have k0 := fun i => PW.out.cell i
  rw [show netCells x A c = #[.int .i64 x.places, .slice A x.tasks.length c] from rfl] at k0
  have hel := enaTo_len (fun k => enaCan x ms bs (k : Int)) k
  by_cases hlt : k < x.tasks.length
  ·
   have hltz : (k : Int) < (x.tasks.length : Int) := by omega
   cases q : enaCan x ms bs (k : Int) with
   | true =>
    have HS := Lib.hid (enaTo_yes (p := fun k => enaCan x ms bs (k : Int)) (k := k) q)
    go_wp2_with (first
     | (go_at_call 81; refine (spec_EnaCan x A c A1 c1 ms A2 c2 bs (k : Int) mo m2 wr (HX.out.later BX.out) (H1.out.later BX.out) (H2.out.later BX.out)).mono ?_; rintro e w5 ⟨rfl, hb5⟩; rw [q]; have HB5 := Lib.hid hb5; have hl5 := hb5.size; clear hb5)
     | (at_builtin; refine append_int rfl (.tmp 22) (.tmp 24) rfl (w.heap.size + 1) _ _ rfl ((OW.out.later HB5.out).alloc _) w5.heap.size (k : Int) rfl (by simp) (by omega) (by simp; omega) ?_; intro v' w6 hown6 hb6; have HO6 := Lib.hid hown6; have HB6 := Lib.hid hb6; clear hown6 hb6))
    go_roundg (x.tasks.length - (k + 1))
    case measure => omega
    case rel => exact ⟨k + 1, by omega, by omega, by go_num, ((BW.out.trans (HB5.out.mono (by omega))).alloc (by omega) _).trans HB6.out, by show OwnV _ _ _ _; rw [HS.out]; exact HO6.out⟩
   | false =>
    have HS := Lib.hid (enaTo_no (p := fun k => enaCan x ms bs (k : Int)) (k := k) q)
    go_wp2_with (go_at_call 81; refine (spec_EnaCan x A c A1 c1 ms A2 c2 bs (k : Int) mo m2 wr (HX.out.later BX.out) (H1.out.later BX.out) (H2.out.later BX.out)).mono ?_; rintro e w5 ⟨rfl, hb5⟩; rw [q]; have HB5 := Lib.hid hb5; have hl5 := hb5.size; clear hb5)
    go_roundg (x.tasks.length - (k + 1))
    case measure => omega
    case rel => exact ⟨k + 1, by omega, by omega, by go_num, BW.out.trans (HB5.out.mono (by omega)), by show OwnV _ _ _ _; rw [HS.out]; exact OW.out.later HB5.out⟩
  ·
   have hltz : ¬ (k : Int) < (x.tasks.length : Int) := by omega
   have he : k = x.tasks.length := by omega
   subst he
   go_wp2
   go_ret
   exact ⟨_, rfl, by rw [HE.out]; exact OW.out.low (by omega), BX.out⟩

end Go.Proofs.Ytjieilicjdoaaaa

