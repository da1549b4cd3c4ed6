/- Who may do a task: PplMay of the program and of the reference. -/
import Derived.Test.YtkkjljpokannkaaFree
import Derived.Test.YtkkjljpokannkaaDid
import Derived.Test.YtkkjljpokannkaaBusyImpl
import Derived.Test.YtkkjljpokannkaaOwn0
namespace Go.Proofs.Ytkkjljpokannkaa
open Go.RowKit
set_option linter.unusedSimpArgs false
set_option linter.unusedVariables false

def onIt (apart who : Int) (b : GItem) : Bool := (b.task == apart) && (b.who == who)
/-- Whether somebody may do a task: has its role, does not do the one from which it is kept apart, and has not done it. -/
def mayP (xs : List Int) (ds : List GDid) (bs : List GItem) (t : GTask) (who : Int) : Bool :=
  pplHas xs who t.role && (!(bs.any (onIt t.apart who)) && !pplDid ds who t.apart)
def mayOf (x : GNet) (xs : List Int) (ds : List GDid) (bs : List GItem) (t : Int) : List Int :=
  if netOk x = true then (if inB t 0 ((x.tasks.length : Int) - 1) = true then personsOf xs (mayP xs ds bs (x.tasks.getD t.toNat task0)) else []) else []
theorem mayOf_no {x : GNet} {xs : List Int} {ds : List GDid} {bs : List GItem} {t : Int} (h : netOk x = false ∨ inB t 0 ((x.tasks.length : Int) - 1) = false ∨ pplOk xs = false) : mayOf x xs ds bs t = [] := by
  unfold mayOf personsOf
  rcases h with h | h | h
  · rw [if_neg (by rw [h]; simp)]
  · split
    · rw [if_neg (by rw [h]; simp)]
    · rfl
  · split
    · split
      · rw [if_neg (by rw [h]; simp)]
      · rfl
    · rfl
theorem mayOf_len (x : GNet) (xs : List Int) (ds : List GDid) (bs : List GItem) (t : Int) : (mayOf x xs ds bs t).length ≤ 4 := by
  unfold mayOf
  split
  · split
    · exact personsOf_len _ _
    · simp
  · simp

theorem may_pred2 (B1 B2 : Nat) (apart who : Int) (w : World) (h1 : B1 < w.heap.size) (h2 : B2 < w.heap.size) (c1 : w.cell? ⟨B1, 6, none⟩ = some (.int .i64 apart)) (c2 : w.cell? ⟨B2, 0, none⟩ = some (.int .i64 who)) :
    PredItem 131 #[.pointer (some ⟨B1, 0, none⟩), .pointer (some ⟨B2, 0, none⟩)] (onIt apart who) w := by
  intro W x hb
  have d1 := (hb.cell (p := ⟨B1, 6, none⟩) h1).trans c1
  have d2 := (hb.cell (p := ⟨B2, 0, none⟩) h2).trans c2
  have hsz := hb.size
  clear c1 c2
  obtain ⟨xt, xw, xd⟩ := x
  show Calls Try.prog 131 #[.agg #[.int .i64 xt, .int .i64 xw, .int .i64 xd], .pointer (some ⟨B1, 0, none⟩), .pointer (some ⟨B2, 0, none⟩)] W _
  have e1 : ∀ o, (W.alloc o).cell? ⟨B1, 6, none⟩ = some (.int .i64 apart) := fun o => by rw [World.cell?_alloc_lt W o ⟨B1, 6, none⟩ (by show B1 < _; omega)]; exact d1
  have e2 : ∀ o, (W.alloc o).cell? ⟨B2, 0, none⟩ = some (.int .i64 who) := fun o => by rw [World.cell?_alloc_lt W o ⟨B2, 0, none⟩ (by show B2 < _; omega)]; exact d2
  clear d1 d2
  by_cases hq : xt = apart
  · subst hq
    go_enter Try.func131, Try.ntmps131
    go_wp2
    go_ret
    exact ⟨by simp [onIt], by go_grown⟩
  · have hb1 : (xt == apart) = false := by simp [hq]
    have HE : Hid (onIt apart who ⟨xt, xw, xd⟩ = false) := by show _ = _; simp [onIt, hb1]
    clear hq
    go_enter Try.func131, Try.ntmps131
    go_wp2
    go_ret
    exact ⟨by rw [HE.out]; rfl, by go_grown⟩

/-- What the closure that asks of somebody has caught. -/
structure MayAt (B8 B11 B6 B7 : Nat) (A1 : Option Addr) (c1 : Nat) (xs : List Int) (A2 : Option Addr) (c2 : Nat) (ds : List GDid) (A3 : Option Addr) (c3 : Nat) (bs : List GItem) (t : GTask) (m : Option Nat) (W : World) : Prop where
  l8 : B8 < W.heap.size
  l11 : B11 < W.heap.size
  l6 : B6 < W.heap.size
  l7 : B7 < W.heap.size
  c8 : W.cell? ⟨B8, 0, none⟩ = some (.slice A3 bs.length c3)
  cr : W.cell? ⟨B11, 5, none⟩ = some (.int .i64 t.role)
  ca : W.cell? ⟨B11, 6, none⟩ = some (.int .i64 t.apart)
  c6 : W.cell? ⟨B6, 0, none⟩ = some (.slice A1 xs.length c1)
  c7 : W.cell? ⟨B7, 0, none⟩ = some (.slice A2 ds.length c2)
  r1 : Ints W W.heap.size A1 xs
  r2 : Rows didC m W W.heap.size A2 ds
  r3 : Rows itemC m W W.heap.size A3 bs
theorem MayAt.later {B8 B11 B6 B7 : Nat} {A1 A2 A3 : Option Addr} {c1 c2 c3 : Nat} {xs : List Int} {ds : List GDid} {bs : List GItem} {t : GTask} {m : Option Nat} {W W' : World}
    (h : MayAt B8 B11 B6 B7 A1 c1 xs A2 c2 ds A3 c3 bs t m W) (hb : Below W.heap.size W W') : MayAt B8 B11 B6 B7 A1 c1 xs A2 c2 ds A3 c3 bs t m W' :=
  ⟨Nat.lt_of_lt_of_le h.l8 hb.size, Nat.lt_of_lt_of_le h.l11 hb.size, Nat.lt_of_lt_of_le h.l6 hb.size, Nat.lt_of_lt_of_le h.l7 hb.size,
   (hb.cell (p := ⟨B8, 0, none⟩) h.l8).trans h.c8, (hb.cell (p := ⟨B11, 5, none⟩) h.l11).trans h.cr, (hb.cell (p := ⟨B11, 6, none⟩) h.l11).trans h.ca, (hb.cell (p := ⟨B6, 0, none⟩) h.l6).trans h.c6, (hb.cell (p := ⟨B7, 0, none⟩) h.l7).trans h.c7,
   h.r1.later hb, h.r2.later hb, h.r3.later hb⟩

set_option maxHeartbeats 1000000 in
theorem may_pred (B8 B11 B6 B7 : Nat) (A1 : Option Addr) (c1 : Nat) (xs : List Int) (A2 : Option Addr) (c2 : Nat) (ds : List GDid) (A3 : Option Addr) (c3 : Nat) (bs : List GItem) (t : GTask) (m : Option Nat) (w : World)
    (h : MayAt B8 B11 B6 B7 A1 c1 xs A2 c2 ds A3 c3 bs t m w) :
    PredInt 130 #[.pointer (some ⟨B8, 0, none⟩), .pointer (some ⟨B11, 0, none⟩), .pointer (some ⟨B6, 0, none⟩), .pointer (some ⟨B7, 0, none⟩)] (mayP xs ds bs t) w := by
  intro W who hb
  have eg : ∀ args w, (callFunc 131 args).run Try.prog w = .ok (.enter 131 args) w := enters_of Try.func131 (by kernel_rfl) rfl
  have M := Lib.hid (h.later hb)
  clear h hb
  show Calls Try.prog 130 #[.int .i64 who, .pointer (some ⟨B8, 0, none⟩), .pointer (some ⟨B11, 0, none⟩), .pointer (some ⟨B6, 0, none⟩), .pointer (some ⟨B7, 0, none⟩)] W _
  have k8 := fun o => (M.out.later ((Below.refl _ _).alloc (Nat.le_refl _) o)).c8
  go_enter Try.func130, Try.ntmps130
  go_wp2_with fail
  refine callsAt fun V hV => ?_
  have hBV : Below W.heap.size W V := by rw [hV]; go_grown
  have hc : V.cell? ⟨W.heap.size, 0, none⟩ = some (.int .i64 who) := by rw [hV]; simp
  have hs : W.heap.size < V.heap.size := by rw [hV]; simp
  clear hV k8
  have MV := Lib.hid (M.out.later hBV)
  refine (containsFunc_item _ _ _ eg A3 c3 bs m V (may_pred2 B11 W.heap.size t.apart who V MV.out.l11 hs MV.out.ca hc) MV.out.r3).mono ?_
  rintro e w1 ⟨rfl, hb1⟩
  have M1 := Lib.hid (MV.out.later hb1)
  have HC1 := Lib.hid ((hb1.cell (p := ⟨W.heap.size, 0, none⟩) hs).trans hc)
  have HB1 := Lib.hid (hBV.trans (hb1.mono hBV.size))
  have hs1 := hb1.size
  clear hb1 hBV hc
  have k6 := M1.out.c6
  have kr := M1.out.cr
  have kc := HC1.out
  go_wp2_with fail
  refine (impl_PplHas A1 c1 xs who t.role _ M1.out.r1).mono ?_
  rintro e w2 ⟨rfl, hb2⟩
  have M2 := Lib.hid (M1.out.later hb2)
  have HC2 := Lib.hid ((hb2.cell (p := ⟨W.heap.size, 0, none⟩) (by show W.heap.size < _; omega)).trans HC1.out)
  have HB2 := Lib.hid (HB1.out.trans (hb2.mono HB1.out.size))
  clear hb2 k6 kr kc
  have k7 := M2.out.c7
  have ka := M2.out.ca
  have kc := HC2.out
  cases hp : pplHas xs who t.role with
  | false =>
    have HE : Hid (mayP xs ds bs t who = false) := by show _ = _; simp [mayP, hp]
    go_wp2
    go_ret
    exact ⟨by rw [HE.out]; rfl, HB2.out⟩
  | true =>
    cases hq : bs.any (onIt t.apart who) with
    | true =>
      have HE : Hid (mayP xs ds bs t who = false) := by show _ = _; simp only [mayP, hp, hq]; rfl
      go_wp2
      go_ret
      exact ⟨by rw [HE.out]; rfl, HB2.out⟩
    | false =>
      have HE : Hid (mayP xs ds bs t who = !pplDid ds who t.apart) := by show _ = _; simp only [mayP, hp, hq]; rfl
      go_wp2_with fail
      refine (impl_PplDid A2 c2 ds who t.apart _ m M2.out.r2).mono ?_
      rintro e w3 ⟨rfl, hb3⟩
      have HB3 := Lib.hid (HB2.out.trans (hb3.mono HB2.out.size))
      clear hb3
      go_wp2
      go_ret
      exact ⟨by rw [HE.out]; rfl, HB3.out⟩

set_option maxHeartbeats 2000000 in
theorem impl_PplMay (x : GNet) (A : Option Addr) (c : Nat) (A1 : Option Addr) (c1 : Nat) (xs : List Int) (A2 : Option Addr) (c2 : Nat) (ds : List GDid) (A3 : Option Addr) (c3 : Nat) (bs : List GItem) (t : Int) (m m2 m3 : Option Nat) (w : World)
    (hx : Rows taskC m w w.heap.size A x.tasks) (h1 : Ints w w.heap.size A1 xs) (h2 : Rows didC m2 w w.heap.size A2 ds) (h3 : Rows itemC m3 w w.heap.size A3 bs) :
    Calls Try.prog 50 #[.agg (netCells x A c), .slice A1 xs.length c1, .slice A2 ds.length c2, .slice A3 bs.length c3, .int .i64 t] w (GivesInts (mayOf x xs ds bs t) w) := by
  have eg : ∀ args w, (callFunc 130 args).run Try.prog w = .ok (.enter 130 args) w := enters_of Try.func130 (by kernel_rfl) rfl
  have nx := hx.1
  have HX := Lib.hid hx
  have H1 := Lib.hid h1
  have H2 := Lib.hid (h2.weak (Weaker.none m2))
  have H3 := Lib.hid (h3.weak (Weaker.none m3))
  clear hx h1 h2 h3
  go_enter Try.func50, Try.ntmps50
  go_wp2_with fail
  refine callsAt fun W hW => ?_
  have P0 : Hid (Bk W w.heap.size 37 (netCells x A c)) := by show Bk _ _ _ _; rw [hW]; exact (((Bk.new rfl).alloc _).alloc _).alloc _
  have P1 : Hid (Bk W (w.heap.size + 1) 23 #[.slice A1 xs.length c1]) := by show Bk _ _ _ _; rw [hW]; exact ((Bk.new (by simp)).alloc _).alloc _
  have P2 : Hid (Bk W (w.heap.size + 1 + 1) 61 #[.slice A2 ds.length c2]) := by show Bk _ _ _ _; rw [hW]; exact (Bk.new (by simp)).alloc _
  have P3 : Hid (Bk W (w.heap.size + 1 + 1 + 1) 24 #[.slice A3 bs.length c3]) := by show Bk _ _ _ _; rw [hW]; exact Bk.new (by simp)
  have B : Hid (Below w.heap.size w W) := by show Below _ _ _; rw [hW]; go_grown
  clear hW
  refine (impl_NetOk x _ m W ⟨A, c, rfl, HX.out.later B.out⟩).mono ?_
  rintro e w1 ⟨rfl, hb⟩
  have P0 := Lib.hid (P0.out.later hb)
  have P1 := Lib.hid (P1.out.later hb)
  have P2 := Lib.hid (P2.out.later hb)
  have P3 := Lib.hid (P3.out.later hb)
  have B := Lib.hid (B.out.trans (hb.mono B.out.size))
  clear hb
  have k0 := fun i => P0.out.cell i
  cases q1 : netOk x with
  | false =>
    have HE := Lib.hid (mayOf_no (xs := xs) (ds := ds) (bs := bs) (t := t) (.inl q1))
    go_wp2
    go_ret
    exact ⟨_, rfl, by rw [HE.out]; exact OwnV.nil _ _, B.out⟩
  | true =>
  go_wp2_with fail
  clear k0
  refine (impl_hasTask x A c t _ nx).mono ?_
  rintro e w2 ⟨rfl, hb⟩
  have P0 := Lib.hid (P0.out.later hb)
  have P1 := Lib.hid (P1.out.later hb)
  have P2 := Lib.hid (P2.out.later hb)
  have P3 := Lib.hid (P3.out.later hb)
  have B := Lib.hid (B.out.trans (hb.mono B.out.size))
  clear hb
  have k0 := fun i => P0.out.cell i
  cases q2 : inB t 0 ((x.tasks.length : Int) - 1) with
  | false =>
    have HE := Lib.hid (mayOf_no (x := x) (xs := xs) (ds := ds) (bs := bs) (.inr (.inl q2)))
    go_wp2
    go_ret
    exact ⟨_, rfl, by rw [HE.out]; exact OwnV.nil _ _, B.out⟩
  | true =>
  have ht := inB_iff.1 q2
  obtain ⟨j, rfl⟩ := Int.eq_ofNat_of_zero_le ht.1
  have hj : j < x.tasks.length := by omega
  have hjz : (j : Int) < (x.tasks.length : Int) := by omega
  have HE : Hid (mayOf x xs ds bs j = personsOf xs (mayP xs ds bs x.tasks[j])) := by
    show _ = _
    unfold mayOf
    rw [if_pos q1, if_pos q2, Int.toNat_natCast, getD_get hj]
  obtain ⟨b, off, a1, d1, a2, d2, a3, d3, hA, hbb, _, e0, e1, e2, e3, e4, e5, e6, e7, e8⟩ := task_at (HX.out.later B.out) hj
  subst hA
  clear q1 q2 ht
  generalize x.tasks[j] = y at HE e0 e1 e2 e3 e4 e5 e6 e7 e8
  have k1 := fun o i => (P1.out.alloc o).cell i
  go_wp2_with fail
  refine callsAt fun V hV => ?_
  have b9 : Bk V w2.heap.size 42 #[.int .i64 y.join, .int .i64 y.split, .slice a1 y.inn.length d1, .slice a2 y.out.length d2, .slice a3 y.clear.length d3, .int .i64 y.role, .int .i64 y.apart, .int .i64 y.all, .int .i64 y.need] := by rw [hV]; exact Bk.new rfl
  have hBV : Below w2.heap.size w2 V := by rw [hV]; go_grown
  have hsV : w2.heap.size < V.heap.size := b9.lt
  clear hV k0 k1 e0 e1 e2 e3 e4 e5 e6 e7 e8
  have B := Lib.hid (B.out.trans (hBV.mono B.out.size))
  have MA : Hid (MayAt (w.heap.size + 1 + 1 + 1) w2.heap.size (w.heap.size + 1) (w.heap.size + 1 + 1) A1 c1 xs A2 c2 ds A3 c3 bs y none V) := by
    have p1 := P1.out.later hBV
    have p2 := P2.out.later hBV
    have p3 := P3.out.later hBV
    exact ⟨p3.lt, b9.lt, p1.lt, p2.lt, p3.cell 0, b9.cell 5, b9.cell 6, p1.cell 0, p2.cell 0, H1.out.later B.out, H2.out.later B.out, H3.out.later B.out⟩
  clear hBV b9
  refine (impl_persons 130 _ _ eg A1 c1 xs V (may_pred _ _ _ _ _ _ _ _ _ _ _ _ _ _ _ _ MA.out) MA.out.r1).mono ?_
  rintro e w' ⟨v, rfl, hv, hb⟩
  have HV := Lib.hid hv
  have BX := B.out.size
  have HB := Lib.hid (B.out.trans (hb.mono B.out.size))
  clear hv hb
  obtain ⟨A9, c9, hv', _⟩ := HV.out.form
  subst hv'
  go_wp2
  go_ret
  exact ⟨_, rfl, by rw [HE.out]; exact HV.out.low BX, HB.out⟩

set_option maxRecDepth 100000 in
set_option maxHeartbeats 4000000 in
theorem spec_PplMay (x : GNet) (A : Option Addr) (c : Nat) (A1 : Option Addr) (c1 : Nat) (xs : List Int) (A2 : Option Addr) (c2 : Nat) (ds : List GDid) (A3 : Option Addr) (c3 : Nat) (bs : List GItem) (t : Int) (m m2 m3 : Option Nat) (w : World)
    (hx : Rows taskC m w w.heap.size A x.tasks) (h1 : Ints w w.heap.size A1 xs) (h2 : Rows didC m2 w w.heap.size A2 ds) (h3 : Rows itemC m3 w w.heap.size A3 bs) :
    Calls Try.prog 51 #[.agg (netCells x A c), .slice A1 xs.length c1, .slice A2 ds.length c2, .slice A3 bs.length c3, .int .i64 t] w (GivesInts (mayOf x xs ds bs t) w) := by
  have nx := hx.1
  have n1 := h1.1
  have n3 := h3.1
  have HX := Lib.hid hx
  have H1 := Lib.hid h1
  have H2 := Lib.hid h2
  have H3 := Lib.hid h3
  clear hx h1 h2 h3
  go_enter Try.func51, Try.ntmps51
  go_wp2_with fail
  refine callsAt fun W hW => ?_
  have P0 : Hid (Bk W w.heap.size 37 (netCells x A c)) := by show Bk _ _ _ _; rw [hW]; exact (Bk.new rfl).alloc _
  have HO : Hid (OwnV W (w.heap.size + 1) (.slice (some ⟨w.heap.size + 1, 0, none⟩) 0 0) []) := by
    show OwnV _ _ _ _
    rw [hW]
    have h := OwnV.made' (w := w.alloc (.cells (netCells x A c) 37)) (base := w.heap.size + 1) (by simp)
    rw [World.size_alloc] at h
    exact h
  have B : Hid (Below w.heap.size w W) := by show Below _ _ _; rw [hW]; go_grown
  clear hW
  refine (spec_NetOk x _ m W ⟨A, c, rfl, HX.out.later B.out⟩).mono ?_
  rintro e w1 ⟨rfl, hb⟩
  have P0 := Lib.hid (P0.out.later hb)
  have HO := Lib.hid (HO.out.later hb)
  have B := Lib.hid (B.out.trans (hb.mono B.out.size))
  clear hb
  have k0 := fun i => P0.out.cell i
  cases q1 : netOk x with
  | false =>
    have HE := Lib.hid (mayOf_no (xs := xs) (ds := ds) (bs := bs) (t := t) (.inl q1))
    go_wp2
    go_ret
    exact ⟨_, rfl, by rw [HE.out]; exact HO.out.low (by omega), B.out⟩
  | true =>
  go_wp2_with fail
  refine (spec_PplOk A1 c1 xs _ _ (H1.out.later B.out)).mono ?_
  rintro e w' ⟨rfl, rfl⟩
  cases q3 : pplOk xs with
  | false =>
    have HE := Lib.hid (mayOf_no (x := x) (ds := ds) (bs := bs) (t := t) (.inr (.inr q3)))
    go_wp2
    go_ret
    exact ⟨_, rfl, by rw [HE.out]; exact HO.out.low (by omega), B.out⟩
  | true =>
  go_wp2_with fail
  refine (l1In _ _ _ _).mono ?_
  rintro e w' ⟨rfl, rfl⟩
  cases q2 : inB t 0 ((x.tasks.length : Int) - 1) with
  | false =>
    have HE := Lib.hid (mayOf_no (x := x) (xs := xs) (ds := ds) (bs := bs) (.inr (.inl q2)))
    go_wp2
    go_ret
    exact ⟨_, rfl, by rw [HE.out]; exact HO.out.low (by omega), B.out⟩
  | true =>
  have ht := inB_iff.1 q2
  obtain ⟨j, rfl⟩ := Int.eq_ofNat_of_zero_le ht.1
  have hj : j < x.tasks.length := by omega
  have hjz : (j : Int) < (x.tasks.length : Int) := by omega
  have hl4 := (pplOk_bounds q3).2.1
  have HE : Hid (mayOf x xs ds bs j = personsTo (mayP xs ds bs x.tasks[j]) xs.length) := by
    show _ = _
    unfold mayOf personsOf
    rw [if_pos q1, if_pos q2, if_pos q3, Int.toNat_natCast, getD_get hj]
  obtain ⟨b, off, a1, d1, a2, d2, a3, d3, hA, hbb, _, e0, e1, e2, e3, e4, e5, e6, e7, e8⟩ := task_at HX.out hj
  subst hA
  have E5 := Lib.hid e5
  have E6 := Lib.hid e6
  clear ht e0 e1 e2 e3 e4 e5 e6 e7 e8
  generalize x.tasks[j] = y at HE E5 E6
  go_wp2
  clear q1 q2 q3 k0
  go_loopg [11, 12, 13, 14] xs.length (fun gg s11 s12 _ _ wr => ∃ k : Nat, k ≤ xs.length ∧ xs.length - k ≤ gg ∧ s12 = .int .i64 ((k : Int) + 1) ∧ Aside (Below w.heap.size w wr) ∧ Aside (Bk wr w.heap.size 37 (netCells x (some ⟨b, off, none⟩) c)) ∧ Aside (OwnV wr (w.heap.size + 1) s11 (personsTo (mayP xs ds bs y) k)))
  case atStart => exact ⟨0, Nat.zero_le _, by omega, by simp, B.out, P0.out, HO.out⟩
  case round =>
    obtain ⟨k, hk, hg, rfl, BW, PW, OW⟩ := hrel
    have hpl := personsTo_len (mayP xs ds bs y) k
    by_cases hlt : k < xs.length
    · have t1 : ((k : Int) + 1) ≤ (xs.length : Int) := by omega
      go_wp2
      obtain ⟨wo, hwo⟩ : ∃ wo : World, wo = wr := ⟨_, rfl⟩
      subst hwo
      go_loopg [13, 14] bs.length (fun g2 s13 s14 wi => ∃ i : Nat, i ≤ bs.length ∧ bs.length - i ≤ g2 ∧ s14 = .int .i64 i ∧ s13 = .bool ((bs.take i).any (onIt y.apart ((k : Int) + 1))) ∧ Aside (Below wo.heap.size wo wi))
      case atStart => exact ⟨0, Nat.zero_le _, by omega, rfl, by simp, Below.refl _ _⟩
      case round =>
        obtain ⟨i, hi, hg2, rfl, rfl, EI⟩ := hrel
        have BI := Lib.hid (BW.out.trans (EI.out.mono BW.out.size))
        have PI := Lib.hid (PW.out.later EI.out)
        have k0 := fun i => PI.out.cell i
        have e5 := (BI.out.cell (p := ⟨b, off + j * 9 + 5, none⟩) hbb).trans E5.out
        have e6 := (BI.out.cell (p := ⟨b, off + j * 9 + 6, none⟩) hbb).trans E6.out
        by_cases hil : i < bs.length
        · have hiz : (i : Int) < (bs.length : Int) := by omega
          obtain ⟨b2, off2, rfl, hbB, hc0, hc1, _⟩ := item_at (H3.out.later BI.out) hil
          have HS : Hid ((bs.take (i + 1)).any (onIt y.apart ((k : Int) + 1)) = ((bs.take i).any (onIt y.apart ((k : Int) + 1)) || onIt y.apart ((k : Int) + 1) bs[i])) := by
            show _ = _
            rw [List.take_succ_eq_append_getElem hil, List.any_append]
            simp
          generalize bs[i] = z at hc0 hc1 HS
          obtain ⟨zt, zw, zd⟩ := z
          cases hd : (bs.take i).any (onIt y.apart ((k : Int) + 1)) with
          | true =>
            rw [hd] at HS
            go_wp2
            go_quiet (fail)
            go_wp2
            go_roundg (bs.length - (i + 1))
            case measure => omega
            case rel => exact ⟨i + 1, by omega, by omega, by go_num, by rw [HS.out]; rfl, bdN EI.out _⟩
          | false =>
            rw [hd] at HS
            by_cases hw : zw = (k : Int) + 1
            · have hb1 : (zw == (k : Int) + 1) = true := by simp [hw]
              by_cases hq : zt = y.apart
              · have hb2 : (zt == y.apart) = true := by simp [hq]
                have HS2 : Hid ((bs.take (i + 1)).any (onIt y.apart ((k : Int) + 1)) = true) := by show _ = _; rw [HS.out]; simp [onIt, hw, hq]
                clear hw hq HS
                go_wp2
                go_quiet (fail)
                go_wp2
                go_roundg (bs.length - (i + 1))
                case measure => omega
                case rel => exact ⟨i + 1, by omega, by omega, by go_num, by rw [HS2.out], bdN EI.out _⟩
              · have hb2 : (zt == y.apart) = false := by simp [hq]
                have HS2 : Hid ((bs.take (i + 1)).any (onIt y.apart ((k : Int) + 1)) = false) := by show _ = _; rw [HS.out]; simp [onIt, hw, hq]
                clear hw hq HS
                go_wp2
                go_quiet (fail)
                go_wp2
                go_roundg (bs.length - (i + 1))
                case measure => omega
                case rel => exact ⟨i + 1, by omega, by omega, by go_num, by rw [HS2.out], bdN EI.out _⟩
            · have hb1 : (zw == (k : Int) + 1) = false := by simp [hw]
              have HS2 : Hid ((bs.take (i + 1)).any (onIt y.apart ((k : Int) + 1)) = false) := by show _ = _; rw [HS.out]; simp [onIt, hw]
              clear hw HS
              go_wp2
              go_quiet (fail)
              go_wp2
              go_roundg (bs.length - (i + 1))
              case measure => omega
              case rel => exact ⟨i + 1, by omega, by omega, by go_num, by rw [HS2.out], bdN EI.out _⟩
        · have hiz : ¬ (i : Int) < (bs.length : Int) := by omega
          have he : i = bs.length := by omega
          subst he
          rw [List.take_length]
          have OI := Lib.hid (OW.out.later EI.out)
          cases hp : pplHas xs ((k : Int) + 1) y.role with
          | false =>
            have HN := Lib.hid (personsTo_no (p := mayP xs ds bs y) (k := k) (by simp [mayP, hp]))
            go_wp2_with (go_at_call 132; refine (spec_PplHas _ _ xs _ _ _ _ (H1.out.later BI.out)).mono ?_; rintro e w1 ⟨rfl, rfl⟩)
            go_roundg (xs.length - (k + 1))
            case measure => omega
            case rel => exact ⟨k + 1, by omega, by omega, by go_num, BI.out, PI.out, by show OwnV _ _ _ _; rw [HN.out]; exact OI.out⟩
          | true =>
            cases hq : bs.any (onIt y.apart ((k : Int) + 1)) with
            | true =>
              have HN := Lib.hid (personsTo_no (p := mayP xs ds bs y) (k := k) (by simp only [mayP, hp, hq]; rfl))
              go_wp2_with (go_at_call 132; refine (spec_PplHas _ _ xs _ _ _ _ (H1.out.later BI.out)).mono ?_; rintro e w1 ⟨rfl, rfl⟩)
              go_roundg (xs.length - (k + 1))
              case measure => omega
              case rel => exact ⟨k + 1, by omega, by omega, by go_num, BI.out, PI.out, by show OwnV _ _ _ _; rw [HN.out]; exact OI.out⟩
            | false =>
              cases hs : pplDid ds ((k : Int) + 1) y.apart with
              | true =>
                have HN := Lib.hid (personsTo_no (p := mayP xs ds bs y) (k := k) (by simp only [mayP, hp, hq, hs]; rfl))
                go_wp2_with (first
                  | (go_at_call 132; refine (spec_PplHas _ _ xs _ _ _ _ (H1.out.later BI.out)).mono ?_; rintro e w1 ⟨rfl, rfl⟩)
                  | (go_at_call 133; refine (spec_PplDid _ _ ds _ _ _ _ m2 (H2.out.later BI.out)).mono ?_; rintro e w1 ⟨rfl, rfl⟩))
                go_roundg (xs.length - (k + 1))
                case measure => omega
                case rel => exact ⟨k + 1, by omega, by omega, by go_num, BI.out, PI.out, by show OwnV _ _ _ _; rw [HN.out]; exact OI.out⟩
              | false =>
                have HN := Lib.hid (personsTo_yes (p := mayP xs ds bs y) (k := k) (by simp only [mayP, hp, hq, hs]; rfl))
                go_wp2_with (first
                  | (go_at_call 132; refine (spec_PplHas _ _ xs _ _ _ _ (H1.out.later BI.out)).mono ?_; rintro e w1 ⟨rfl, rfl⟩)
                  | (go_at_call 133; refine (spec_PplDid _ _ ds _ _ _ _ m2 (H2.out.later BI.out)).mono ?_; rintro e w1 ⟨rfl, rfl⟩)
                  | (at_builtin; refine append_int rfl (.tmp 95) (.tmp 97) rfl (w.heap.size + 1) _ _ rfl (OI.out.alloc _) wr.heap.size ((k : Int) + 1) rfl (by simp) (by omega) (by have := PI.out.lt; simp; omega) ?_; intro v' w2 hown2 hb2; have HO2 := Lib.hid hown2; have HB2 := Lib.hid hb2; clear hown2 hb2))
                go_roundg (xs.length - (k + 1))
                case measure => omega
                case rel => exact ⟨k + 1, by omega, by omega, by go_num, (BI.out.alloc BI.out.size _).trans (HB2.out.mono (by omega)), (HB2.out.block w.heap.size (by omega)).trans (PI.out.alloc _), by show OwnV _ _ _ _; rw [HN.out]; exact HO2.out⟩
    · have he : k = xs.length := by omega
      have HK := Lib.hid he
      have t1 : ¬ ((k : Int) + 1) ≤ (xs.length : Int) := by omega
      clear he
      go_wp2
      go_ret
      exact ⟨_, rfl, by rw [HE.out, ← HK.out]; exact OW.out.low (by omega), BW.out⟩
end Go.Proofs.Ytkkjljpokannkaa
