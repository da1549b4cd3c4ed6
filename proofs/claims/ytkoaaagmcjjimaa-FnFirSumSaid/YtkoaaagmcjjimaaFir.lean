/- Marks behind a task: FirGive of the program and of the reference. -/
import Derived.Test.YtkoaaagmcjjimaaSpl
import Derived.Test.YtkoaaagmcjjimaaFirPlain
import Derived.Test.YtkoaaagmcjjimaaBusyImpl
import Derived.StillTailTactics
namespace Go.Proofs.Ytkoaaagmcjjimaa
open Go.RowKit
set_option linter.unusedSimpArgs false
set_option linter.unusedVariables false

theorem OwnV.put {w : World} {base g n c : Nat} {xs : List Int} (h : OwnV w base (.slice (some ⟨g, 0, none⟩) n c) xs) (j : Nat) (z : Int) : OwnV (w.setCell ⟨g, j, none⟩ (.int .i64 z)) base (.slice (some ⟨g, 0, none⟩) n c) (xs.set j z) := by
  have hn : n = xs.length := by
    obtain ⟨A', c', hv, _⟩ := h.form
    simp only [Value.slice.injEq] at hv
    exact hv.2.1
  subst hn
  unfold OwnV
  rw [List.length_set, show iv (xs.set j z) = (iv xs).set j (.int .i64 z) from by simp [iv, List.map_set]]
  exact (World.ownsRow.stored h j (.int .i64 z)).1
theorem OwnV.at_ {w : World} {base g n c : Nat} {xs : List Int} (h : OwnV w base (.slice (some ⟨g, 0, none⟩) n c) xs) (j : Nat) (hj : j < xs.length) : w.cell? ⟨g, j, none⟩ = some (.int .i64 (xs.getD j 0)) ∧ w.frozen? ⟨g, j, none⟩ = false := by
  obtain ⟨A, c', hv, hA⟩ := h.form
  obtain ⟨g', hg, _, hw⟩ := hA (by omega)
  simp only [Value.slice.injEq] at hv
  obtain ⟨h1, -, -⟩ := hv
  rw [hg] at h1
  cases h1
  rw [getD_get hj]
  exact ⟨hw.cell (iv_get (List.getElem?_eq_getElem hj)), hw.frozen j⟩

theorem Kept.cell {base : Nat} {w : World} {p : Addr} (hp : p.block < base) (u : Value) : Kept base w (w.setCell p u) :=
  ⟨by simp [World.setCell], fun b _ hlo => Below.heap_setCell w p u b (by omega)⟩
theorem OwnV.keptK {w w' : World} {base : Nat} {v : Value} {xs : List Int} (h : OwnV w base v xs) (hk : Kept base w w') : OwnV w' base v xs := by
  refine ⟨h.1, ?_⟩
  rcases h.2 with hn | ⟨g, cap, cur, hv, hb, hgg, rest⟩
  · exact .inl hn
  · exact .inr ⟨g, cap, cur, hv, hb, (hk.2 g (Array.getElem?_eq_some_iff.1 hgg).1 hb).trans hgg, rest⟩
theorem netOk_task {n : GNet} (h : netOk n = true) {j : Nat} (hj : j < n.tasks.length) : taskOk n.tasks[j] n.places n.tasks.length = true := by
  unfold netOk at h
  simp only [Bool.and_eq_true, List.all_eq_true] at h
  exact h.2.2 n.tasks[j] (List.getElem_mem hj)
theorem rises_mem {xs : List Int} {least most lo hi : Int} (h : rises xs least most lo hi = true) : ∀ i (hi' : i < xs.length), lo ≤ xs[i] ∧ xs[i] ≤ hi := fun i hi' => by
  unfold rises at h
  rw [Bool.and_eq_true] at h
  have h1 := allTo_get h.2 hi'
  unfold risesAt at h1
  rw [Bool.and_eq_true, inB_iff, getD_get hi'] at h1
  exact h1.1
theorem ok_clear {t : GTask} {places tasks : Int} (h : taskOk t places tasks = true) : ∀ i (hi' : i < t.clear.length), 2 ≤ t.clear[i] ∧ t.clear[i] ≤ places - 1 := by
  unfold taskOk at h
  simp only [Bool.and_eq_true] at h
  exact rises_mem h.2.1
theorem ok_clear_len {t : GTask} {places tasks : Int} (h : taskOk t places tasks = true) : (t.clear.length : Int) ≤ places := by
  unfold taskOk rises at h
  simp only [Bool.and_eq_true, inB_iff] at h
  omega
theorem ok_flows {t : GTask} {places tasks : Int} (h : taskOk t places tasks = true) (hp : places ≤ 8) : t.out.length ≤ 3 ∧ 1 ≤ t.out.length ∧ (t.out.map GFlow.to).Nodup ∧ ∀ y ∈ t.out.map GFlow.to, 1 ≤ y ∧ y ≤ places - 1 := by
  unfold taskOk at h
  simp only [Bool.and_eq_true] at h
  have hf := h.1.2.2.2.2
  unfold flowsOk at hf
  rw [Bool.and_eq_true, inB_iff] at hf
  have h1 := (flow_few t places hp t.out.length (Nat.le_refl _) hf.2).1
  rw [List.take_length] at h1
  refine ⟨by omega, by omega, h1, fun y hy => ?_⟩
  obtain ⟨f, hfm, rfl⟩ := List.mem_map.1 hy
  obtain ⟨i, hi, rfl⟩ := List.getElem_of_mem hfm
  have h2 := allTo_get hf.2 hi
  unfold flowAt at h2
  rw [Bool.and_eq_true, inB_iff, getD_get hi] at h2
  exact h2.1
theorem splTo_sub (t : GTask) (d : List Int) : ∀ k, k ≤ t.out.length → (splTo t d k).Sublist ((t.out.take k).map GFlow.to)
  | 0, _ => by simp [splTo]
  | k + 1, hk => by
    have ih := splTo_sub t d k (by omega)
    rw [List.take_succ_eq_append_getElem (by omega : k < t.out.length), List.map_append]
    show (splStep t d (splTo t d k) k).Sublist _
    unfold splStep
    rw [getD_get (by omega : k < t.out.length)]
    split
    · exact List.Sublist.append ih (List.Sublist.refl _)
    · exact ih.trans (List.sublist_append_left _ _)
theorem spl_fit {t : GTask} {places tasks : Int} (h : taskOk t places tasks = true) (hp : places ≤ 8) (d : List Int) :
    ((splTo t d t.out.length).map Int.toNat).Nodup ∧ ∀ y ∈ splTo t d t.out.length, 1 ≤ y ∧ y ≤ places - 1 := by
  have hs := splTo_sub t d t.out.length (Nat.le_refl _)
  rw [List.take_length] at hs
  obtain ⟨_, _, h1, h2⟩ := ok_flows h hp
  have h3 : ∀ y ∈ splTo t d t.out.length, 1 ≤ y ∧ y ≤ places - 1 := fun y hy => h2 y (hs.subset hy)
  refine ⟨?_, h3⟩
  refine List.pairwise_map.2 ((h1.sublist hs).imp_of_mem fun ha hb hne e => hne ?_)
  have := h3 _ ha
  have := h3 _ hb
  omega
theorem marksOk_iff {x : GNet} {ms : List Int} : marksOk x ms = true ↔ (ms.length : Int) = x.places ∧ okM ms := by
  unfold marksOk okM
  rw [Bool.and_eq_true, decide_eq_true_eq, Bool.not_eq_true', List.any_eq_false]
  simp [inB_iff]

/-- Marks behind a task that has ended. -/
def firOut (y : GTask) (ms d : List Int) : List Int := giveTo (clearTo ms y.clear) (splTo y d y.out.length)
def firOf (x : GNet) (ms : List Int) (t : Int) (d : List Int) : List Int × Bool :=
  if mrkOk x ms = true ∧ inB t 0 ((x.tasks.length : Int) - 1) = true ∧ datOk d = true then
    (if marksOk x (firOut (x.tasks.getD t.toNat task0) ms d) = true then (firOut (x.tasks.getD t.toNat task0) ms d, true) else ([], false))
  else ([], false)
theorem firOf_no {x : GNet} {ms d : List Int} {t : Int} (h : mrkOk x ms = false ∨ inB t 0 ((x.tasks.length : Int) - 1) = false ∨ datOk d = false) : firOf x ms t d = ([], false) := by
  unfold firOf
  rw [if_neg]
  rintro ⟨h1, h2, h3⟩
  rcases h with h | h | h <;> simp_all
theorem firOf_len (x : GNet) (ms : List Int) (t : Int) (d : List Int) (h : ms.length ≤ 1048576) : (firOf x ms t d).1.length ≤ 1048576 := by
  unfold firOf
  split
  · split
    · show (giveTo (clearTo ms _) _).length ≤ _
      rw [giveTo_len, clearTo_len]; exact h
    · simp
  · simp
/-- What FirGive leaves. -/
def GivesFir (r : List Int × Bool) (w : World) (e : Ending) (w' : World) : Prop := ∃ v, e = .returned (.tuple #[v, .bool r.2]) ∧ OwnV w' w.heap.size v r.1 ∧ Below w.heap.size w w'
theorem firOut_len (y : GTask) (ms d : List Int) : (firOut y ms d).length = ms.length := by rw [firOut, giveTo_len, clearTo_len]

set_option maxRecDepth 100000 in
set_option maxHeartbeats 4000000 in
theorem impl_FirGive (x : GNet) (A : Option Addr) (c : Nat) (A1 : Option Addr) (c1 : Nat) (ms : List Int) (t : Int) (A3 : Option Addr) (c3 : Nat) (d : List Int) (m : Option Nat) (w : World)
    (hx : Rows taskC m w w.heap.size A x.tasks) (h1 : Ints w w.heap.size A1 ms) (h3 : Ints w w.heap.size A3 d) :
    Calls Try.prog 55 #[.agg (netCells x A c), .slice A1 ms.length c1, .int .i64 t, .slice A3 d.length c3] w (GivesFir (firOf x ms t d) w) := by
  have nx := hx.1
  have HX := Lib.hid hx
  have H1 := Lib.hid h1
  have H3 := Lib.hid h3
  clear hx h1 h3
  go_enter Try.func55, Try.ntmps55
  go_wp2_with fail
  refine callsAt fun W hW => ?_
  have P0 : Hid (Bk W w.heap.size 37 (netCells x A c)) := by show Bk _ _ _ _; rw [hW]; exact Bk.new rfl
  have B : Hid (Below w.heap.size w W) := by show Below _ _ _; rw [hW]; go_grown
  clear hW
  refine (impl_MrkOk x A c A1 c1 ms m W (HX.out.later B.out) (H1.out.later B.out)).mono ?_
  rintro e w1 ⟨rfl, hb⟩
  have P0 := Lib.hid (P0.out.later hb)
  have B := Lib.hid (B.out.trans (hb.mono B.out.size))
  clear hb
  have k0 := fun i => P0.out.cell i
  cases q1 : mrkOk x ms with
  | false =>
    have HE := Lib.hid (firOf_no (t := t) (d := d) (.inl q1))
    go_wp2
    go_ret2
    exact ⟨_, by rw [HE.out]; rfl, by rw [HE.out]; exact OwnV.nil _ _, B.out⟩
  | true =>
  go_wp2_with fail
  clear k0
  refine (impl_hasTask x A c t _ nx).mono ?_
  rintro e w2 ⟨rfl, hb⟩
  have P0 := Lib.hid (P0.out.later hb)
  have B := Lib.hid (B.out.trans (hb.mono B.out.size))
  clear hb
  have k0 := fun i => P0.out.cell i
  cases q2 : inB t 0 ((x.tasks.length : Int) - 1) with
  | false =>
    have HE := Lib.hid (firOf_no (x := x) (ms := ms) (d := d) (.inr (.inl q2)))
    go_wp2
    go_ret2
    exact ⟨_, by rw [HE.out]; rfl, by rw [HE.out]; exact OwnV.nil _ _, B.out⟩
  | true =>
  go_wp2_with fail
  refine (impl_DatOk A3 c3 d _ (H3.out.later B.out)).mono ?_
  rintro e w3 ⟨rfl, hb⟩
  have P0 := Lib.hid (P0.out.later hb)
  have B := Lib.hid (B.out.trans (hb.mono B.out.size))
  clear hb k0
  have k0 := fun i => P0.out.cell i
  cases q3 : datOk d with
  | false =>
    have HE := Lib.hid (firOf_no (x := x) (ms := ms) (t := t) (.inr (.inr q3)))
    go_wp2
    go_ret2
    exact ⟨_, by rw [HE.out]; rfl, by rw [HE.out]; exact OwnV.nil _ _, B.out⟩
  | true =>
  have ht := inB_iff.1 q2
  obtain ⟨j, rfl⟩ := Int.eq_ofNat_of_zero_le ht.1
  have hj : j < x.tasks.length := by omega
  have hjz : (j : Int) < (x.tasks.length : Int) := by omega
  have hnet : netOk x = true := by rw [mrkOk, Bool.and_eq_true] at q1; exact q1.1
  have hmk := marksOk_iff.1 (by rw [mrkOk, Bool.and_eq_true] at q1; exact q1.2 : marksOk x ms = true)
  have HM := Lib.hid hmk.2
  have HML := Lib.hid hmk.1
  obtain ⟨_, _, hp2, hp8⟩ := netOk_len hnet
  have hml2 : 2 ≤ ms.length := by have := HML.out; omega
  have hml8 : ms.length ≤ 8 := by have := HML.out; omega
  have HT := Lib.hid (netOk_task hnet hj)
  have HE : Hid (firOf x ms j d = if marksOk x (firOut x.tasks[j] ms d) = true then (firOut x.tasks[j] ms d, true) else ([], false)) := by
    show _ = _
    unfold firOf
    rw [if_pos ⟨q1, q2, q3⟩, Int.toNat_natCast, getD_get hj]
  obtain ⟨b, off, a1, d1, a2, d2, a3, d3, hA, hbb, ⟨r1, r2, r3⟩, e0, e1, e2, e3, e4, e5, e6, e7, e8⟩ := task_at HX.out hj
  subst hA
  have hcl := ok_clear HT.out
  have hcll := ok_clear_len HT.out
  have hsp := spl_fit HT.out hp8 d
  have hof := ok_flows HT.out hp8
  generalize x.tasks[j] = y at HE r1 r2 r3 e0 e1 e2 e3 e4 e5 e6 e7 e8 hcl hcll hsp hof
  have HCL := Lib.hid hcl
  have HSPL := Lib.hid hsp
  have hol := hof.1
  have R2 := Lib.hid r2
  have R3 := Lib.hid r3
  have TC : Hid (∀ W : World, Below w.heap.size w W → (W.cell? ⟨b, off + j * 9, none⟩ = some (.int .i64 y.join) ∧ W.cell? ⟨b, off + j * 9 + 1, none⟩ = some (.int .i64 y.split) ∧ W.cell? ⟨b, off + j * 9 + 2, none⟩ = some (.slice a1 y.inn.length d1) ∧ W.cell? ⟨b, off + j * 9 + 3, none⟩ = some (.slice a2 y.out.length d2) ∧ W.cell? ⟨b, off + j * 9 + 4, none⟩ = some (.slice a3 y.clear.length d3) ∧
      W.cell? ⟨b, off + j * 9 + 5, none⟩ = some (.int .i64 y.role) ∧ W.cell? ⟨b, off + j * 9 + 6, none⟩ = some (.int .i64 y.apart) ∧ W.cell? ⟨b, off + j * 9 + 7, none⟩ = some (.int .i64 y.all) ∧ W.cell? ⟨b, off + j * 9 + 8, none⟩ = some (.int .i64 y.need))) := fun W hb =>
    ⟨(hb.cell (p := ⟨b, off + j * 9, none⟩) hbb).trans e0, (hb.cell (p := ⟨b, off + j * 9 + 1, none⟩) hbb).trans e1, (hb.cell (p := ⟨b, off + j * 9 + 2, none⟩) hbb).trans e2, (hb.cell (p := ⟨b, off + j * 9 + 3, none⟩) hbb).trans e3, (hb.cell (p := ⟨b, off + j * 9 + 4, none⟩) hbb).trans e4, (hb.cell (p := ⟨b, off + j * 9 + 5, none⟩) hbb).trans e5, (hb.cell (p := ⟨b, off + j * 9 + 6, none⟩) hbb).trans e6, (hb.cell (p := ⟨b, off + j * 9 + 7, none⟩) hbb).trans e7, (hb.cell (p := ⟨b, off + j * 9 + 8, none⟩) hbb).trans e8⟩
  clear q1 q2 q3 ht hmk hnet r1 r2 r3 hcl hsp hof e0 e1 e2 e3 e4 e5 e6 e7 e8
  have pl := P0.out.lt
  go_wp2_with fail
  refine (impl_cloneInts A1 c1 ms _ (H1.out.later B.out) (by omega)).mono ?_
  rintro e w5 ⟨v5, rfl, hv5, hb⟩
  have P5 := Lib.hid (P0.out.later hb)
  have B5 := Lib.hid (B.out.trans (hb.mono B.out.size))
  obtain ⟨A5, c5, hv, hA5⟩ := hv5.form
  subst hv
  obtain ⟨g, hg, hgb, _⟩ := hA5 (by omega)
  subst hg
  have O5 := Lib.hid hv5
  clear hb k0 hA5 hv5
  have hgw : w.heap.size + 1 ≤ g := by omega
  have O5 : Hid (OwnV w5 (w.heap.size + 1) (.slice (some ⟨g, 0, none⟩) ms.length c5) ms) := O5.out.low (by omega)
  have hg5 : g < w5.heap.size := (O5.out.lt g rfl).2
  have k0 := fun i => P5.out.cell i
  obtain ⟨f0, f1, f2, f3, f4, f5, f6, f7, f8⟩ := TC.out w5 B5.out
  go_wp2
  clear k0 f0 f1 f2 f3 f4 f5 f6 f7 f8 B P0
  go_loopg [12, 39] y.clear.length (fun gg _ s39 wr => ∃ k : Nat, k ≤ y.clear.length ∧ y.clear.length - k ≤ gg ∧ s39 = .int .i64 k ∧ Aside (Below (w.heap.size + 1) w5 wr) ∧ Aside (OwnV wr (w.heap.size + 1) (.slice (some ⟨g, 0, none⟩) ms.length c5) (clearTo ms (y.clear.take k))))
  case atStart => exact ⟨0, Nat.zero_le _, by omega, rfl, Below.refl _ _, O5.out⟩
  case round =>
    obtain ⟨k, hk, hgg, rfl, BW, OW⟩ := hrel
    have PW : Hid (Bk wr w.heap.size 37 (netCells x (some ⟨b, off, none⟩) c)) := (BW.out.block w.heap.size (by omega)).trans P5.out
    have BB := Lib.hid (B5.out.trans (BW.out.mono (by omega)) : Below w.heap.size w wr)
    have pwl := PW.out.lt
    have szr := BW.out.size
    have k0 := fun i => PW.out.cell i
    obtain ⟨f0, f1, f2, f3, f4, f5, f6, f7, f8⟩ := TC.out wr BB.out
    have hgr : g < wr.heap.size := (OW.out.lt g rfl).2
    by_cases hlt : k < y.clear.length
    · have hltz : (k : Int) < (y.clear.length : Int) := by omega
      have hcc := HCL.out k hlt
      obtain ⟨b3, o3, hA3, _, hc3⟩ := (R3.out.below BB.out).ints.at_ hlt
      have HS := Lib.hid (clearTo_snoc ms y.clear k hlt)
      obtain ⟨p, hp⟩ := Int.eq_ofNat_of_zero_le (by omega : 0 ≤ y.clear[k])
      rw [hp] at hcc hc3 HS
      have hpl : p < ms.length := by have := HML.out; omega
      have hpz : (p : Int) < (ms.length : Int) := by omega
      obtain ⟨hold, hfr⟩ := OW.out.at_ p (by rw [clearTo_len]; exact hpl)
      obtain ⟨z0, hz0⟩ : ∃ z0 : Int, wr.cell? ⟨g, p, none⟩ = some (.int .i64 z0) := ⟨_, hold⟩
      have HO := Lib.hid (OW.out.put p 0)
      have HB := Lib.hid (BW.out.setCell (p := ⟨g, p, none⟩) hgw (.int .i64 0))
      subst hA3
      clear hp hcc hold
      go_wp2
      go_roundg (y.clear.length - (k + 1))
      case measure => omega
      case rel => exact ⟨k + 1, by omega, by omega, by go_num, HB.out, by show OwnV _ _ _ _; rw [HS.out]; exact HO.out⟩
    · have hltz : ¬ (k : Int) < (y.clear.length : Int) := by omega
      have he : k = y.clear.length := by omega
      subst he
      have OC : Hid (OwnV wr (w.heap.size + 1) (.slice (some ⟨g, 0, none⟩) ms.length c5) (clearTo ms y.clear)) := by
        have h := OW.out
        rw [List.take_length] at h
        exact h
      have HMC := Lib.hid (clearTo_ok y.clear ms HM.out)
      have hcn := clearTo_len y.clear ms
      have HE2 : Hid (firOut y ms d = giveTo (clearTo ms y.clear) (splTo y d y.out.length)) := rfl
      have FL := firOut_len y ms d
      generalize clearTo ms y.clear = cl at OC HMC hcn HE2
      have HCN := Lib.hid hcn
      have HFL := Lib.hid FL
      have hst := splTo_len y d y.out.length
      clear hcn FL OW
      go_wp2_with fail
      refine (impl_SplTo y a1 d1 a2 d2 a3 d3 A3 c3 d m _ (((R2.out.below BB.out)).more BB.out.size) (H3.out.later BB.out) (by omega)).mono ?_
      rintro e w7 ⟨v7, rfl, hv7, hb7⟩
      have hwr0 := BB.out.size
      generalize splTo y d y.out.length = tos at hv7 HE2 hst HSPL
      obtain ⟨A7, c7, hv, hA7⟩ := hv7.form
      subst hv
      have O7 := Lib.hid hv7
      have B7 := Lib.hid (BW.out.trans (hb7.mono (by omega)) : Below (w.heap.size + 1) w5 w7)
      have OC7 := Lib.hid (OC.out.later hb7)
      have hs7 := hb7.size
      clear hb7 hv7 hA7 f0 f1 f2 f3 f4 f5 f6 f7 f8 k0
      obtain ⟨wo, hwo⟩ : ∃ wo : World, wo = wr := ⟨_, rfl⟩
      subst hwo
      go_wp2
      go_loopg [14, 55] tos.length (fun gg _ s55 wi => ∃ i : Nat, i ≤ tos.length ∧ tos.length - i ≤ gg ∧ s55 = .int .i64 i ∧ Aside (Below (w.heap.size + 1) w5 wi) ∧ Aside (OwnV wi (w.heap.size + 1) (.slice (some ⟨g, 0, none⟩) ms.length c5) (giveTo cl (tos.take i))) ∧ Aside (OwnV wi wo.heap.size (.slice A7 tos.length c7) tos))
      case atStart => exact ⟨0, Nat.zero_le _, by omega, rfl, B7.out, OC7.out, O7.out⟩
      case round =>
        obtain ⟨i, hi, hgi, rfl, BI, OI, TI⟩ := hrel
        have BX := Lib.hid (B5.out.trans (BI.out.mono (by omega)) : Below w.heap.size w wr)
        have PI : Hid (Bk wr w.heap.size 37 (netCells x (some ⟨b, off, none⟩) c)) := (BI.out.block w.heap.size (by omega)).trans P5.out
        have szi := PI.out.lt
        by_cases hil : i < tos.length
        · have hiz : (i : Int) < (tos.length : Int) := by omega
          obtain ⟨A8, c8, hv8, hA8⟩ := TI.out.form
          simp only [Value.slice.injEq] at hv8
          obtain ⟨hv8, -, -⟩ := hv8
          subst hv8
          obtain ⟨g8, hg8, hgb8, hw8⟩ := hA8 (by omega)
          subst hg8
          have hc8 := hw8.cell (iv_get (List.getElem?_eq_getElem hil))
          have hpp := HSPL.out.2 tos[i] (List.getElem_mem hil)
          have HS := Lib.hid (giveTo_snoc cl tos i hil)
          obtain ⟨p, hp⟩ := Int.eq_ofNat_of_zero_le (by omega : 0 ≤ tos[i])
          have hpl : p < ms.length := by have := HML.out; omega
          have hpc : p < cl.length := by rw [HCN.out]; exact hpl
          have hnext := giveTo_next (ms := cl) HSPL.out.1 hil (by rw [hp]; exact hpc)
          have HF4 : Hid (cl.getD p 0 = 4 → ¬ okM (giveTo cl tos)) := fun h4 => give_fail hil (by rw [hp]; exact hpc) (by rw [hp]; exact h4)
          rw [hp] at hc8 HS hpp hnext
          rw [Int.toNat_natCast] at hnext
          have hpz : (p : Int) < (ms.length : Int) := by omega
          obtain ⟨hold, hfr⟩ := OI.out.at_ p (by rw [giveTo_len]; exact hpc)
          have hbd := giveTo_bd HMC.out (tos.take i) p hpc
          have htl : (tos.take i).length ≤ i := by simp; omega
          obtain ⟨z0, hz0⟩ : ∃ z0 : Int, z0 = (giveTo cl (tos.take i)).getD p 0 := ⟨_, rfl⟩
          rw [← hz0] at hold hbd hnext
          have HO := Lib.hid (OI.out.put p (z0 + 1))
          have HOZ : Hid (giveAt (giveTo cl (tos.take i)) (p : Int) = (giveTo cl (tos.take i)).set p (z0 + 1)) := by show _ = _; rw [giveAt, Int.toNat_natCast, ← hz0]
          have HB := Lib.hid (BI.out.setCell (p := ⟨g, p, none⟩) hgw (.int .i64 (z0 + 1)))
          have HT8 := Lib.hid (TI.out.keptK (Kept.cell (p := ⟨g, p, none⟩) (show g < wo.heap.size from hgr) (.int .i64 (z0 + 1))))
          have HPP := Lib.hid hp
          have HNX := Lib.hid hnext
          clear hz0 hw8 hA8 hpp hnext hp
          go_wp2
          go_roundg (tos.length - (i + 1))
          case measure => omega
          case rel => exact ⟨i + 1, by omega, by omega, by go_num, HB.out, by show OwnV _ _ _ _; rw [HS.out, HOZ.out]; exact HO.out, HT8.out⟩
        · have hiz : ¬ (i : Int) < (tos.length : Int) := by omega
          have he : i = tos.length := by omega
          subst he
          have OF : Hid (OwnV wr (w.heap.size + 1) (.slice (some ⟨g, 0, none⟩) ms.length c5) (firOut y ms d)) := by
            have h := OI.out
            rw [List.take_length, ← HE2.out] at h
            exact h
          have hmo := impl_marksOk x (some ⟨b, off, none⟩) c (some ⟨g, 0, none⟩) c5 (firOut y ms d) wr (by
            obtain ⟨A9, c9, hv9, ho9⟩ := OwnI.of_v OF.out
            simp only [Value.slice.injEq] at hv9
            obtain ⟨hv9, -, -⟩ := hv9
            subst hv9
            exact ho9.ints (by rw [HFL.out]; omega))
          rw [HFL.out] at hmo
          have HMO := Lib.hid hmo
          clear hmo
          have k0 := fun i => PI.out.cell i
          cases q4 : marksOk x (firOut y ms d) with
          | false =>
            rw [q4] at HMO
            have HE3 : Hid (firOf x ms j d = ([], false)) := by show _ = _; rw [HE.out, q4]; rfl
            clear q4
            go_wp2_with (go_at_call 139; refine HMO.out.mono ?_; rintro e w9 ⟨rfl, hb9⟩; have B9 := Lib.hid (BX.out.trans (hb9.mono BX.out.size)); clear hb9)
            go_ret2
            exact ⟨_, by rw [HE3.out]; rfl, by rw [HE3.out]; exact OwnV.nil _ _, B9.out⟩
          | true =>
            rw [q4] at HMO
            have HE3 : Hid (firOf x ms j d = (firOut y ms d, true)) := by show _ = _; rw [HE.out, q4]; rfl
            clear q4
            go_wp2_with (go_at_call 139; refine HMO.out.mono ?_; rintro e w9 ⟨rfl, hb9⟩; have B9 := Lib.hid (BX.out.trans (hb9.mono BX.out.size)); have OF9 := Lib.hid (OF.out.later hb9); clear hb9)
            go_ret2
            exact ⟨_, by rw [HE3.out]; rfl, by rw [HE3.out]; exact OF9.out.low (by omega), B9.out⟩

set_option maxRecDepth 100000 in
set_option maxHeartbeats 4000000 in
theorem spec_FirGive (x : GNet) (A : Option Addr) (c : Nat) (A1 : Option Addr) (c1 : Nat) (ms : List Int) (t : Int) (A3 : Option Addr) (c3 : Nat) (d : List Int) (m : Option Nat) (w : World)
    (hx : Rows taskC m w w.heap.size A x.tasks) (h1 : Ints w w.heap.size A1 ms) (h3 : Ints w w.heap.size A3 d) :
    Calls Try.prog 56 #[.agg (netCells x A c), .slice A1 ms.length c1, .int .i64 t, .slice A3 d.length c3] w (GivesFir (firOf x ms t d) w) := by
  have nx := hx.1
  have HX := Lib.hid hx
  have H1 := Lib.hid h1
  have H3 := Lib.hid h3
  clear hx h1 h3
  go_enter Try.func56, Try.ntmps56
  go_wp2_with fail
  refine callsAt fun W hW => ?_
  have P0 : Hid (Bk W w.heap.size 37 (netCells x A c)) := by show Bk _ _ _ _; rw [hW]; exact Bk.new rfl
  have B : Hid (Below w.heap.size w W) := by show Below _ _ _; rw [hW]; go_grown
  clear hW
  refine (spec_MrkOk x A c A1 c1 ms m W (HX.out.later B.out) (H1.out.later B.out)).mono ?_
  rintro e w1 ⟨rfl, hb⟩
  have P0 := Lib.hid (P0.out.later hb)
  have B := Lib.hid (B.out.trans (hb.mono B.out.size))
  clear hb
  have k0 := fun i => P0.out.cell i
  cases q1 : mrkOk x ms with
  | false =>
    have HE := Lib.hid (firOf_no (t := t) (d := d) (.inl q1))
    go_wp2
    go_ret2
    exact ⟨_, by rw [HE.out]; rfl, by rw [HE.out]; exact OwnV.made' B.out.size, B.out.alloc B.out.size _⟩
  | true =>
  go_wp2_with fail
  refine (l1In _ _ _ _).mono ?_
  rintro e w' ⟨rfl, rfl⟩
  cases q2 : inB t 0 ((x.tasks.length : Int) - 1) with
  | false =>
    have HE := Lib.hid (firOf_no (x := x) (ms := ms) (d := d) (.inr (.inl q2)))
    go_wp2
    go_ret2
    exact ⟨_, by rw [HE.out]; rfl, by rw [HE.out]; exact OwnV.made' B.out.size, B.out.alloc B.out.size _⟩
  | true =>
  go_wp2_with fail
  refine (spec_DatOk A3 c3 d _ _ (H3.out.later B.out)).mono ?_
  rintro e w' ⟨rfl, rfl⟩
  cases q3 : datOk d with
  | false =>
    have HE := Lib.hid (firOf_no (x := x) (ms := ms) (t := t) (.inr (.inr q3)))
    go_wp2
    go_ret2
    exact ⟨_, by rw [HE.out]; rfl, by rw [HE.out]; exact OwnV.made' B.out.size, B.out.alloc B.out.size _⟩
  | true =>
  have ht := inB_iff.1 q2
  obtain ⟨j, rfl⟩ := Int.eq_ofNat_of_zero_le ht.1
  have hj : j < x.tasks.length := by omega
  have hjz : (j : Int) < (x.tasks.length : Int) := by omega
  have hnet : netOk x = true := by rw [mrkOk, Bool.and_eq_true] at q1; exact q1.1
  have hmk := marksOk_iff.1 (by rw [mrkOk, Bool.and_eq_true] at q1; exact q1.2 : marksOk x ms = true)
  have HM := Lib.hid hmk.2
  have HML := Lib.hid hmk.1
  obtain ⟨_, _, hp2, hp8⟩ := netOk_len hnet
  have hml2 : 2 ≤ ms.length := by have := HML.out; omega
  have hml8 : ms.length ≤ 8 := by have := HML.out; omega
  have HT := Lib.hid (netOk_task hnet hj)
  have HE : Hid (firOf x ms j d = if marksOk x (firOut x.tasks[j] ms d) = true then (firOut x.tasks[j] ms d, true) else ([], false)) := by
    show _ = _
    unfold firOf
    rw [if_pos ⟨q1, q2, q3⟩, Int.toNat_natCast, getD_get hj]
  obtain ⟨b, off, a1, d1, a2, d2, a3, d3, hA, hbb, ⟨r1, r2, r3⟩, e0, e1, e2, e3, e4, e5, e6, e7, e8⟩ := task_at HX.out hj
  subst hA
  have hcl := ok_clear HT.out
  have hcll := ok_clear_len HT.out
  have hsp := spl_fit HT.out hp8 d
  have hof := ok_flows HT.out hp8
  generalize x.tasks[j] = y at HE r1 r2 r3 e0 e1 e2 e3 e4 e5 e6 e7 e8 hcl hcll hsp hof
  have HCL := Lib.hid hcl
  have HSPL := Lib.hid hsp
  have hol := hof.1
  have R2 := Lib.hid r2
  have R3 := Lib.hid r3
  have TC : Hid (∀ W : World, Below w.heap.size w W → (W.cell? ⟨b, off + j * 9, none⟩ = some (.int .i64 y.join) ∧ W.cell? ⟨b, off + j * 9 + 1, none⟩ = some (.int .i64 y.split) ∧ W.cell? ⟨b, off + j * 9 + 2, none⟩ = some (.slice a1 y.inn.length d1) ∧ W.cell? ⟨b, off + j * 9 + 3, none⟩ = some (.slice a2 y.out.length d2) ∧ W.cell? ⟨b, off + j * 9 + 4, none⟩ = some (.slice a3 y.clear.length d3) ∧
      W.cell? ⟨b, off + j * 9 + 5, none⟩ = some (.int .i64 y.role) ∧ W.cell? ⟨b, off + j * 9 + 6, none⟩ = some (.int .i64 y.apart) ∧ W.cell? ⟨b, off + j * 9 + 7, none⟩ = some (.int .i64 y.all) ∧ W.cell? ⟨b, off + j * 9 + 8, none⟩ = some (.int .i64 y.need))) := fun W hb =>
    ⟨(hb.cell (p := ⟨b, off + j * 9, none⟩) hbb).trans e0, (hb.cell (p := ⟨b, off + j * 9 + 1, none⟩) hbb).trans e1, (hb.cell (p := ⟨b, off + j * 9 + 2, none⟩) hbb).trans e2, (hb.cell (p := ⟨b, off + j * 9 + 3, none⟩) hbb).trans e3, (hb.cell (p := ⟨b, off + j * 9 + 4, none⟩) hbb).trans e4, (hb.cell (p := ⟨b, off + j * 9 + 5, none⟩) hbb).trans e5, (hb.cell (p := ⟨b, off + j * 9 + 6, none⟩) hbb).trans e6, (hb.cell (p := ⟨b, off + j * 9 + 7, none⟩) hbb).trans e7, (hb.cell (p := ⟨b, off + j * 9 + 8, none⟩) hbb).trans e8⟩
  clear q1 q2 q3 ht hmk hnet r1 r2 r3 hcl hsp hof e0 e1 e2 e3 e4 e5 e6 e7 e8
  have pl := P0.out.lt
  go_upto_region 4 with (at_builtin; refine append_intsA rfl (.tmp 33) (.tmp 34) rfl w1.heap.size _ [] rfl (OwnV.made' (Nat.le_refl _)) A1 c1 w.heap.size ms rfl ((H1.out.below B.out).below ((Below.refl _ _).alloc B.out.size _)) (by rw [List.length_nil]; omega) (by simp) ?_; intro v5 w5 hown2 hg2 hb2; rw [List.nil_append] at hown2; have HO5 := Lib.hid hown2; have HB5 := Lib.hid (((Below.refl w1.heap.size w1).alloc (Nat.le_refl _) (.cells #[] 3)).trans hb2); clear hown2 hg2 hb2)
  have P5 := Lib.hid (P0.out.later HB5.out)
  have B5 := Lib.hid (B.out.trans (HB5.out.mono B.out.size))
  obtain ⟨A5, c5, hv, hA5⟩ := HO5.out.form
  subst hv
  obtain ⟨g, hg, hgb, _⟩ := hA5 (by omega)
  subst hg
  have O5 := Lib.hid HO5.out
  clear k0 hA5 HO5 HB5
  have hgw : w.heap.size + 1 ≤ g := by omega
  have O5 : Hid (OwnV w5 (w.heap.size + 1) (.slice (some ⟨g, 0, none⟩) ms.length c5) ms) := O5.out.low (by omega)
  have hg5 : g < w5.heap.size := (O5.out.lt g rfl).2
  have k0 := fun i => P5.out.cell i
  obtain ⟨f0, f1, f2, f3, f4, f5, f6, f7, f8⟩ := TC.out w5 B5.out
  go_wp2
  clear k0 f0 f1 f2 f3 f4 f5 f6 f7 f8 B P0
  go_loopg [11] y.clear.length (fun gg s39 wr => ∃ k : Nat, k ≤ y.clear.length ∧ y.clear.length - k ≤ gg ∧ s39 = .int .i64 k ∧ Aside (Below (w.heap.size + 1) w5 wr) ∧ Aside (OwnV wr (w.heap.size + 1) (.slice (some ⟨g, 0, none⟩) ms.length c5) (clearTo ms (y.clear.take k))))
  case atStart => exact ⟨0, Nat.zero_le _, by omega, rfl, Below.refl _ _, O5.out⟩
  case round =>
    obtain ⟨k, hk, hgg, rfl, BW, OW⟩ := hrel
    have PW : Hid (Bk wr w.heap.size 37 (netCells x (some ⟨b, off, none⟩) c)) := (BW.out.block w.heap.size (by omega)).trans P5.out
    have BB := Lib.hid (B5.out.trans (BW.out.mono (by omega)) : Below w.heap.size w wr)
    have pwl := PW.out.lt
    have szr := BW.out.size
    have k0 := fun i => PW.out.cell i
    obtain ⟨f0, f1, f2, f3, f4, f5, f6, f7, f8⟩ := TC.out wr BB.out
    have hgr : g < wr.heap.size := (OW.out.lt g rfl).2
    by_cases hlt : k < y.clear.length
    · have hltz : (k : Int) < (y.clear.length : Int) := by omega
      have hcc := HCL.out k hlt
      obtain ⟨b3, o3, hA3, _, hc3⟩ := (R3.out.below BB.out).ints.at_ hlt
      have HS := Lib.hid (clearTo_snoc ms y.clear k hlt)
      obtain ⟨p, hp⟩ := Int.eq_ofNat_of_zero_le (by omega : 0 ≤ y.clear[k])
      rw [hp] at hcc hc3 HS
      have hpl : p < ms.length := by have := HML.out; omega
      have hpz : (p : Int) < (ms.length : Int) := by omega
      obtain ⟨hold, hfr⟩ := OW.out.at_ p (by rw [clearTo_len]; exact hpl)
      obtain ⟨z0, hz0⟩ : ∃ z0 : Int, wr.cell? ⟨g, p, none⟩ = some (.int .i64 z0) := ⟨_, hold⟩
      have HO := Lib.hid (OW.out.put p 0)
      have HB := Lib.hid (BW.out.setCell (p := ⟨g, p, none⟩) hgw (.int .i64 0))
      subst hA3
      clear hp hcc hold
      go_wp2
      go_roundg (y.clear.length - (k + 1))
      case measure => omega
      case rel => exact ⟨k + 1, by omega, by omega, by go_num, HB.out, by show OwnV _ _ _ _; rw [HS.out]; exact HO.out⟩
    · have hltz : ¬ (k : Int) < (y.clear.length : Int) := by omega
      have he : k = y.clear.length := by omega
      subst he
      have OC : Hid (OwnV wr (w.heap.size + 1) (.slice (some ⟨g, 0, none⟩) ms.length c5) (clearTo ms y.clear)) := by
        have h := OW.out
        rw [List.take_length] at h
        exact h
      have HMC := Lib.hid (clearTo_ok y.clear ms HM.out)
      have hcn := clearTo_len y.clear ms
      have HE2 : Hid (firOut y ms d = giveTo (clearTo ms y.clear) (splTo y d y.out.length)) := rfl
      have FL := firOut_len y ms d
      generalize clearTo ms y.clear = cl at OC HMC hcn HE2
      have HCN := Lib.hid hcn
      have HFL := Lib.hid FL
      have hst := splTo_len y d y.out.length
      clear hcn FL OW
      go_wp2_with fail
      refine (spec_SplTo y a1 d1 a2 d2 a3 d3 A3 c3 d m _ (((R2.out.below BB.out)).more BB.out.size) (H3.out.later BB.out) (by omega)).mono ?_
      rintro e w7 ⟨v7, rfl, hv7, hb7⟩
      have hwr0 := BB.out.size
      generalize splTo y d y.out.length = tos at hv7 HE2 hst HSPL
      obtain ⟨A7, c7, hv, hA7⟩ := hv7.form
      subst hv
      have O7 := Lib.hid hv7
      have B7 := Lib.hid (BW.out.trans (hb7.mono (by omega)) : Below (w.heap.size + 1) w5 w7)
      have OC7 := Lib.hid (OC.out.later hb7)
      have hs7 := hb7.size
      clear hb7 hv7 hA7 f0 f1 f2 f3 f4 f5 f6 f7 f8 k0
      obtain ⟨wo, hwo⟩ : ∃ wo : World, wo = wr := ⟨_, rfl⟩
      subst hwo
      go_wp2
      go_loopg [13] tos.length (fun gg s55 wi => ∃ i : Nat, i ≤ tos.length ∧ tos.length - i ≤ gg ∧ s55 = .int .i64 i ∧ Aside (Below (w.heap.size + 1) w5 wi) ∧ Aside (OwnV wi (w.heap.size + 1) (.slice (some ⟨g, 0, none⟩) ms.length c5) (giveTo cl (tos.take i))) ∧ Aside (OwnV wi wo.heap.size (.slice A7 tos.length c7) tos) ∧ Aside (∀ n (hn : n < tos.length), n < i → cl.getD tos[n].toNat 0 ≠ 4))
      case atStart => exact ⟨0, Nat.zero_le _, by omega, rfl, B7.out, OC7.out, O7.out, fun _ _ h => absurd h (by omega)⟩
      case round =>
        obtain ⟨i, hi, hgi, rfl, BI, OI, TI, NI⟩ := hrel
        have BX := Lib.hid (B5.out.trans (BI.out.mono (by omega)) : Below w.heap.size w wr)
        have PI : Hid (Bk wr w.heap.size 37 (netCells x (some ⟨b, off, none⟩) c)) := (BI.out.block w.heap.size (by omega)).trans P5.out
        have szi := PI.out.lt
        by_cases hil : i < tos.length
        · have hiz : (i : Int) < (tos.length : Int) := by omega
          obtain ⟨A8, c8, hv8, hA8⟩ := TI.out.form
          simp only [Value.slice.injEq] at hv8
          obtain ⟨hv8, -, -⟩ := hv8
          subst hv8
          obtain ⟨g8, hg8, hgb8, hw8⟩ := hA8 (by omega)
          subst hg8
          have hc8 := hw8.cell (iv_get (List.getElem?_eq_getElem hil))
          have hpp := HSPL.out.2 tos[i] (List.getElem_mem hil)
          have HS := Lib.hid (giveTo_snoc cl tos i hil)
          obtain ⟨p, hp⟩ := Int.eq_ofNat_of_zero_le (by omega : 0 ≤ tos[i])
          have hpl : p < ms.length := by have := HML.out; omega
          have hpc : p < cl.length := by rw [HCN.out]; exact hpl
          have hnext := giveTo_next (ms := cl) HSPL.out.1 hil (by rw [hp]; exact hpc)
          have HF4 : Hid (cl.getD p 0 = 4 → ¬ okM (giveTo cl tos)) := fun h4 => give_fail hil (by rw [hp]; exact hpc) (by rw [hp]; exact h4)
          rw [hp] at hc8 HS hpp hnext
          rw [Int.toNat_natCast] at hnext
          have hpz : (p : Int) < (ms.length : Int) := by omega
          obtain ⟨hold, hfr⟩ := OI.out.at_ p (by rw [giveTo_len]; exact hpc)
          have hbd := giveTo_bd HMC.out (tos.take i) p hpc
          have htl : (tos.take i).length ≤ i := by simp; omega
          obtain ⟨z0, hz0⟩ : ∃ z0 : Int, z0 = (giveTo cl (tos.take i)).getD p 0 := ⟨_, rfl⟩
          rw [← hz0] at hold hbd hnext
          have HO := Lib.hid (OI.out.put p (z0 + 1))
          have HOZ : Hid (giveAt (giveTo cl (tos.take i)) (p : Int) = (giveTo cl (tos.take i)).set p (z0 + 1)) := by show _ = _; rw [giveAt, Int.toNat_natCast, ← hz0]
          have HB := Lib.hid (BI.out.setCell (p := ⟨g, p, none⟩) hgw (.int .i64 (z0 + 1)))
          have HT8 := Lib.hid (TI.out.keptK (Kept.cell (p := ⟨g, p, none⟩) (show g < wo.heap.size from hgr) (.int .i64 (z0 + 1))))
          have HPP := Lib.hid hp
          have HNX := Lib.hid hnext
          clear hz0 hw8 hA8 hpp hnext hp
          by_cases h4 : z0 = 4
          · subst h4
            have HE3 : Hid (firOf x ms j d = ([], false)) := by
              show _ = _
              rw [HE.out, if_neg]
              intro h
              rw [HE2.out] at h
              exact HF4.out HNX.out.symm (marksOk_iff.1 h).2
            go_wp2
            go_ret2
            exact ⟨_, by rw [HE3.out]; rfl, by rw [HE3.out]; exact OwnV.made' (by omega), BX.out.alloc (by omega) _⟩
          · have b4 : (z0 == 4) = false := by simp [h4]
            have HN4 : Hid (∀ n (hn : n < tos.length), n < i + 1 → cl.getD tos[n].toNat 0 ≠ 4) := fun n hn hni => by
              rcases Nat.lt_succ_iff_lt_or_eq.1 hni with h | h
              · exact NI.out n hn h
              · subst h
                rw [HPP.out, Int.toNat_natCast, ← HNX.out]
                exact h4
            clear h4
            go_wp2
            go_still_tail 14, (by kernel_rfl)
            change wpList _ _ _ _ _ wr.drew
            have HBd := Lib.hid (BI.out.drew)
            go_wp2
            go_roundg (tos.length - (i + 1))
            case measure => omega
            case rel => exact ⟨i + 1, by omega, by omega, by go_num, HB.out.drew, by show OwnV _ _ _ _; rw [HS.out, HOZ.out]; exact HO.out, HT8.out, HN4.out⟩
        · have hiz : ¬ (i : Int) < (tos.length : Int) := by omega
          have he : i = tos.length := by omega
          subst he
          have OF : Hid (OwnV wr (w.heap.size + 1) (.slice (some ⟨g, 0, none⟩) ms.length c5) (firOut y ms d)) := by
            have h := OI.out
            rw [List.take_length, ← HE2.out] at h
            exact h
          have HE3 : Hid (firOf x ms j d = (firOut y ms d, true)) := by
            show _ = _
            rw [HE.out, if_pos]
            refine marksOk_iff.2 ⟨by rw [HFL.out]; exact HML.out, ?_⟩
            rw [HE2.out]
            exact give_fits HMC.out HSPL.out.1 fun k hk => NI.out k hk hk
          go_wp2
          go_ret2
          exact ⟨_, by rw [HE3.out]; rfl, by rw [HE3.out]; exact OF.out.low (by omega), BX.out⟩

end Go.Proofs.Ytkoaaagmcjjimaa
