/- A net copied by the reference: l9CopyNet. -/
import Derived.Test.YtkkjljpokannkaaNet
import Derived.Test.YtkkjljpokannkaaApp5
import Derived.Test.YtkkjljpokannkaaAppFlat
import Derived.Test.YtkkjljpokannkaaDrawAny
namespace Go.Proofs.Ytkkjljpokannkaa
open Go.RowKit
set_option linter.unusedSimpArgs false
set_option linter.unusedVariables false

theorem info_Task5 : (Try.prog.info? 42).map (fun i => (i.zero, i.size, i.bytes)) = some (some (.agg #[.int .i64 0, .int .i64 0, .slice none 0 0, .slice none 0 0, .slice none 0 0, .int .i64 0, .int .i64 0, .int .i64 0, .int .i64 0]), 9, 120) := by kernel_rfl
theorem info_Flow5 : (Try.prog.info? 142).map (fun i => (i.zero, i.size, i.bytes)) = some (some (.agg #[.int .i64 0, .int .i64 0, .int .i64 0, .int .i64 0]), 4, 32) := by kernel_rfl
theorem kept_cell {base : Nat} {w : World} {p : Addr} (hp : p.block < base) (u : Value) : Kept base w (w.setCell p u) :=
  ⟨by simp [World.setCell], fun b _ hb => Below.heap_setCell w p u b (by omega)⟩
/-- The slices of a task are short. -/
def taskFew (t : GTask) : Prop := t.inn.length ≤ 1000 ∧ t.out.length ≤ 1000 ∧ t.clear.length ≤ 1000

set_option maxRecDepth 100000 in
set_option maxHeartbeats 4000000 in
theorem spec_l9CopyNet (x : GNet) (A : Option Addr) (c : Nat) (m : Option Nat) (w : World) (h : Rows taskC m w w.heap.size A x.tasks) (hl : x.tasks.length ≤ 1000) (hs : ∀ t ∈ x.tasks, taskFew t) :
    Calls Try.prog 158 #[.agg #[.int .i64 x.places, .slice A x.tasks.length c]] w (MadeR netC x w) := by
  have H := Lib.hid h
  have HS := Lib.hid hs
  clear h hs
  go_enter Try.func158, Try.ntmps158
  go_wp2
  generalize hW : World.alloc (World.alloc (World.alloc w _) _) _ = W
  have P : Hid (Bk W w.heap.size 37 #[.int .i64 x.places, .slice A x.tasks.length c]) := by show Bk _ _ _ _; rw [← hW]; exact ((Bk.new rfl).alloc _).alloc _
  have Z : Hid (Bk W (w.heap.size + 1) 37 #[.int .i64 0, .slice none 0 0]) := by show Bk _ _ _ _; rw [← hW]; exact (Bk.new (by simp)).alloc _
  have N : Hid (Bk W (w.heap.size + 1 + 1) 37 #[.int .i64 x.places, .slice none 0 0]) := by show Bk _ _ _ _; rw [← hW]; exact Bk.new (by simp)
  have B : Hid (Below w.heap.size w W) := by show Below _ _ _; rw [← hW]; go_grown
  clear hW
  go_loopg [4, 5] x.tasks.length (fun gg s4 _ wr => ∃ (i : Nat) (v : Value), i ≤ x.tasks.length ∧ x.tasks.length - i ≤ gg ∧ s4 = .int .i64 i ∧ Aside (Bk wr w.heap.size 37 #[.int .i64 x.places, .slice A x.tasks.length c]) ∧ Aside (Bk wr (w.heap.size + 1) 37 #[.int .i64 0, .slice none 0 0]) ∧ Aside (Bk wr (w.heap.size + 1 + 1) 37 #[.int .i64 x.places, v]) ∧ Aside (Below w.heap.size w wr) ∧ Aside (OwnC taskC 42 wr (w.heap.size + 3) v (x.tasks.take i)))
  case atStart => exact ⟨0, _, Nat.zero_le _, by omega, rfl, P.out, Z.out, N.out, B.out, OwnC.nil _ _⟩
  case round =>
    obtain ⟨i, v, hi, hg, rfl, PW, ZW, NW, BW, OW⟩ := hrel
    have zN := NW.out.lt
    have kP := fun j => PW.out.cell j
    have hil := OW.out.rows (by simp; omega)
    obtain ⟨A9, c9, hv9, hrow9⟩ := hil
    by_cases hlt : i < x.tasks.length
    · have hltz : (i : Int) < (x.tasks.length : Int) := by omega
      have hv : v = .slice A9 i c9 := by rw [hv9, List.length_take, Nat.min_eq_left (by omega)]
      clear hrow9 hv9
      subst hv
      obtain ⟨b, off, C1, i1, C2, i2, C3, i3, rfl, hb, hr, t0, t1, t2, t3, t4, t5, t6, t7, t8⟩ := task_at (H.out.later BW.out) hlt
      have HT : Hid (x.tasks.take (i + 1) = x.tasks.take i ++ [x.tasks[i]]) := List.take_succ_eq_append_getElem hlt
      obtain ⟨l2, l3, l4⟩ := HS.out _ (List.getElem_mem hlt)
      generalize x.tasks[i] = y at hr t0 t1 t2 t3 t4 t5 t6 t7 t8 HT l2 l3 l4
      have Q1 := Lib.hid hr.1
      have Q2 := Lib.hid hr.2.1
      have Q3 := Lib.hid hr.2.2
      clear hr
      go_upto_region 6 with fail
      generalize hV : World.alloc wr _ = V1
      have E1 : Hid (Bk V1 wr.heap.size 42 #[.int .i64 y.join, .int .i64 y.split, .slice C1 y.inn.length i1, .slice C2 y.out.length i2, .slice C3 y.clear.length i3, .int .i64 y.role, .int .i64 y.apart, .int .i64 y.all, .int .i64 y.need]) := by show Bk _ _ _ _; rw [← hV]; exact Bk.new rfl
      have B1 : Hid (Below wr.heap.size wr V1) := by show Below _ _ _; rw [← hV]; exact (Below.refl _ _).alloc (Nat.le_refl _) _
      have y1 := E1.out.lt
      clear hV t0 t1 t2 t3 t4 t5 t6 t7 t8 kP hb
      have kE := fun j => E1.out.cell j
      have fE := fun j => E1.out.frozen j
      go_upto_region 7 with (at_builtin; refine append_intsA rfl (.tmp 21) (.tmp 23) rfl V1.heap.size _ [] rfl (OwnV.made' (Nat.le_refl _)) C1 i1 _ y.inn rfl ((Q1.out.later B1.out).later ((Below.refl _ _).alloc (Nat.le_refl _) _)).ints (by simp; omega) (by simp) ?_; intro v1 wx hown2 hg2 hb2; rw [List.nil_append] at hown2; obtain ⟨D1, j1, rfl, hD1⟩ := hown2.form; have E0 : Hid (Bk wx wr.heap.size 42 #[.int .i64 y.join, .int .i64 y.split, .slice C1 y.inn.length i1, .slice C2 y.out.length i2, .slice C3 y.clear.length i3, .int .i64 y.role, .int .i64 y.apart, .int .i64 y.all, .int .i64 y.need]) := (hb2.block wr.heap.size y1).trans (E1.out.alloc _); have kE0 := fun j => E0.out.cell j; have fE0 := fun j => E0.out.frozen j; have OX := Lib.hid hown2; have BX := Lib.hid hb2; clear hown2 hg2 hb2 kE fE hD1)
      have E0 : Hid (Bk wx wr.heap.size 42 #[.int .i64 y.join, .int .i64 y.split, .slice C1 y.inn.length i1, .slice C2 y.out.length i2, .slice C3 y.clear.length i3, .int .i64 y.role, .int .i64 y.apart, .int .i64 y.all, .int .i64 y.need]) := (BX.out.block wr.heap.size y1).trans (E1.out.alloc _)
      generalize hV : World.setCell wx _ _ = V2
      have E2 : Hid (Bk V2 wr.heap.size 42 #[.int .i64 y.join, .int .i64 y.split, .slice D1 y.inn.length j1, .slice C2 y.out.length i2, .slice C3 y.clear.length i3, .int .i64 y.role, .int .i64 y.apart, .int .i64 y.all, .int .i64 y.need]) := by show Bk _ _ _ _; rw [← hV]; exact E0.out.set 2 _
      have hk : ∀ q, q ≠ wr.heap.size → V2.heap[q]? = wx.heap[q]? := fun q hq => by rw [← hV]; exact Below.heap_setCell _ ⟨wr.heap.size, 2, none⟩ _ q hq
      have hsz : V2.heap.size = wx.heap.size := by rw [← hV]; simp [World.setCell]
      have ho : V2.os = wx.os ∧ V2.tape = wx.tape ∧ V2.output = wx.output := by rw [← hV]; exact ⟨rfl, rfl, rfl⟩
      have hba : Below V1.heap.size V1 (V1.alloc (.cells #[] 3)) := (Below.refl _ _).alloc (Nat.le_refl _) _
      have hbx : Below V1.heap.size V1 wx := hba.trans BX.out
      have zx := hbx.size
      have B2 : Hid (Below wr.heap.size wr V2) := ⟨ho.1.trans (hbx.os.trans B1.out.os), ho.2.1.trans (hbx.tape.trans B1.out.tape), ho.2.2.trans (hbx.output.trans B1.out.output), by rw [hsz]; exact Nat.le_trans B1.out.size zx, fun q hq => (hk q (by omega)).trans ((hbx.block q (by have := B1.out.size; omega)).trans (B1.out.block q hq))⟩
      have y2 : wr.heap.size < V2.heap.size := by omega
      have P1 : Hid (Rows intC (some (wr.heap.size + 1)) V2 V2.heap.size D1 y.inn) := by
        obtain ⟨A8, c8, hv8, hr8⟩ := OX.out.rows (by omega)
        simp only [Value.slice.injEq] at hv8
        obtain ⟨rfl, _, _⟩ := hv8
        exact ((hr8.weak (Weaker.some (by omega : wr.heap.size + 1 ≤ V1.heap.size))).keep fun q _ hq => hk q (by have := hq _ rfl; omega)).more (by omega)
      clear hV hk hsz ho hba hbx BX OX E0 zx
      have kE := fun j => E2.out.cell j
      have fE := fun j => E2.out.frozen j
      go_upto_region 8 with (at_builtin; refine append_flatA rfl (.tmp 26) (.tmp 28) 40 142 rfl _ 32 Try.underlying40 info_Flow5 rfl (by decide) (by decide) (fun f u hu => by simp [GFlow.cells] at hu; rcases hu with rfl | rfl | rfl | rfl <;> rfl) V2.heap.size _ [] rfl (OwnC.made (Nat.le_refl _) 0 #[] (by decide) rfl) C2 i2 _ _ y.out rfl ((Q2.out.later B2.out).later ((Below.refl _ _).alloc (Nat.le_refl _) _)) (by simp; omega) (by simp) ?_; intro v1 wx hown2 hg2 hb2; rw [List.nil_append] at hown2; obtain ⟨D2, j2, rfl, hD1⟩ := hown2.rows (by omega); have E0 : Hid (Bk wx wr.heap.size 42 #[.int .i64 y.join, .int .i64 y.split, .slice D1 y.inn.length j1, .slice C2 y.out.length i2, .slice C3 y.clear.length i3, .int .i64 y.role, .int .i64 y.apart, .int .i64 y.all, .int .i64 y.need]) := (hb2.block wr.heap.size y2).trans (E2.out.alloc _); have kE0 := fun j => E0.out.cell j; have fE0 := fun j => E0.out.frozen j; have OX := Lib.hid hown2; have BX := Lib.hid hb2; clear hown2 hg2 hb2 kE fE hD1)
      have E0 : Hid (Bk wx wr.heap.size 42 #[.int .i64 y.join, .int .i64 y.split, .slice D1 y.inn.length j1, .slice C2 y.out.length i2, .slice C3 y.clear.length i3, .int .i64 y.role, .int .i64 y.apart, .int .i64 y.all, .int .i64 y.need]) := (BX.out.block wr.heap.size y2).trans (E2.out.alloc _)
      generalize hV : World.setCell wx _ _ = V3
      have E3 : Hid (Bk V3 wr.heap.size 42 #[.int .i64 y.join, .int .i64 y.split, .slice D1 y.inn.length j1, .slice D2 y.out.length j2, .slice C3 y.clear.length i3, .int .i64 y.role, .int .i64 y.apart, .int .i64 y.all, .int .i64 y.need]) := by show Bk _ _ _ _; rw [← hV]; exact E0.out.set 3 _
      have hk : ∀ q, q ≠ wr.heap.size → V3.heap[q]? = wx.heap[q]? := fun q hq => by rw [← hV]; exact Below.heap_setCell _ ⟨wr.heap.size, 3, none⟩ _ q hq
      have hsz : V3.heap.size = wx.heap.size := by rw [← hV]; simp [World.setCell]
      have ho : V3.os = wx.os ∧ V3.tape = wx.tape ∧ V3.output = wx.output := by rw [← hV]; exact ⟨rfl, rfl, rfl⟩
      have hba : Below V2.heap.size V2 (V2.alloc (.cells #[] 142)) := (Below.refl _ _).alloc (Nat.le_refl _) _
      have hbx : Below V2.heap.size V2 wx := hba.trans BX.out
      have zx := hbx.size
      have B3 : Hid (Below wr.heap.size wr V3) := ⟨ho.1.trans (hbx.os.trans B2.out.os), ho.2.1.trans (hbx.tape.trans B2.out.tape), ho.2.2.trans (hbx.output.trans B2.out.output), by rw [hsz]; exact Nat.le_trans B2.out.size zx, fun q hq => (hk q (by omega)).trans ((hbx.block q (by have := B2.out.size; omega)).trans (B2.out.block q hq))⟩
      have y3 : wr.heap.size < V3.heap.size := by omega
      have P1 : Hid (Rows intC (some (wr.heap.size + 1)) V3 V3.heap.size D1 y.inn) := ((P1.out.below hbx).keep fun q _ hq => hk q (by have := hq _ rfl; omega)).more (by omega)
      have P2 : Hid (Rows flowC (some (wr.heap.size + 1)) V3 V3.heap.size D2 y.out) := by
        obtain ⟨A8, c8, hv8, hr8⟩ := OX.out.rows (by omega)
        simp only [Value.slice.injEq] at hv8
        obtain ⟨rfl, _, _⟩ := hv8
        exact ((hr8.weak (Weaker.some (by omega : wr.heap.size + 1 ≤ V2.heap.size))).keep fun q _ hq => hk q (by have := hq _ rfl; omega)).more (by omega)
      clear hV hk hsz ho hba hbx BX OX E0 zx
      have kE := fun j => E3.out.cell j
      have fE := fun j => E3.out.frozen j
      go_upto_region 9 with (at_builtin; refine append_intsA rfl (.tmp 31) (.tmp 33) rfl V3.heap.size _ [] rfl (OwnV.made' (Nat.le_refl _)) C3 i3 _ y.clear rfl ((Q3.out.later B3.out).later ((Below.refl _ _).alloc (Nat.le_refl _) _)).ints (by simp; omega) (by simp) ?_; intro v1 wx hown2 hg2 hb2; rw [List.nil_append] at hown2; obtain ⟨D3, j3, rfl, hD1⟩ := hown2.form; have E0 : Hid (Bk wx wr.heap.size 42 #[.int .i64 y.join, .int .i64 y.split, .slice D1 y.inn.length j1, .slice D2 y.out.length j2, .slice C3 y.clear.length i3, .int .i64 y.role, .int .i64 y.apart, .int .i64 y.all, .int .i64 y.need]) := (hb2.block wr.heap.size y3).trans (E3.out.alloc _); have kE0 := fun j => E0.out.cell j; have fE0 := fun j => E0.out.frozen j; have OX := Lib.hid hown2; have BX := Lib.hid hb2; clear hown2 hg2 hb2 kE fE hD1)
      have E0 : Hid (Bk wx wr.heap.size 42 #[.int .i64 y.join, .int .i64 y.split, .slice D1 y.inn.length j1, .slice D2 y.out.length j2, .slice C3 y.clear.length i3, .int .i64 y.role, .int .i64 y.apart, .int .i64 y.all, .int .i64 y.need]) := (BX.out.block wr.heap.size y3).trans (E3.out.alloc _)
      generalize hV : World.setCell wx _ _ = V4
      have E4 : Hid (Bk V4 wr.heap.size 42 #[.int .i64 y.join, .int .i64 y.split, .slice D1 y.inn.length j1, .slice D2 y.out.length j2, .slice D3 y.clear.length j3, .int .i64 y.role, .int .i64 y.apart, .int .i64 y.all, .int .i64 y.need]) := by show Bk _ _ _ _; rw [← hV]; exact E0.out.set 4 _
      have hk : ∀ q, q ≠ wr.heap.size → V4.heap[q]? = wx.heap[q]? := fun q hq => by rw [← hV]; exact Below.heap_setCell _ ⟨wr.heap.size, 4, none⟩ _ q hq
      have hsz : V4.heap.size = wx.heap.size := by rw [← hV]; simp [World.setCell]
      have ho : V4.os = wx.os ∧ V4.tape = wx.tape ∧ V4.output = wx.output := by rw [← hV]; exact ⟨rfl, rfl, rfl⟩
      have hba : Below V3.heap.size V3 (V3.alloc (.cells #[] 3)) := (Below.refl _ _).alloc (Nat.le_refl _) _
      have hbx : Below V3.heap.size V3 wx := hba.trans BX.out
      have zx := hbx.size
      have B4 : Hid (Below wr.heap.size wr V4) := ⟨ho.1.trans (hbx.os.trans B3.out.os), ho.2.1.trans (hbx.tape.trans B3.out.tape), ho.2.2.trans (hbx.output.trans B3.out.output), by rw [hsz]; exact Nat.le_trans B3.out.size zx, fun q hq => (hk q (by omega)).trans ((hbx.block q (by have := B3.out.size; omega)).trans (B3.out.block q hq))⟩
      have y4 : wr.heap.size < V4.heap.size := by omega
      have P1 : Hid (Rows intC (some (wr.heap.size + 1)) V4 V4.heap.size D1 y.inn) := ((P1.out.below hbx).keep fun q _ hq => hk q (by have := hq _ rfl; omega)).more (by omega)
      have P2 : Hid (Rows flowC (some (wr.heap.size + 1)) V4 V4.heap.size D2 y.out) := ((P2.out.below hbx).keep fun q _ hq => hk q (by have := hq _ rfl; omega)).more (by omega)
      have P3 : Hid (Rows intC (some (wr.heap.size + 1)) V4 V4.heap.size D3 y.clear) := by
        obtain ⟨A8, c8, hv8, hr8⟩ := OX.out.rows (by omega)
        simp only [Value.slice.injEq] at hv8
        obtain ⟨rfl, _, _⟩ := hv8
        exact ((hr8.weak (Weaker.some (by omega : wr.heap.size + 1 ≤ V3.heap.size))).keep fun q _ hq => hk q (by have := hq _ rfl; omega)).more (by omega)
      clear hV hk hsz ho hba hbx BX OX E0 zx
      have kE := fun j => E4.out.cell j
      have fE := fun j => E4.out.frozen j
      have ZV : Hid (Bk V4 (w.heap.size + 1) 37 #[.int .i64 0, .slice none 0 0]) := ZW.out.later B4.out
      have PV : Hid (Bk V4 w.heap.size 37 #[.int .i64 x.places, .slice (some ⟨b, off, none⟩) x.tasks.length c]) := PW.out.later B4.out
      have NV : Hid (Bk V4 (w.heap.size + 1 + 1) 37 #[.int .i64 x.places, .slice A9 i c9]) := NW.out.later B4.out
      have BV := Lib.hid (BW.out.trans (B4.out.mono BW.out.size))
      have OV := Lib.hid (OW.out.later B4.out)
      have kN := fun j => NV.out.cell j
      have fN := fun j => NV.out.frozen j
      have zB := BW.out.size
      have HMS : Hid (x.tasks.length - (i + 1) < x.tasks.length - i) := by show _ < _; omega
      have HG := Lib.hid hg
      have HLT := Lib.hid hlt
      have HL8 : Hid ((x.tasks.take i ++ [y]).length = i + 1) := by show _ = _; rw [List.length_append, List.length_take, Nat.min_eq_left (by omega)]; rfl
      go_wp2_with (at_builtin; refine append_C5 rfl (.tmp 37) (.tmp 39) 35 rfl taskC 42 _ 120 Try.underlying35 info_Task5 rfl (by decide) (by decide) (w.heap.size + 3) _ (x.tasks.take i) rfl (OV.out.later ((Below.refl _ _).alloc (Nat.le_refl _) _)) y _ (wr.heap.size + 1) V4.heap.size ⟨D1, j1, D2, j2, D3, j3, rfl, P1.out.keep (Agree.of_below ((Below.refl _ _).alloc (Nat.le_refl _) _)), P2.out.keep (Agree.of_below ((Below.refl _ _).alloc (Nat.le_refl _) _)), P3.out.keep (Agree.of_below ((Below.refl _ _).alloc (Nat.le_refl _) _))⟩ (by omega) (by simp) (fun g' hg' => .inl (by have := (OW.out.lt g' hg').2; omega)) V4.heap.size rfl (fun j u hu => by rw [Bk.cell (Bk.new rfl)]; simpa using hu) (by simp [Value.oneCell']) (Nat.le_trans (List.length_take_le _ _) (by omega)) (by rw [World.size_alloc]; omega) ?_; intro v' w7 hown7 hg7 hb7 h57; have O7 := Lib.hid hown7; have G7 := Lib.hid hg7; have B7 := Lib.hid hb7; have N7 : Hid (Bk w7 (w.heap.size + 1 + 1) 37 #[.int .i64 x.places, .slice A9 i c9]) := (hb7.block _ (by omega)).trans (NV.out.alloc _); have kN7 := fun j => N7.out.cell j; have fN7 := fun j => N7.out.frozen j; obtain ⟨A7, c7, hv7, hz7⟩ := hown7.rows (by rw [HL8.out]; omega); have hv8 : v' = .slice A7 (i + 1) c7 := hv7.trans (congrArg (fun n => Value.slice A7 n c7) HL8.out); clear hv7 hz7; subst hv8; clear hown7 hg7 hb7 h57 kN fN)
      go_roundg (x.tasks.length - (i + 1))
      case measure => exact Nat.lt_of_lt_of_le HMS.out HG.out
      case rel =>
        have N7 : Bk w7 (w.heap.size + 1 + 1) 37 #[.int .i64 x.places, .slice A9 i c9] := (B7.out.block _ (by omega)).trans (NV.out.alloc _)
        have hba : Below V4.heap.size V4 (V4.alloc (.cells #[.int .i64 y.join, .int .i64 y.split, .slice D1 y.inn.length j1, .slice D2 y.out.length j2, .slice D3 y.clear.length j3, .int .i64 y.role, .int .i64 y.apart, .int .i64 y.all, .int .i64 y.need] 42)) := (Below.refl _ _).alloc (Nat.le_refl _) _
        have hle : w.heap.size + 3 ≤ V4.heap.size := by omega
        have p7 : Bk w7 w.heap.size 37 #[.int .i64 x.places, .slice (some ⟨b, off, none⟩) x.tasks.length c] := (B7.out.block _ (by omega)).trans (PV.out.alloc _)
        have z7 : Bk w7 (w.heap.size + 1) 37 #[.int .i64 0, .slice none 0 0] := (B7.out.block _ (by omega)).trans (ZV.out.alloc _)
        refine ⟨i + 1, .slice A7 (i + 1) c7, hlt, Nat.le_refl _, by go_num, ?_, ?_, N7.set 1 _, ?_, ?_⟩
        · exact p7.far (p := ⟨w.heap.size + 1 + 1, 1, none⟩) (by show w.heap.size ≠ w.heap.size + 1 + 1; omega) _
        · exact z7.far (p := ⟨w.heap.size + 1 + 1, 1, none⟩) (by show w.heap.size + 1 ≠ w.heap.size + 1 + 1; omega) _
        · exact (BV.out.trans ((hba.mono (by omega)).trans (B7.out.mono (by omega)))).setCell (p := ⟨w.heap.size + 1 + 1, 1, none⟩) (by show w.heap.size ≤ w.heap.size + 1 + 1; omega) _
        · show OwnC _ _ _ _ _ _
          rw [HT.out]
          exact O7.out.kept (kept_cell (p := ⟨w.heap.size + 1 + 1, 1, none⟩) (by show w.heap.size + 1 + 1 < w.heap.size + 3; omega) _)
    · have hltz : ¬ (i : Int) < (x.tasks.length : Int) := by omega
      have he : i = x.tasks.length := by omega
      subst he
      rw [List.take_length] at hv9 hrow9 OW
      subst hv9
      have HR9 := Lib.hid hrow9
      clear hrow9
      have kN := fun j => NW.out.cell j
      have kZ := fun j => ZW.out.cell j
      have fZ := fun j => ZW.out.frozen j
      go_wp2
      generalize hV : World.setCell (World.setCell wr _ _) _ _ = V
      have ZV : Bk V (w.heap.size + 1) 37 #[.int .i64 x.places, .slice A9 x.tasks.length c9] := by rw [← hV]; exact (ZW.out.set 0 _).set 1 _
      have hk : ∀ q, q ≠ w.heap.size + 1 → V.heap[q]? = wr.heap[q]? := fun q hq => by
        rw [← hV]
        exact (Below.heap_setCell _ ⟨w.heap.size + 1, 1, none⟩ _ q hq).trans (Below.heap_setCell _ ⟨w.heap.size + 1, 0, none⟩ _ q hq)
      have hsz : V.heap.size = wr.heap.size := by rw [← hV]; simp [World.setCell]
      have tV : Below w.heap.size w V := by rw [← hV]; exact (BW.out.setCell (p := ⟨w.heap.size + 1, 0, none⟩) (by show w.heap.size ≤ w.heap.size + 1; omega) _).setCell (p := ⟨w.heap.size + 1, 1, none⟩) (by show w.heap.size ≤ w.heap.size + 1; omega) _
      clear hV kN kZ fZ
      have k1 := fun j => ZV.cell j
      refine bodyPost_ret (v := .agg #[.int .i64 x.places, .slice A9 x.tasks.length c9]) (by simp [results, Try.results158, go_sem, k1]) rfl ?_
      exact ⟨[.int .i64 x.places, .slice A9 x.tasks.length c9], rfl, ⟨A9, c9, rfl, ((HR9.out.keep fun q _ hq => hk q (by have := hq _ rfl; omega)).more (by omega)).weak (Weaker.some (by omega))⟩, tV⟩
end Go.Proofs.Ytkkjljpokannkaa
