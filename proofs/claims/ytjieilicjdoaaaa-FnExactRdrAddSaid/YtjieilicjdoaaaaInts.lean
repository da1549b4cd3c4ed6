/- Slices of ints: copied, compared, marked, asked for their marks; what each of these functions does, for every slice. -/
import Derived.Test.YtjieilicjdoaaaaBase
import Derived.Deep.OwnRows
import Derived.Deep.Light
namespace Go.Proofs.Ytjieilicjdoaaaa
open Go.RowKit

/-- Block g is a writable row of type t whose first cells are l. -/
def Wr (w : World) (g : Nat) (t : TypeId) (l : List Value) : Prop := ∃ cur : Array Value, w.heap[g]? = some (.cells cur t (0, 0)) ∧ cur.toList.take l.length = l

section
variable {w w' : World} {g : Nat} {t : TypeId} {l : List Value}
theorem Wr.lt (h : Wr w g t l) : g < w.heap.size := by
  obtain ⟨cur, h1, _⟩ := h
  exact (Array.getElem?_eq_some_iff.1 h1).1
theorem Wr.cell (h : Wr w g t l) {i : Nat} {u : Value} (hu : l[i]? = some u) : w.cell? ⟨g, i, none⟩ = some u := by
  obtain ⟨cur, h1, h2⟩ := h
  rw [cell_of_row w g i cur t (0, 0) h1]
  rw [← h2, List.getElem?_take] at hu
  split at hu
  · simpa using hu
  · cases hu
theorem Wr.frozen (h : Wr w g t l) (i : Nat) : w.frozen? ⟨g, i, none⟩ = false := by
  obtain ⟨cur, h1, _⟩ := h
  exact frozen_of_row w g i cur t h1
theorem Wr.keep (h : Wr w g t l) (hk : w'.heap[g]? = w.heap[g]?) : Wr w' g t l := by
  obtain ⟨cur, h1, h2⟩ := h
  exact ⟨cur, hk.trans h1, h2⟩
theorem Wr.below {B : Nat} (h : Wr w g t l) (hb : Below B w w') (hg : g < B) : Wr w' g t l := h.keep (hb.block g hg)
theorem Wr.later (h : Wr w g t l) (hb : Below w.heap.size w w') : Wr w' g t l := h.below hb h.lt
theorem Wr.drew (h : Wr w g t l) : Wr w.drew g t l := h
theorem Wr.drewN (h : Wr w g t l) (n : Nat) : Wr (w.drewN n) g t l := h
theorem Wr.alloc (h : Wr w g t l) (o : Obj) : Wr (w.alloc o) g t l := h.keep (Below.heap_alloc w o g h.lt)
theorem Wr.far (h : Wr w g t l) {p : Addr} (hp : g ≠ p.block) (u : Value) : Wr (w.setCell p u) g t l := h.keep (Below.heap_setCell w p u g hp)
theorem Wr.set (h : Wr w g t l) (i : Nat) (u : Value) : Wr (w.setCell ⟨g, i, none⟩ u) g t (l.set i u) := by
  obtain ⟨cur, h1, h2⟩ := h
  refine ⟨cur.setIfInBounds i u, heap_setCell_same w g i cur t u h1, ?_⟩
  rw [Array.toList_setIfInBounds, List.length_set, List.take_set, h2]
theorem Wr.new (w : World) (t : TypeId) (cs : Array Value) : Wr (w.alloc (.cells cs t)) w.heap.size t cs.toList :=
  ⟨cs, heap_alloc_new w _, List.take_of_length_le (Nat.le_refl _)⟩
theorem Wr.of_own {base n c : Nat} {A : Option Addr} (h : w.ownsRow base t 1 (.slice A n c) n l) : (n = 0 ∧ l = []) ∨ ∃ g, A = some ⟨g, 0, none⟩ ∧ base ≤ g ∧ Wr w g t l := by
  rcases h.2 with ⟨h1, h2⟩ | ⟨g, cap, cur, hv, hb, hh, _, _, _, ht⟩
  · subst h2
    exact .inl ⟨rfl, List.eq_nil_of_length_eq_zero (by simpa using h.1)⟩
  · right
    simp only [Value.slice.injEq] at hv
    exact ⟨g, hv.1, hb, cur, hh, by rw [h.1]; exact ht⟩
end

/-- Ints as cells. -/
def iv (xs : List Int) : List Value := xs.map (Value.int .i64)
theorem iv_append (xs ys : List Int) : iv (xs ++ ys) = iv xs ++ iv ys := by simp [iv]
theorem iv_len (xs : List Int) : (iv xs).length = xs.length := by simp [iv]
theorem iv_get {xs : List Int} {i : Nat} {x : Int} (h : xs[i]? = some x) : (iv xs)[i]? = some (.int .i64 x) := by simp [iv, h]
theorem Wr.ints {w : World} {g B : Nat} {t : TypeId} {xs : List Int} (h : Wr w g t (iv xs)) (hB : g < B) (hl : xs.length ≤ 9223372036854775807) : Ints w B (some ⟨g, 0, none⟩) xs :=
  ⟨hl, fun _ => ⟨g, 0, rfl, hB, fun j x hx => by rw [Nat.zero_add]; exact h.cell (iv_get hx)⟩⟩

theorem info_int : (Try.prog.info? 3).map (fun i => (i.zero, i.size, i.bytes)) = some (some (.int .i64 0), 1, 8) := by kernel_rfl

theorem set_iv_step (xs : List Int) (k : Nat) (hk : k < xs.length) :
    (iv (xs.take k) ++ List.replicate (xs.length - k) (Value.int .i64 0)).set k (.int .i64 xs[k]) = iv (xs.take (k + 1)) ++ List.replicate (xs.length - (k + 1)) (Value.int .i64 0) := by
  rw [List.set_append_right _ _ (by simp [iv]; omega), List.take_succ_eq_append_getElem hk]
  have h1 : xs.length - k = (xs.length - (k + 1)) + 1 := by omega
  have h2 : k - (iv (List.take k xs)).length = 0 := by simp [iv]; omega
  rw [h2, h1, List.replicate_succ, List.set_cons_zero, iv_append, List.append_assoc]
  rfl
theorem hole_iv (xs : List Int) (k : Nat) (hk : k < xs.length) : (iv (xs.take k) ++ List.replicate (xs.length - k) (Value.int .i64 0))[k]? = some (.int .i64 0) := by
  have h : (iv (xs.take k)).length = k := by rw [iv_len, List.length_take]; omega
  rw [List.getElem?_append_right (by omega), h, Nat.sub_self, List.getElem?_replicate, if_pos (by omega)]

/-- What laws.toIntS leaves: a new row that holds the same ints. -/
def Copied (w : World) (t : TypeId) (l : List Value) (n : Nat) (e : Ending) (w' : World) : Prop :=
  e = .returned (.slice (some ⟨w.heap.size, 0, none⟩) n n) ∧ Wr w' w.heap.size t l ∧ Below w.heap.size w w'

theorem laws_toIntS (A : Option Addr) (c : Nat) (xs : List Int) (w : World) (B : Nat) (hB : B ≤ w.heap.size) (hx : Ints w B A xs) (hl : xs.length ≤ 1048576) :
    Calls Try.prog 9 #[.slice A xs.length c] w (Copied w 3 (iv xs) xs.length) := by
  have hmk := run_make_row' (P := Try.prog) 23 3 (.int .i64 0) 8 Try.underlying23 info_int rfl .i64 .i64 xs.length (by omega) (by omega)
  have HX := Lib.hid hx
  clear hx
  go_enter Try.func9, Try.ntmps9
  go_wp2
  clear hmk
  go_loopw [4] (fun s4 wr => ∃ k : Nat, k ≤ xs.length ∧ s4 = .int .i64 k ∧ Aside (Below w.heap.size w wr) ∧ Aside (Wr wr w.heap.size 3 (iv (xs.take k) ++ List.replicate (xs.length - k) (.int .i64 0)))) (fun s4 _ => xs.length - (intOf s4).toNat)
  case atStart =>
    refine ⟨0, Nat.zero_le _, rfl, (Below.refl _ w).alloc (Nat.le_refl _) _, ?_⟩
    have h := Wr.new w 3 (madeCells #[.int .i64 0] xs.length)
    rw [toList_madeCells_one] at h
    exact h
  case round =>
    obtain ⟨k, hk, rfl, BW, WW⟩ := hrel
    by_cases hlt : k < xs.length
    · have hltz : (k : Int) < (xs.length : Int) := by omega
      obtain ⟨b, off, rfl, hb, hc⟩ := HX.out.at_ hlt
      have hc2 := (BW.out.cell (p := ⟨b, off + k, none⟩) (by show b < w.heap.size; omega)).trans hc
      clear hc
      have hold : wr.cell? ⟨w.heap.size, k, none⟩ = some (.int .i64 0) := WW.out.cell (hole_iv xs k hlt)
      have hfr := WW.out.frozen k
      have hs := (WW.out.set k (.int .i64 xs[k]))
      rw [set_iv_step xs k hlt] at hs
      have HS := Lib.hid hs
      have HB := Lib.hid (BW.out.setCell (p := ⟨w.heap.size, k, none⟩) (Nat.le_refl _) (.int .i64 xs[k]))
      clear hs
      go_wp2
      go_roundw
      case rel => exact ⟨k + 1, by omega, by go_num, HB.out, HS.out⟩
      case measure => simp [intOf]; omega
    · have hltz : ¬ (k : Int) < (xs.length : Int) := by omega
      have he : k = xs.length := by omega
      have HE := Lib.hid he
      clear he
      go_wp2
      go_ret
      refine ⟨rfl, ?_, BW.out⟩
      have h1 := WW.out
      rw [HE.out] at h1
      simpa using h1
theorem eq_step {xs ys : List Int} {k : Nat} (hk : k < xs.length) (hl : xs.length = ys.length) (h : xs.take k = ys.take k) (e : xs[k] = ys[k]) : xs.take (k + 1) = ys.take (k + 1) := by
  rw [List.take_succ_eq_append_getElem hk, List.take_succ_eq_append_getElem (by omega), h, e]
theorem eq_miss {xs ys : List Int} {k : Nat} (hk : k < xs.length) (hk' : k < ys.length) (e : ¬ xs[k] = ys[k]) : decide (xs = ys) = false := by
  simp only [decide_eq_false_iff_not]
  rintro rfl
  exact e rfl

/-- What comparing two slices leaves: whether they hold the same ints; the world has at most drawn. -/
def Same (xs ys : List Int) (w : World) (e : Ending) (w' : World) : Prop := e = .returned (.bool (decide (xs = ys))) ∧ ∃ n, w' = w.drewN n

set_option maxHeartbeats 400000 in
theorem laws_eqIntS (A A' : Option Addr) (c c' : Nat) (xs ys : List Int) (w : World) (B : Nat) (hx : Ints w B A xs) (hy : Ints w B A' ys) :
    Calls Try.prog 13 #[.slice A xs.length c, .slice A' ys.length c'] w (Same xs ys w) := by
  have hlx := hx.1
  have hly := hy.1
  have HX := Lib.hid hx
  have HY := Lib.hid hy
  clear hx hy
  by_cases hl : xs.length = ys.length
  · have hne : ((xs.length : Int) != (ys.length : Int)) = false := by simp [hl]
    have HL := Lib.hid hl
    clear hl
    go_enter Try.func13, Try.ntmps13
    go_wp2
    go_loopg [5] xs.length (fun gg s5 wr => ∃ k : Nat, k ≤ xs.length ∧ xs.length - k ≤ gg ∧ s5 = .int .i64 k ∧ Aside (∃ n, wr = w.drewN n) ∧ Aside (xs.take k = ys.take k))
    case atStart => exact ⟨0, Nat.zero_le _, by omega, rfl, ⟨0, rfl⟩, by show xs.take 0 = ys.take 0; simp⟩
    case round =>
      obtain ⟨k, hk, hg, rfl, DW, TK⟩ := hrel
      by_cases hlt : k < xs.length
      · have hltz : (k : Int) < (xs.length : Int) := by omega
        have hlt2 : k < ys.length := by have := HL.out; omega
        have hltz2 : (k : Int) < (ys.length : Int) := by omega
        have h0 : (0 : Int) ≤ (k : Int) := by omega
        obtain ⟨b, off, rfl, hb, hc⟩ := HX.out.at_ hlt
        obtain ⟨b', off', rfl, hb', hc'⟩ := HY.out.at_ hlt2
        obtain ⟨q, rfl⟩ := DW.out
        by_cases he : xs[k] = ys[k]
        · have hbe : (xs[k] != ys[k]) = false := by simp [he]
          have HE := Lib.hid (eq_step hlt HL.out TK.out he)
          clear he TK
          generalize xs[k] = x at hc hbe
          generalize ys[k] = y at hc' hbe
          go_wp2
          go_quiet (fail)
          go_wp2
          go_roundg (xs.length - (k + 1))
          case measure => omega
          case rel => exact ⟨k + 1, by omega, by omega, by go_num, ⟨_, rfl⟩, HE.out⟩
        · have hbe : (xs[k] != ys[k]) = true := by simp [he]
          have HE := Lib.hid (eq_miss hlt hlt2 he)
          clear he TK
          generalize xs[k] = x at hc hbe
          generalize ys[k] = y at hc' hbe
          go_wp2
          go_quiet (fail)
          go_wp2
          go_ret
          exact ⟨by rw [HE.out]; rfl, _, World.drewN_drewN _ _ _⟩
      · have hltz : ¬ (k : Int) < (xs.length : Int) := by omega
        have he : k = xs.length := by omega
        have HE := Lib.hid he
        clear he
        go_wp2
        go_ret
        refine ⟨?_, DW.out⟩
        have h1 := TK.out
        rw [HE.out, List.take_length, HL.out, List.take_length] at h1
        rw [h1]; simp
  · have hne : ((xs.length : Int) != (ys.length : Int)) = true := by simp; omega
    have hd : decide (xs = ys) = false := by
      simp only [decide_eq_false_iff_not]
      rintro rfl
      exact hl rfl
    have HD := Lib.hid hd
    clear hd hl
    go_enter Try.func13, Try.ntmps13
    go_wp2
    go_ret
    exact ⟨by rw [HD.out]; rfl, 0, rfl⟩
set_option maxHeartbeats 400000 in
theorem laws_guInts (A A' : Option Addr) (c c' : Nat) (xs ys : List Int) (w : World) (B : Nat) (hx : Ints w B A xs) (hy : Ints w B A' ys) :
    Calls Try.prog 24 #[.slice A xs.length c, .slice A' ys.length c'] w (Same xs ys w) := by
  have hlx := hx.1
  have hly := hy.1
  have HX := Lib.hid hx
  have HY := Lib.hid hy
  clear hx hy
  by_cases hl : xs.length = ys.length
  · have hne : ((xs.length : Int) != (ys.length : Int)) = false := by simp [hl]
    have HL := Lib.hid hl
    clear hl
    go_enter Try.func24, Try.ntmps24
    go_wp2
    go_loopg [5] xs.length (fun gg s5 wr => ∃ k : Nat, k ≤ xs.length ∧ xs.length - k ≤ gg ∧ s5 = .int .i64 k ∧ Aside (∃ n, wr = w.drewN n) ∧ Aside (xs.take k = ys.take k))
    case atStart => exact ⟨0, Nat.zero_le _, by omega, rfl, ⟨0, rfl⟩, by show xs.take 0 = ys.take 0; simp⟩
    case round =>
      obtain ⟨k, hk, hg, rfl, DW, TK⟩ := hrel
      by_cases hlt : k < xs.length
      · have hltz : (k : Int) < (xs.length : Int) := by omega
        have hlt2 : k < ys.length := by have := HL.out; omega
        have hltz2 : (k : Int) < (ys.length : Int) := by omega
        have h0 : (0 : Int) ≤ (k : Int) := by omega
        obtain ⟨b, off, rfl, hb, hc⟩ := HX.out.at_ hlt
        obtain ⟨b', off', rfl, hb', hc'⟩ := HY.out.at_ hlt2
        obtain ⟨q, rfl⟩ := DW.out
        by_cases he : xs[k] = ys[k]
        · have hbe : (xs[k] != ys[k]) = false := by simp [he]
          have HE := Lib.hid (eq_step hlt HL.out TK.out he)
          clear he TK
          generalize xs[k] = x at hc hbe
          generalize ys[k] = y at hc' hbe
          go_wp2
          go_quiet (fail)
          go_wp2
          go_roundg (xs.length - (k + 1))
          case measure => omega
          case rel => exact ⟨k + 1, by omega, by omega, by go_num, ⟨_, rfl⟩, HE.out⟩
        · have hbe : (xs[k] != ys[k]) = true := by simp [he]
          have HE := Lib.hid (eq_miss hlt hlt2 he)
          clear he TK
          generalize xs[k] = x at hc hbe
          generalize ys[k] = y at hc' hbe
          go_wp2
          go_quiet (fail)
          go_wp2
          go_ret
          exact ⟨by rw [HE.out]; rfl, _, World.drewN_drewN _ _ _⟩
      · have hltz : ¬ (k : Int) < (xs.length : Int) := by omega
        have he : k = xs.length := by omega
        have HE := Lib.hid he
        clear he
        go_wp2
        go_ret
        refine ⟨?_, DW.out⟩
        have h1 := TK.out
        rw [HE.out, List.take_length, HL.out, List.take_length] at h1
        rw [h1]; simp
  · have hne : ((xs.length : Int) != (ys.length : Int)) = true := by simp; omega
    have hd : decide (xs = ys) = false := by
      simp only [decide_eq_false_iff_not]
      rintro rfl
      exact hl rfl
    have HD := Lib.hid hd
    clear hd hl
    go_enter Try.func24, Try.ntmps24
    go_wp2
    go_ret
    exact ⟨by rw [HD.out]; rfl, 0, rfl⟩
end Go.Proofs.Ytjieilicjdoaaaa
