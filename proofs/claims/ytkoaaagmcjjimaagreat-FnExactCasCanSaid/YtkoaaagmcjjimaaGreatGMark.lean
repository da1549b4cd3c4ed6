/- Rows of plain records marked: all their cells are ints, and stay ints. -/
import Derived.Test.YtkoaaagmcjjimaaGreatMarks
import Derived.Test.YtkoaaagmcjjimaaGreatGBase
import Derived.Test.YtkoaaagmcjjimaaGreatCopyDid
import Derived.Test.YtkoaaagmcjjimaaGreatCopyCase
import Derived.Test.YtkoaaagmcjjimaaGreatCopyNet
namespace Go.Proofs.YtkoaaagmcjjimaaGreat
open Go.RowKit

/-- Block g begins with n cells that are ints. -/
def IntRow (w : World) (g n : Nat) : Prop := ∃ (t : TypeId) (zs : List Int), zs.length = n ∧ Wr w g t (iv zs)

theorem IntRow.cell {w : World} {g n : Nat} (h : IntRow w g n) {i : Nat} (hi : i < n) : ∃ z, w.cell? ⟨g, i, none⟩ = some (.int .i64 z) := by
  obtain ⟨t, zs, hl, hw⟩ := h
  exact ⟨zs[i]'(by omega), hw.cell (iv_get (List.getElem?_eq_getElem (by omega)))⟩
theorem IntRow.frozen {w : World} {g n : Nat} (h : IntRow w g n) (i : Nat) : w.frozen? ⟨g, i, none⟩ = false := by
  obtain ⟨t, zs, _, hw⟩ := h
  exact hw.frozen i
theorem iv_set (zs : List Int) (i : Nat) (z : Int) : (iv zs).set i (.int .i64 z) = iv (zs.set i z) := by simp [iv, List.map_set]
theorem IntRow.set {w : World} {g n : Nat} (h : IntRow w g n) (i : Nat) (z : Int) : IntRow (w.setCell ⟨g, i, none⟩ (.int .i64 z)) g n := by
  obtain ⟨t, zs, hl, hw⟩ := h
  exact ⟨t, zs.set i z, by simpa using hl, by rw [← iv_set]; exact hw.set i _⟩
theorem IntRow.later {w w' : World} {g n : Nat} (h : IntRow w g n) (hb : Below w.heap.size w w') : IntRow w' g n := by
  obtain ⟨t, zs, hl, hw⟩ := h
  exact ⟨t, zs, hl, hw.later hb⟩
theorem IntRow.inside {w w' : World} {g n lo hi : Nat} (h : IntRow w g n) (hi' : Inside lo hi w w') (hg : hi ≤ g) : IntRow w' g n := by
  obtain ⟨t, zs, hl, hw⟩ := h
  exact ⟨t, zs, hl, hw.keep (hi'.block g (.inr hg))⟩
theorem IntRow.lt {w : World} {g n : Nat} (h : IntRow w g n) : g < w.heap.size := by
  obtain ⟨t, zs, hl, hw⟩ := h
  exact hw.lt

theorem iv_flatten (css : List (List Int)) : iv css.flatten = (css.map iv).flatten := by
  induction css with
  | nil => rfl
  | cons c css ih => rw [List.flatten_cons, iv_append, ih]; rfl
/-- A row of plain records of the call's own is a row of ints. -/
theorem Rows.intRow {α : Type} {k lo B g : Nat} {cells : α → List Value} {hk : ∀ x, (cells x).length = k} {w : World} {xs : List α} (ints : α → List Int) (hi : ∀ x, cells x = iv (ints x)) (hpos : 0 < k)
    (h : Rows (flat k cells hk) (some lo) w B (some ⟨g, 0, none⟩) xs) (hn : 0 < xs.length) : IntRow w g (xs.length * k) ∧ lo ≤ g ∧ g < B := by
  obtain ⟨b, off, hA, hB, hc⟩ := h.2 hn
  cases hA
  obtain ⟨hlo, cur, t, hcur⟩ := hB.2 lo rfl
  refine ⟨⟨t, (xs.map ints).flatten, ?_, cur, hcur, ?_⟩, hlo, hB.1⟩
  · rw [flat_len' (xs.map ints) k (fun cs hcs => by
      obtain ⟨x, _, rfl⟩ := List.mem_map.1 hcs
      have := hk x
      rw [hi x, iv_len] at this
      exact this), List.length_map]
  · have hl : (iv (xs.map ints).flatten).length = xs.length * k := by
      rw [iv_len, flat_len' (xs.map ints) k (fun cs hcs => by
        obtain ⟨x, _, rfl⟩ := List.mem_map.1 hcs
        have := hk x
        rw [hi x, iv_len] at this
        exact this), List.length_map]
    rw [hl]
    apply List.ext_getElem?
    intro i
    rw [List.getElem?_take]
    by_cases h1 : i < xs.length * k
    · rw [if_pos h1]
      have hj : i / k < xs.length := Nat.div_lt_of_lt_mul (by rw [Nat.mul_comm]; exact h1)
      have hr : i % k < k := Nat.mod_lt _ hpos
      have hij : i = (i / k) * k + i % k := by rw [Nat.mul_comm]; exact (Nat.div_add_mod i k).symm
      obtain ⟨cs, hR, hcs⟩ := hc (i / k) _ (List.getElem?_eq_getElem hj)
      obtain rfl : cs = cells xs[i / k] := hR
      have hu : (cells xs[i / k])[i % k]? = some ((cells xs[i / k])[i % k]'(by rw [hk]; exact hr)) := List.getElem?_eq_getElem _
      have h2 := hcs (i % k) _ hu
      rw [show (0 + i / k * (flat k cells hk).k + i % k) = i from by show 0 + i / k * k + i % k = i; omega, cell_of_row w g i cur t (0, 0) hcur] at h2
      rw [Array.getElem?_toList, h2]
      have h3 := flat_get ((xs.map ints).map iv) k (fun cs hcs => by
        obtain ⟨y, hy, rfl⟩ := List.mem_map.1 hcs
        obtain ⟨x, _, rfl⟩ := List.mem_map.1 hy
        rw [← hi x]; exact hk x) (j := i / k) (i := i % k) (cs := cells xs[i / k]) (by simp [hj, hi]) hu
      rw [← hij] at h3
      rw [show iv (xs.map ints).flatten = ((xs.map ints).map iv).flatten from iv_flatten _, h3]
    · rw [if_neg h1, List.getElem?_eq_none (by omega)]
end Go.Proofs.YtkoaaagmcjjimaaGreat

/- Cells that are ints, and stay ints when they are marked. -/
namespace Go.Proofs.YtkoaaagmcjjimaaGreat
open Go.RowKit

/-- Writable cells of block g, from off on, that are ints. -/
def IntAt (w : World) (g off n : Nat) : Prop := (∃ cur t, w.heap[g]? = some (.cells cur t (0, 0))) ∧ ∀ i, i < n → ∃ z, w.cell? ⟨g, off + i, none⟩ = some (.int .i64 z)
theorem IntAt.frozen {w : World} {g off n : Nat} (h : IntAt w g off n) (i : Nat) : w.frozen? ⟨g, i, none⟩ = false := by
  obtain ⟨⟨cur, t, hc⟩, _⟩ := h
  exact frozen_of_row w g i cur t hc
/-- A number put anywhere leaves cells that are numbers numbers. -/
theorem IntAt.any {w : World} {g off n : Nat} (h : IntAt w g off n) (p : Addr) (hp : p.spot = none) (z : Int) : IntAt (w.setCell p (.int .i64 z)) g off n := by
  obtain ⟨b, o, s⟩ := p
  subst hp
  obtain ⟨⟨cur, t, hc⟩, h2⟩ := h
  refine ⟨?_, fun i hi => ?_⟩
  · by_cases hb : g = b
    · subst hb
      exact ⟨_, t, heap_setCell_same w g o cur t _ hc⟩
    · exact ⟨cur, t, (Below.heap_setCell w ⟨b, o, none⟩ _ g hb).trans hc⟩
  · obtain ⟨y, hy⟩ := h2 i hi
    by_cases he : (⟨g, off + i, none⟩ : Addr) = ⟨b, o, none⟩
    · rw [← he]
      exact ⟨z, World.cell?_setCell_same w _ _ hy⟩
    · exact ⟨y, by rw [World.cell?_setCell_other _ _ _ _ (fun e => he e.symm)]; exact hy⟩
theorem IntAt.later {w w' : World} {g off n B : Nat} (h : IntAt w g off n) (hb : Below B w w') (hg : g < B) : IntAt w' g off n := by
  obtain ⟨⟨cur, t, hc⟩, h2⟩ := h
  exact ⟨⟨cur, t, (hb.block g hg).trans hc⟩, fun i hi => by obtain ⟨z, hz⟩ := h2 i hi; exact ⟨z, (hb.cell (p := ⟨g, off + i, none⟩) hg).trans hz⟩⟩
/-- A row of plain records of the call's own is cells that are ints. -/
theorem Rows.intAt {α : Type} {k lo B : Nat} {cells : α → List Value} {hk : ∀ x, (cells x).length = k} {w : World} {A : Option Addr} {xs : List α} (hi : ∀ x, ∀ i, i < k → ∃ z : Int, (cells x)[i]? = some (.int .i64 z)) (hpos : 0 < k)
    (h : Rows (flat k cells hk) (some lo) w B A xs) (hn : 0 < xs.length) : ∃ g off, A = some ⟨g, off, none⟩ ∧ IntAt w g off (xs.length * k) ∧ lo ≤ g ∧ g < B := by
  obtain ⟨b, off, hA, hB, hc⟩ := h.2 hn
  obtain ⟨hlo, cur, t, hcur⟩ := hB.2 lo rfl
  refine ⟨b, off, hA, ⟨⟨cur, t, hcur⟩, fun i hik => ?_⟩, hlo, hB.1⟩
  have hj : i / k < xs.length := Nat.div_lt_of_lt_mul (by rw [Nat.mul_comm]; exact hik)
  have hr : i % k < k := Nat.mod_lt _ hpos
  have hij : i = (i / k) * k + i % k := by rw [Nat.mul_comm]; exact (Nat.div_add_mod i k).symm
  obtain ⟨cs, hR, hu⟩ := hc (i / k) xs[i / k] (List.getElem?_eq_getElem hj)
  have hcs : cs = cells xs[i / k] := hR
  subst hcs
  obtain ⟨z, hz⟩ := hi xs[i / k] (i % k) hr
  have h2 := hu (i % k) _ hz
  refine ⟨z, ?_⟩
  rw [hij, ← Nat.add_assoc]
  exact h2

/-- What marking a row leaves. -/
def MarkedK (lo hi : Nat) (k : Int) (w : World) (e : Ending) (w' : World) : Prop :=
  e = .returned (.int .i64 k) ∧ Inside lo hi w w' ∧ ∀ g o n, IntAt w g o n → IntAt w' g o n

set_option maxHeartbeats 1000000 in
theorem mark_ints (A : Option Addr) (c : Nat) (len : Nat) (k : Int) (w : World) (lo hi : Nat) (h : 0 < len → ∃ g off, A = some ⟨g, off, none⟩ ∧ IntAt w g off (len) ∧ lo ≤ g ∧ g < hi) (hl : len ≤ 16777216) (hk0 : 0 ≤ k) (hk : k ≤ 4611686018427387904) :
    Calls Tryz.prog 16 #[.slice A len c, .int .i64 k] w (MarkedK lo hi (k + len) w) := by
  have HH := Lib.hid h
  clear h
  go_enter Tryz.func16, Tryz.ntmps16
  go_wp2
  go_loopg [1, 5] len (fun gg s1 s5 wr => ∃ j : Nat, j ≤ len ∧ len - j ≤ gg ∧ s5 = .int .i64 j ∧ s1 = .int .i64 (k + j) ∧ Aside (Inside lo hi w wr) ∧ Aside (∀ g o n, IntAt w g o n → IntAt wr g o n))
  case atStart => exact ⟨0, Nat.zero_le _, by omega, rfl, by simp, Inside.refl _ _ _, fun _ _ _ h => h⟩
  case round =>
    obtain ⟨j, hj, hg, rfl, rfl, IN, IK⟩ := hrel
    by_cases hlt : j < len
    · have hltz : (j : Int) < (len : Int) := by omega
      obtain ⟨g, off, rfl, hR0, hlo, hhi⟩ := HH.out (by omega)
      have hR := IK.out _ _ _ hR0
      obtain ⟨z0, hz0⟩ : ∃ z, wr.cell? ⟨g, off + j, none⟩ = some (.int .i64 z) := by have h := hR.2 (j) (by omega); exact h
      have hfr := fun i => hR.frozen i
      have HI := Lib.hid (IN.out.trans (Inside.setCell (p := ⟨g, off + j, none⟩) hlo hhi (.int .i64 (k + j))))
      have HK := Lib.hid (fun g' o' n' hg' => (IK.out g' o' n' hg').any ⟨g, off + j, none⟩ rfl (k + j))
      clear hR hR0
      go_wp2
      go_roundg (len - (j + 1))
      case measure => omega
      case rel => exact ⟨j + 1, by omega, by omega, by go_num, by go_num, HI.out, HK.out⟩
    · have hltz : ¬ (j : Int) < (len : Int) := by omega
      have he : j = len := by omega
      have HE := Lib.hid he
      clear he
      go_wp2
      go_ret
      exact ⟨by rw [HE.out]; rfl, IN.out, IK.out⟩

theorem ints_at {lo B : Nat} {w : World} {A : Option Addr} {xs : List Int} (h : Rows intC (some lo) w B A xs) (hn : 0 < xs.length) : ∃ g off, A = some ⟨g, off, none⟩ ∧ IntAt w g off xs.length ∧ lo ≤ g ∧ g < B := by
  have h1 := Rows.intAt (k := 1) (cells := fun x : Int => [Value.int .i64 x]) (hk := fun _ => rfl) (fun x i hi => ⟨x, by have h0 : i = 0 := (by omega); subst h0; rfl⟩) (by decide) h hn
  rwa [Nat.mul_one] at h1
/-- The world w' is w but for the blocks from lo to hi, and has perhaps more memory. -/
structure InsideG (lo hi : Nat) (w w' : World) : Prop where
  os : w'.os = w.os
  tape : w'.tape = w.tape
  output : w'.output = w.output
  size : w.heap.size ≤ w'.heap.size
  block : ∀ b, b < w.heap.size → (b < lo ∨ hi ≤ b) → w'.heap[b]? = w.heap[b]?
theorem InsideG.below {lo hi B : Nat} {w w' : World} (h : InsideG lo hi w w') (hB : B ≤ lo) (hs : B ≤ w.heap.size) : Below B w w' := ⟨h.os, h.tape, h.output, h.size, fun k hk => h.block k (by omega) (.inl (by omega))⟩
end Go.Proofs.YtkoaaagmcjjimaaGreat

/- Slices of Did records marked. -/
namespace Go.Proofs.YtkoaaagmcjjimaaGreat
open Go.RowKit

set_option maxHeartbeats 1000000 in
theorem laws_markCasDidS (A : Option Addr) (c : Nat) (xs : List GDid) (k : Int) (w : World) (lo hi : Nat) (h : 0 < xs.length → ∃ g, A = some ⟨g, 0, none⟩ ∧ IntRow w g (xs.length * 2) ∧ lo ≤ g ∧ g < hi) (hl : xs.length ≤ 16777216) (hk0 : 0 ≤ k) (hk : k ≤ 4611686018427387904) :
    Calls Tryz.prog 18 #[.slice A xs.length c, .int .i64 k] w fun e w' => e = .returned (.int .i64 (k + xs.length * 2)) ∧ Inside lo hi w w' := by
  have HH := Lib.hid h
  clear h
  go_enter Tryz.func18, Tryz.ntmps18
  go_wp2
  go_loopg [1, 5] xs.length (fun gg s1 s5 wr => ∃ j : Nat, j ≤ xs.length ∧ xs.length - j ≤ gg ∧ s5 = .int .i64 j ∧ s1 = .int .i64 (k + j * 2) ∧ Aside (Inside lo hi w wr) ∧ Aside (0 < xs.length → ∃ g, A = some ⟨g, 0, none⟩ ∧ IntRow wr g (xs.length * 2) ∧ lo ≤ g ∧ g < hi))
  case atStart => exact ⟨0, Nat.zero_le _, by omega, rfl, by simp, Inside.refl _ _ _, HH.out⟩
  case round =>
    obtain ⟨j, hj, hg, rfl, rfl, IN, OW⟩ := hrel
    by_cases hlt : j < xs.length
    · have hltz : (j : Int) < (xs.length : Int) := by omega
      obtain ⟨g, rfl, hR, hlo, hhi⟩ := OW.out (by omega)
      obtain ⟨z0, hz0⟩ := hR.cell (i := j * 2) (by omega)
      obtain ⟨z1, hz1⟩ := hR.cell (i := j * 2 + 1) (by omega)
      have hfr := fun i => hR.frozen i
      have HS := Lib.hid (((hR.set (j * 2) (k + j * 2)).set (j * 2 + 1) (k + j * 2 + 1)))
      have HI := Lib.hid (((IN.out.trans (Inside.setCell (p := ⟨g, j * 2, none⟩) hlo hhi (.int .i64 (k + j * 2)))).trans (Inside.setCell (p := ⟨g, j * 2 + 1, none⟩) hlo hhi (.int .i64 (k + j * 2 + 1)))))
      clear hR
      go_wp2
      go_roundg (xs.length - (j + 1))
      case measure => omega
      case rel => exact ⟨j + 1, by omega, by omega, by go_num, by go_num, HI.out, fun _ => ⟨g, rfl, HS.out, hlo, hhi⟩⟩
    · have hltz : ¬ (j : Int) < (xs.length : Int) := by omega
      have he : j = xs.length := by omega
      have HE := Lib.hid he
      clear he
      go_wp2
      go_ret
      exact ⟨by rw [HE.out]; rfl, IN.out⟩
end Go.Proofs.YtkoaaagmcjjimaaGreat

/- A case's copy marked: it turns nothing but its own rows. -/
namespace Go.Proofs.YtkoaaagmcjjimaaGreat
open Go.RowKit

set_option maxHeartbeats 1000000 in
theorem mark_dids (A : Option Addr) (c : Nat) (len : Nat) (k : Int) (w : World) (lo hi : Nat) (h : 0 < len → ∃ g off, A = some ⟨g, off, none⟩ ∧ IntAt w g off (len * 2) ∧ lo ≤ g ∧ g < hi) (hl : len ≤ 16777216) (hk0 : 0 ≤ k) (hk : k ≤ 4611686018427387904) :
    Calls Tryz.prog 18 #[.slice A len c, .int .i64 k] w (MarkedK lo hi (k + len * 2) w) := by
  have HH := Lib.hid h
  clear h
  go_enter Tryz.func18, Tryz.ntmps18
  go_wp2
  go_loopg [1, 5] len (fun gg s1 s5 wr => ∃ j : Nat, j ≤ len ∧ len - j ≤ gg ∧ s5 = .int .i64 j ∧ s1 = .int .i64 (k + j * 2) ∧ Aside (Inside lo hi w wr) ∧ Aside (∀ g o n, IntAt w g o n → IntAt wr g o n))
  case atStart => exact ⟨0, Nat.zero_le _, by omega, rfl, by simp, Inside.refl _ _ _, fun _ _ _ h => h⟩
  case round =>
    obtain ⟨j, hj, hg, rfl, rfl, IN, IK⟩ := hrel
    by_cases hlt : j < len
    · have hltz : (j : Int) < (len : Int) := by omega
      obtain ⟨g, off, rfl, hR0, hlo, hhi⟩ := HH.out (by omega)
      have hR := IK.out _ _ _ hR0
      obtain ⟨z0, hz0⟩ : ∃ z, wr.cell? ⟨g, off + j * 2, none⟩ = some (.int .i64 z) := by have h := hR.2 (j * 2) (by omega); exact h
      obtain ⟨z1, hz1⟩ : ∃ z, wr.cell? ⟨g, off + j * 2 + 1, none⟩ = some (.int .i64 z) := by have h := hR.2 (j * 2 + 1) (by omega); rwa [← Nat.add_assoc] at h
      have hfr := fun i => hR.frozen i
      have HI := Lib.hid ((IN.out.trans (Inside.setCell (p := ⟨g, off + j * 2, none⟩) hlo hhi (.int .i64 (k + j * 2)))).trans (Inside.setCell (p := ⟨g, off + j * 2 + 1, none⟩) hlo hhi (.int .i64 (k + j * 2 + 1))))
      have HK := Lib.hid (fun g' o' n' hg' => ((IK.out g' o' n' hg').any ⟨g, off + j * 2, none⟩ rfl (k + j * 2)).any ⟨g, off + j * 2 + 1, none⟩ rfl (k + j * 2 + 1))
      clear hR hR0
      go_wp2
      go_roundg (len - (j + 1))
      case measure => omega
      case rel => exact ⟨j + 1, by omega, by omega, by go_num, by go_num, HI.out, HK.out⟩
    · have hltz : ¬ (j : Int) < (len : Int) := by omega
      have he : j = len := by omega
      have HE := Lib.hid he
      clear he
      go_wp2
      go_ret
      exact ⟨by rw [HE.out]; rfl, IN.out, IK.out⟩

set_option maxHeartbeats 1000000 in
theorem mark_items (A : Option Addr) (c : Nat) (len : Nat) (k : Int) (w : World) (lo hi : Nat) (h : 0 < len → ∃ g off, A = some ⟨g, off, none⟩ ∧ IntAt w g off (len * 3) ∧ lo ≤ g ∧ g < hi) (hl : len ≤ 16777216) (hk0 : 0 ≤ k) (hk : k ≤ 4611686018427387904) :
    Calls Tryz.prog 37 #[.slice A len c, .int .i64 k] w (MarkedK lo hi (k + len * 3) w) := by
  have HH := Lib.hid h
  clear h
  go_enter Tryz.func37, Tryz.ntmps37
  go_wp2
  go_loopg [1, 5] len (fun gg s1 s5 wr => ∃ j : Nat, j ≤ len ∧ len - j ≤ gg ∧ s5 = .int .i64 j ∧ s1 = .int .i64 (k + j * 3) ∧ Aside (Inside lo hi w wr) ∧ Aside (∀ g o n, IntAt w g o n → IntAt wr g o n))
  case atStart => exact ⟨0, Nat.zero_le _, by omega, rfl, by simp, Inside.refl _ _ _, fun _ _ _ h => h⟩
  case round =>
    obtain ⟨j, hj, hg, rfl, rfl, IN, IK⟩ := hrel
    by_cases hlt : j < len
    · have hltz : (j : Int) < (len : Int) := by omega
      obtain ⟨g, off, rfl, hR0, hlo, hhi⟩ := HH.out (by omega)
      have hR := IK.out _ _ _ hR0
      obtain ⟨z0, hz0⟩ : ∃ z, wr.cell? ⟨g, off + j * 3, none⟩ = some (.int .i64 z) := by have h := hR.2 (j * 3) (by omega); exact h
      obtain ⟨z1, hz1⟩ : ∃ z, wr.cell? ⟨g, off + j * 3 + 1, none⟩ = some (.int .i64 z) := by have h := hR.2 (j * 3 + 1) (by omega); rwa [← Nat.add_assoc] at h
      obtain ⟨z2, hz2⟩ : ∃ z, wr.cell? ⟨g, off + j * 3 + 2, none⟩ = some (.int .i64 z) := by have h := hR.2 (j * 3 + 2) (by omega); rwa [← Nat.add_assoc] at h
      have hfr := fun i => hR.frozen i
      have HI := Lib.hid (((IN.out.trans (Inside.setCell (p := ⟨g, off + j * 3, none⟩) hlo hhi (.int .i64 (k + j * 3)))).trans (Inside.setCell (p := ⟨g, off + j * 3 + 1, none⟩) hlo hhi (.int .i64 (k + j * 3 + 1)))).trans (Inside.setCell (p := ⟨g, off + j * 3 + 2, none⟩) hlo hhi (.int .i64 (k + j * 3 + 1 + 1))))
      have HK := Lib.hid (fun g' o' n' hg' => (((IK.out g' o' n' hg').any ⟨g, off + j * 3, none⟩ rfl (k + j * 3)).any ⟨g, off + j * 3 + 1, none⟩ rfl (k + j * 3 + 1)).any ⟨g, off + j * 3 + 2, none⟩ rfl (k + j * 3 + 1 + 1))
      clear hR hR0
      go_wp2
      go_roundg (len - (j + 1))
      case measure => omega
      case rel => exact ⟨j + 1, by omega, by omega, by go_num, by go_num, HI.out, HK.out⟩
    · have hltz : ¬ (j : Int) < (len : Int) := by omega
      have he : j = len := by omega
      have HE := Lib.hid he
      clear he
      go_wp2
      go_ret
      exact ⟨by rw [HE.out]; rfl, IN.out, IK.out⟩

theorem dids_at {lo B : Nat} {w : World} {A : Option Addr} {xs : List GDid} (h : Rows didC (some lo) w B A xs) (hn : 0 < xs.length) : ∃ g off, A = some ⟨g, off, none⟩ ∧ IntAt w g off (xs.length * 2) ∧ lo ≤ g ∧ g < B :=
  Rows.intAt (k := 2) (cells := GDid.cells) (hk := fun _ => rfl) (fun x i hi => by
    rcases (by omega : i = 0 ∨ i = 1) with rfl | rfl
    · exact ⟨_, rfl⟩
    · exact ⟨_, rfl⟩) (by decide) h hn
theorem items_at {lo B : Nat} {w : World} {A : Option Addr} {xs : List GItem} (h : Rows itemC (some lo) w B A xs) (hn : 0 < xs.length) : ∃ g off, A = some ⟨g, off, none⟩ ∧ IntAt w g off (xs.length * 3) ∧ lo ≤ g ∧ g < B :=
  Rows.intAt (k := 3) (cells := GItem.cells) (hk := fun _ => rfl) (fun x i hi => by
    rcases (by omega : i = 0 ∨ i = 1 ∨ i = 2) with rfl | rfl | rfl
    · exact ⟨_, rfl⟩
    · exact ⟨_, rfl⟩
    · exact ⟨_, rfl⟩) (by decide) h hn

set_option maxHeartbeats 1000000 in
theorem laws_markCasCase (x : GCase) (A1 A2 A3 A4 : Option Addr) (c1 c2 c3 c4 : Nat) (k : Int) (w : World) (lo hi : Nat) (hhi : hi ≤ w.heap.size)
    (h1 : Rows intC (some lo) w hi A1 x.marks) (h2 : Rows itemC (some lo) w hi A2 x.busy) (h3 : Rows intC (some lo) w hi A3 x.data) (h4 : Rows didC (some lo) w hi A4 x.did)
    (l1 : x.marks.length ≤ 1048576) (l2 : x.busy.length ≤ 1048576) (l3 : x.data.length ≤ 1048576) (l4 : x.did.length ≤ 1048576) (hk0 : 0 ≤ k) (hk : k ≤ 1000000000000000) :
    Calls Tryz.prog 17 #[.agg #[.int .i64 x.state, .slice A1 x.marks.length c1, .slice A2 x.busy.length c2, .slice A3 x.data.length c3, .slice A4 x.did.length c4], .int .i64 k] w
      fun e w' => e = .returned (.int .i64 (k + x.marks.length + x.busy.length * 3 + x.data.length + x.did.length * 2)) ∧ InsideG lo hi w w' := by
  have P1 := Lib.hid (fun hn => ints_at h1 hn)
  have P2 := Lib.hid (fun hn => items_at h2 hn)
  have P3 := Lib.hid (fun hn => ints_at h3 hn)
  have P4 := Lib.hid (fun hn => dids_at h4 hn)
  clear h1 h2 h3 h4
  go_enter Tryz.func17, Tryz.ntmps17
  go_wp2_with fail
  refine callsAt fun W hW => ?_
  have b0 : Bk W w.heap.size 41 #[.int .i64 x.state, .slice A1 x.marks.length c1, .slice A2 x.busy.length c2, .slice A3 x.data.length c3, .slice A4 x.did.length c4] := by rw [hW]; exact Bk.new rfl
  have hB : Below w.heap.size w W := by rw [hW]; exact (Below.refl _ _).alloc (Nat.le_refl _) _
  clear hW
  refine (mark_ints A1 c1 x.marks.length k W lo hi (fun hn => by obtain ⟨g, o, e1, e2, e3, e4⟩ := P1.out hn; exact ⟨g, o, e1, e2.later hB (by omega), e3, e4⟩) (by omega) hk0 (by omega)).mono ?_
  rintro e w1 ⟨rfl, in1, k1⟩
  have b1 : Bk w1 w.heap.size 41 _ := (in1.block w.heap.size (.inr hhi)).trans b0
  have HB := Lib.hid hB
  have I1 := Lib.hid in1
  have K1 := Lib.hid k1
  have B1 := Lib.hid b1
  have kk := fun i => b1.cell i
  clear hB in1 k1 b1 b0
  go_wp2_with fail
  refine (mark_items A2 c2 x.busy.length _ w1 lo hi (fun hn => by obtain ⟨g, o, e1, e2, e3, e4⟩ := P2.out hn; exact ⟨g, o, e1, K1.out _ _ _ (e2.later HB.out (by omega)), e3, e4⟩) (by omega) (by omega) (by omega)).mono ?_
  rintro e w2 ⟨rfl, in2, k2⟩
  have b2 : Bk w2 w.heap.size 41 _ := (in2.block w.heap.size (.inr hhi)).trans B1.out
  have I2 := Lib.hid (I1.out.trans in2)
  have K2 := Lib.hid (fun g o n h => k2 g o n (K1.out g o n h))
  have B2 := Lib.hid b2
  clear kk
  have kk := fun i => b2.cell i
  clear in2 k2 b2
  go_wp2_with fail
  refine (mark_ints A3 c3 x.data.length _ w2 lo hi (fun hn => by obtain ⟨g, o, e1, e2, e3, e4⟩ := P3.out hn; exact ⟨g, o, e1, K2.out _ _ _ (e2.later HB.out (by omega)), e3, e4⟩) (by omega) (by omega) (by omega)).mono ?_
  rintro e w3 ⟨rfl, in3, k3⟩
  have b3 : Bk w3 w.heap.size 41 _ := (in3.block w.heap.size (.inr hhi)).trans B2.out
  have I3 := Lib.hid (I2.out.trans in3)
  have K3 := Lib.hid (fun g o n h => k3 g o n (K2.out g o n h))
  clear kk
  have kk := fun i => b3.cell i
  clear in3 k3 b3
  go_wp2_with fail
  refine (mark_dids A4 c4 x.did.length _ w3 lo hi (fun hn => by obtain ⟨g, o, e1, e2, e3, e4⟩ := P4.out hn; exact ⟨g, o, e1, K3.out _ _ _ (e2.later HB.out (by omega)), e3, e4⟩) (by omega) (by omega) (by omega)).mono ?_
  rintro e w4 ⟨rfl, in4, k4⟩
  have I4 := Lib.hid (I3.out.trans in4)
  clear kk in4 k4
  go_wp2
  go_ret
  exact ⟨rfl, I4.out.os.trans HB.out.os, I4.out.tape.trans HB.out.tape, I4.out.output.trans HB.out.output, by rw [I4.out.size]; exact HB.out.size, fun b hb ho => (I4.out.block b ho).trans (HB.out.block b hb)⟩
end Go.Proofs.YtkoaaagmcjjimaaGreat

/- A slice of records of who did what, of the call's own: marked by a count, and asked for its marks. -/
namespace Go.Proofs.YtkoaaagmcjjimaaGreat
open Go.RowKit

/-- A slice of the call's own whose cells are these numbers. -/
def OwnN (w : World) (base : Nat) (A : Option Addr) (zs : List Int) : Prop := 0 < zs.length → ∃ g t, A = some ⟨g, 0, none⟩ ∧ base ≤ g ∧ Wr w g t (iv zs)
section
variable {w w' : World} {base : Nat} {A : Option Addr} {zs : List Int}
theorem OwnN.later (h : OwnN w base A zs) (hb : Below w.heap.size w w') : OwnN w' base A zs := fun h0 => by
  obtain ⟨g, t, hA, hg, hw⟩ := h h0
  exact ⟨g, t, hA, hg, hw.later hb⟩
theorem OwnN.cell (h : OwnN w base A zs) {i : Nat} (hi : i < zs.length) : ∃ g, A = some ⟨g, 0, none⟩ ∧ w.cell? ⟨g, i, none⟩ = some (.int .i64 zs[i]) := by
  obtain ⟨g, t, hA, _, hw⟩ := h (by omega)
  exact ⟨g, hA, hw.cell (iv_get (List.getElem?_eq_getElem hi))⟩
end
/-- What records of who did what are in numbers. -/
def didInts (xs : List GDid) : List Int := (xs.map fun x => [x.task, x.who]).flatten
theorem didInts_len (xs : List GDid) : (didInts xs).length = xs.length * 2 := by
  unfold didInts
  rw [flat_len' _ 2 (fun cs hcs => by obtain ⟨y, _, rfl⟩ := List.mem_map.1 hcs; rfl), List.length_map]
theorem OwnN.of_did {w : World} {base : Nat} {e : TypeId} {v : Value} {xs : List GDid} (h : OwnC didC e w base v xs) : ∃ A c, v = .slice A xs.length c ∧ OwnN w base A (didInts xs) := by
  obtain ⟨css, h1, h2, h3⟩ := h
  have hcs : css = xs.map GDid.cells := List.ext_getElem? fun j => by
    rw [List.getElem?_map]
    cases hj : css[j]? with
    | none =>
      have : xs[j]? = none := List.getElem?_eq_none (by have := List.getElem?_eq_none_iff.1 hj; omega)
      rw [this]; rfl
    | some cs =>
      obtain ⟨y, lo, B', hy', _, _, _, hR⟩ := h2 j cs hj
      rw [hy']
      exact congrArg some (show cs = GDid.cells y from hR)
  subst hcs
  have hf : (xs.map GDid.cells).flatten = iv (didInts xs) := by
    rw [didInts, iv_flatten, List.map_map]; rfl
  have hl : (iv (didInts xs)).length = xs.length * 2 := by rw [iv_len, didInts_len]
  rcases h3.2 with ⟨hv, hn⟩ | ⟨g, cap, cur, hv, hb, hgg, hcap, hmax, hcs, htake⟩
  · exact ⟨none, 0, by rw [hn]; exact hv, fun h0 => by rw [didInts_len] at h0; omega⟩
  · refine ⟨some ⟨g, 0, none⟩, cap, hv, fun _ => ⟨g, e, rfl, hb, cur, hgg, ?_⟩⟩
    rw [hf] at htake
    rw [hl]
    exact htake

set_option maxHeartbeats 1000000 in
theorem mark_dids_own (A : Option Addr) (c n : Nat) (zs : List Int) (k : Int) (w : World) (base hi : Nat) (hz : zs.length = n * 2) (h : OwnN w base A zs) (hhi : 0 < n → ∀ g, A = some ⟨g, 0, none⟩ → g < hi) (hl : n ≤ 16777216) (hk0 : 0 ≤ k) (hk : k ≤ 4611686018427387904) :
    Calls Tryz.prog 18 #[.slice A n c, .int .i64 k] w fun e w' => e = .returned (.int .i64 (k + n * 2)) ∧ OwnN w' base A (seqI k (n * 2)) ∧ Inside base hi w w' := by
  have HH := Lib.hid h
  have HZ := Lib.hid hz
  have HHI := Lib.hid hhi
  clear h hz hhi
  go_enter Tryz.func18, Tryz.ntmps18
  go_wp2
  go_loopg [1, 5] n (fun gg s1 s5 wr => ∃ j : Nat, j ≤ n ∧ n - j ≤ gg ∧ s5 = .int .i64 j ∧ s1 = .int .i64 (k + j * 2) ∧ Aside (Inside base hi w wr) ∧ Aside (OwnN wr base A (seqI k (j * 2) ++ zs.drop (j * 2))))
  case atStart => exact ⟨0, Nat.zero_le _, by omega, rfl, by simp, Inside.refl _ _ _, by show OwnN _ _ _ _; simpa [seqI] using HH.out⟩
  case round =>
    obtain ⟨j, hj, hg, rfl, rfl, IN, OW⟩ := hrel
    by_cases hlt : j < n
    · have hltz : (j : Int) < (n : Int) := by omega
      have hz2 := HZ.out
      obtain ⟨g, t, rfl, hgb, hW⟩ := OW.out (by rw [List.length_append, seqI_len, List.length_drop]; omega)
      have h0 := mark_old k (j * 2) zs (by omega)
      have hc0 := hW.cell h0
      have hW1 := hW.set (j * 2) (.int .i64 (k + (j * 2 : Nat)))
      rw [mark_step k (j * 2) zs (by omega)] at hW1
      have hc1' := hW1.cell (mark_old k (j * 2 + 1) zs (by omega))
      have hc1 : wr.cell? ⟨g, j * 2 + 1, none⟩ = some (.int .i64 (zs[j * 2 + 1]'(by omega))) := by
        rw [World.cell?_setCell_other _ _ _ _ (by simp)] at hc1'
        exact hc1'
      have hW2 := hW1.set (j * 2 + 1) (.int .i64 (k + (j * 2 + 1 : Nat)))
      rw [mark_step k (j * 2 + 1) zs (by omega)] at hW2
      have e1 : k + ((j * 2 : Nat) : Int) = k + (j : Int) * 2 := by omega
      have e2 : k + ((j * 2 + 1 : Nat) : Int) = k + (j : Int) * 2 + 1 := by omega
      rw [e1, e2] at hW2
      have hfr := fun i => hW.frozen i
      have HS := Lib.hid hW2
      have HI := Lib.hid ((IN.out.trans (Inside.setCell (p := ⟨g, j * 2, none⟩) hgb (HHI.out (by omega) g rfl) (.int .i64 (k + j * 2)))).trans (Inside.setCell (p := ⟨g, j * 2 + 1, none⟩) hgb (HHI.out (by omega) g rfl) (.int .i64 (k + j * 2 + 1))))
      generalize (zs[j * 2 + 1]'(by omega)) = y1 at hc1
      generalize (zs[j * 2]'(by omega)) = y0 at hc0
      clear hW hW1 hW2 h0 hc1' e1 e2 hz2
      go_wp2
      go_roundg (n - (j + 1))
      case measure => omega
      case rel => exact ⟨j + 1, by omega, by omega, by go_num, by go_num, HI.out, fun _ => ⟨g, t, rfl, hgb, by rw [show (j + 1) * 2 = j * 2 + 1 + 1 from by omega]; exact HS.out⟩⟩
    · have hltz : ¬ (j : Int) < (n : Int) := by omega
      have he : j = n := by omega
      have HE := Lib.hid he
      clear he
      go_wp2
      go_ret
      refine ⟨by rw [HE.out]; rfl, ?_, IN.out⟩
      have h1 := OW.out
      rw [HE.out, ← HZ.out, List.drop_length, List.append_nil] at h1
      rw [← HZ.out]
      exact h1

set_option maxHeartbeats 1000000 in
theorem held_dids (A : Option Addr) (c n : Nat) (k : Int) (w : World) (base : Nat) (h : OwnN w base A (seqI k (n * 2))) (hl : n ≤ 16777216) (hk0 : 0 ≤ k) (hk : k ≤ 4611686018427387904) :
    Calls Tryz.prog 19 #[.slice A n c, .int .i64 k] w fun e w' => e = .returned (.int .i64 (k + n * 2)) ∧ w = w' := by
  have HX := Lib.hid h
  clear h
  go_enter Tryz.func19, Tryz.ntmps19
  go_wp2
  go_loopg [1, 5] n (fun gg s1 s5 wr => ∃ j : Nat, j ≤ n ∧ n - j ≤ gg ∧ s5 = .int .i64 j ∧ s1 = .int .i64 (k + j * 2) ∧ Aside (w = wr))
  case atStart => exact ⟨0, Nat.zero_le _, by omega, rfl, by simp, rfl⟩
  case round =>
    obtain ⟨j, hj, hg, rfl, rfl, EW⟩ := hrel
    obtain rfl := EW.out
    by_cases hlt : j < n
    · have hltz : (j : Int) < (n : Int) := by omega
      obtain ⟨g, rfl, hc0⟩ := HX.out.cell (i := j * 2) (by rw [seqI_len]; omega)
      obtain ⟨g', hA, hc1⟩ := HX.out.cell (i := j * 2 + 1) (by rw [seqI_len]; omega)
      cases hA
      rw [seqI_get] at hc0 hc1
      have e1 : k + ((j * 2 : Nat) : Int) = k + (j : Int) * 2 := by omega
      have e2 : k + ((j * 2 + 1 : Nat) : Int) = k + (j : Int) * 2 + 1 := by omega
      rw [e1] at hc0
      rw [e2] at hc1
      clear e1 e2
      go_wp2
      go_roundg (n - (j + 1))
      case measure => omega
      case rel => exact ⟨j + 1, by omega, by omega, by go_num, by go_num, rfl⟩
    · have hltz : ¬ (j : Int) < (n : Int) := by omega
      have he : j = n := by omega
      have HE := Lib.hid he
      clear he
      go_wp2
      go_ret
      exact ⟨by rw [HE.out]; rfl, rfl⟩
end Go.Proofs.YtkoaaagmcjjimaaGreat

/- Nets to be marked: their copy's cells are ints but for the slices, whose rows lie in later blocks. -/
namespace Go.Proofs.YtkoaaagmcjjimaaGreat
open Go.RowKit

/-- The slice at a cell of a task to be marked. -/
def SlAt (w : World) (g hi o len m : Nat) : Prop :=
  ∃ A c, w.cell? ⟨g, o, none⟩ = some (.slice A len c) ∧ (0 < len → ∃ g' o', A = some ⟨g', o', none⟩ ∧ IntAt w g' o' (len * m) ∧ g + 1 ≤ g' ∧ g' < hi)

/-- The tasks ts lie in block g of the call's own, in cells that are ints but for three slices, whose rows lie in later blocks, below hi. -/
def NetAt (w : World) (g hi : Nat) (ts : List GTask) : Prop :=
  (∃ cur T, w.heap[g]? = some (.cells cur T (0, 0))) ∧ ∀ (j : Nat) (hj : j < ts.length),
    (∀ i, (i < 2 ∨ (5 ≤ i ∧ i < 9)) → ∃ z : Int, w.cell? ⟨g, j * 9 + i, none⟩ = some (.int .i64 z)) ∧
    SlAt w g hi (j * 9 + 2) ts[j].inn.length 1 ∧ SlAt w g hi (j * 9 + 3) ts[j].out.length 4 ∧ SlAt w g hi (j * 9 + 4) ts[j].clear.length 1

section
variable {w w' : World} {g hi : Nat} {ts : List GTask}
theorem SlAt.later {o len m : Nat} (h : SlAt w g hi o len m) {B : Nat} (hb : Below B w w') (hg : g < B) (hh : hi ≤ B) : SlAt w' g hi o len m := by
  obtain ⟨A, c, h1, h2⟩ := h
  refine ⟨A, c, (hb.cell (p := ⟨g, o, none⟩) hg).trans h1, fun hn => ?_⟩
  obtain ⟨g', o', e1, e2, e3, e4⟩ := h2 hn
  exact ⟨g', o', e1, e2.later hb (by omega), e3, e4⟩
theorem SlAt.set {o len m : Nat} (h : SlAt w g hi o len m) (i : Nat) (hi' : i ≠ o) (z : Int) : SlAt (w.setCell ⟨g, i, none⟩ (.int .i64 z)) g hi o len m := by
  obtain ⟨A, c, h1, h2⟩ := h
  refine ⟨A, c, ?_, fun hn => ?_⟩
  · rw [World.cell?_setCell_other _ _ _ _ (fun e => by simp only [Addr.mk.injEq, true_and, and_true] at e; omega)]
    exact h1
  · obtain ⟨g', o', e1, e2, e3, e4⟩ := h2 hn
    exact ⟨g', o', e1, e2.any _ rfl z, e3, e4⟩
theorem SlAt.data {o len m : Nat} (h : SlAt w g hi o len m) (hin : Inside (g + 1) hi w w') (hk : ∀ g o n, IntAt w g o n → IntAt w' g o n) : SlAt w' g hi o len m := by
  obtain ⟨A, c, h1, h2⟩ := h
  have hg : w'.heap[g]? = w.heap[g]? := hin.block g (.inl (by omega))
  refine ⟨A, c, (World.cell?_of_block (a := ⟨g, o, none⟩) hg).trans h1, fun hn => ?_⟩
  obtain ⟨g', o', e1, e2, e3, e4⟩ := h2 hn
  exact ⟨g', o', e1, hk _ _ _ e2, e3, e4⟩
theorem NetAt.frozen (h : NetAt w g hi ts) (i : Nat) : w.frozen? ⟨g, i, none⟩ = false := by
  obtain ⟨⟨cur, T, hc⟩, _⟩ := h
  exact frozen_of_row w g i cur T hc
theorem NetAt.later (h : NetAt w g hi ts) {B : Nat} (hb : Below B w w') (hg : g < B) (hh : hi ≤ B) : NetAt w' g hi ts := by
  obtain ⟨⟨cur, T, hc⟩, h2⟩ := h
  refine ⟨⟨cur, T, (hb.block g hg).trans hc⟩, fun j hj => ?_⟩
  obtain ⟨h3, a, b, c⟩ := h2 j hj
  refine ⟨fun i hi' => ?_, a.later hb hg hh, b.later hb hg hh, c.later hb hg hh⟩
  obtain ⟨z, hz⟩ := h3 i hi'
  exact ⟨z, (hb.cell (p := ⟨g, j * 9 + i, none⟩) hg).trans hz⟩
/-- One of the plain cells of task k marked. -/
theorem NetAt.set (h : NetAt w g hi ts) (k i : Nat) (hi' : i < 2 ∨ (5 ≤ i ∧ i < 9)) (z : Int) : NetAt (w.setCell ⟨g, k * 9 + i, none⟩ (.int .i64 z)) g hi ts := by
  obtain ⟨⟨cur, T, hc⟩, h2⟩ := h
  refine ⟨⟨_, T, heap_setCell_same w g (k * 9 + i) cur T _ hc⟩, fun j hj => ?_⟩
  obtain ⟨h3, a, b, c⟩ := h2 j hj
  refine ⟨fun i2 hi2 => ?_, a.set _ (by omega) z, b.set _ (by omega) z, c.set _ (by omega) z⟩
  obtain ⟨y, hy⟩ := h3 i2 hi2
  by_cases he : (⟨g, j * 9 + i2, none⟩ : Addr) = ⟨g, k * 9 + i, none⟩
  · rw [← he]
    exact ⟨z, World.cell?_setCell_same w _ _ hy⟩
  · exact ⟨y, by rw [World.cell?_setCell_other _ _ _ _ (fun e => he e.symm)]; exact hy⟩
/-- A slice's row marked. -/
theorem NetAt.data (h : NetAt w g hi ts) (hin : Inside (g + 1) hi w w') (hk : ∀ g o n, IntAt w g o n → IntAt w' g o n) : NetAt w' g hi ts := by
  obtain ⟨⟨cur, T, hc⟩, h2⟩ := h
  have hg : w'.heap[g]? = w.heap[g]? := hin.block g (.inl (by omega))
  refine ⟨⟨cur, T, hg.trans hc⟩, fun j hj => ?_⟩
  obtain ⟨h3, a, b, c⟩ := h2 j hj
  refine ⟨fun i hi' => ?_, a.data hin hk, b.data hin hk, c.data hin hk⟩
  obtain ⟨z, hz⟩ := h3 i hi'
  exact ⟨z, (World.cell?_of_block (a := ⟨g, j * 9 + i, none⟩) hg).trans hz⟩
theorem flows_at {lo B : Nat} {w : World} {A : Option Addr} {xs : List GFlow} (h : Rows flowC (some lo) w B A xs) (hn : 0 < xs.length) : ∃ g off, A = some ⟨g, off, none⟩ ∧ IntAt w g off (xs.length * 4) ∧ lo ≤ g ∧ g < B :=
  Rows.intAt (k := 4) (cells := GFlow.cells) (hk := fun _ => rfl) (fun x i hi => by
    rcases (by omega : i = 0 ∨ i = 1 ∨ i = 2 ∨ i = 3) with rfl | rfl | rfl | rfl
    · exact ⟨_, rfl⟩
    · exact ⟨_, rfl⟩
    · exact ⟨_, rfl⟩
    · exact ⟨_, rfl⟩) (by decide) h hn
theorem NetAt.of_filled {T : TypeId} {zc : List Value} (h : Filled taskC w g T zc ts ts.length) : NetAt w g w.heap.size ts := by
  obtain ⟨css, h1, h2, h3⟩ := h
  obtain ⟨cur, hc, _⟩ := id h3
  refine ⟨⟨cur, T, hc⟩, fun j hj => ?_⟩
  have hjc : css[j]? = some (css[j]'(by omega)) := List.getElem?_eq_getElem (by omega)
  obtain ⟨x, hx, hR⟩ := h2 j _ hjc
  obtain rfl : x = ts[j] := by rw [List.getElem?_eq_getElem hj] at hx; exact (Option.some.inj hx).symm
  obtain ⟨A1, c1, A2, c2, A3, c3, hcs, r1, r2, r3⟩ := hR
  have hcell : ∀ i u, (css[j]'(by omega))[i]? = some u → w.cell? ⟨g, j * 9 + i, none⟩ = some u := fun i u hu => by
    refine h3.cell ?_
    have h5 := flat_get css taskC.k (Filled.clen h2) hjc hu
    rw [List.getElem?_append_left (by exact (List.getElem?_eq_some_iff.1 h5).1)]
    exact h5
  rw [hcs] at hcell
  refine ⟨fun i hi => ?_, ⟨A1, c1, hcell 2 _ rfl, fun hn => ?_⟩, ⟨A2, c2, hcell 3 _ rfl, fun hn => flows_at r2 hn⟩, ⟨A3, c3, hcell 4 _ rfl, fun hn => ?_⟩⟩
  · rcases (by omega : i = 0 ∨ i = 1 ∨ i = 5 ∨ i = 6 ∨ i = 7 ∨ i = 8) with rfl | rfl | rfl | rfl | rfl | rfl
    · exact ⟨_, hcell 0 _ rfl⟩
    · exact ⟨_, hcell 1 _ rfl⟩
    · exact ⟨_, hcell 5 _ rfl⟩
    · exact ⟨_, hcell 6 _ rfl⟩
    · exact ⟨_, hcell 7 _ rfl⟩
    · exact ⟨_, hcell 8 _ rfl⟩
  · rw [Nat.mul_one]; exact ints_at r1 hn
  · rw [Nat.mul_one]; exact ints_at r3 hn
end

set_option maxHeartbeats 1000000 in
theorem mark_flows (A : Option Addr) (c : Nat) (len : Nat) (k : Int) (w : World) (lo hi : Nat) (h : 0 < len → ∃ g off, A = some ⟨g, off, none⟩ ∧ IntAt w g off (len * 4) ∧ lo ≤ g ∧ g < hi) (hl : len ≤ 16777216) (hk0 : 0 ≤ k) (hk : k ≤ 4611686018427387904) :
    Calls Tryz.prog 65 #[.slice A len c, .int .i64 k] w (MarkedK lo hi (k + len * 4) w) := by
  have HH := Lib.hid h
  clear h
  go_enter Tryz.func65, Tryz.ntmps65
  go_wp2
  go_loopg [1, 5] len (fun gg s1 s5 wr => ∃ j : Nat, j ≤ len ∧ len - j ≤ gg ∧ s5 = .int .i64 j ∧ s1 = .int .i64 (k + j * 4) ∧ Aside (Inside lo hi w wr) ∧ Aside (∀ g o n, IntAt w g o n → IntAt wr g o n))
  case atStart => exact ⟨0, Nat.zero_le _, by omega, rfl, by simp, Inside.refl _ _ _, fun _ _ _ h => h⟩
  case round =>
    obtain ⟨j, hj, hg, rfl, rfl, IN, IK⟩ := hrel
    by_cases hlt : j < len
    · have hltz : (j : Int) < (len : Int) := by omega
      obtain ⟨g, off, rfl, hR0, hlo, hhi⟩ := HH.out (by omega)
      have hR := IK.out _ _ _ hR0
      obtain ⟨z0, hz0⟩ : ∃ z, wr.cell? ⟨g, off + j * 4, none⟩ = some (.int .i64 z) := by have h := hR.2 (j * 4) (by omega); exact h
      obtain ⟨z1, hz1⟩ : ∃ z, wr.cell? ⟨g, off + j * 4 + 1, none⟩ = some (.int .i64 z) := by have h := hR.2 (j * 4 + 1) (by omega); rwa [← Nat.add_assoc] at h
      obtain ⟨z2, hz2⟩ : ∃ z, wr.cell? ⟨g, off + j * 4 + 2, none⟩ = some (.int .i64 z) := by have h := hR.2 (j * 4 + 2) (by omega); rwa [← Nat.add_assoc] at h
      obtain ⟨z3, hz3⟩ : ∃ z, wr.cell? ⟨g, off + j * 4 + 3, none⟩ = some (.int .i64 z) := by have h := hR.2 (j * 4 + 3) (by omega); rwa [← Nat.add_assoc] at h
      have hfr := fun i => hR.frozen i
      have HI := Lib.hid ((((IN.out.trans (Inside.setCell (p := ⟨g, off + j * 4, none⟩) hlo hhi (.int .i64 (k + j * 4)))).trans (Inside.setCell (p := ⟨g, off + j * 4 + 1, none⟩) hlo hhi (.int .i64 (k + j * 4 + 1)))).trans (Inside.setCell (p := ⟨g, off + j * 4 + 2, none⟩) hlo hhi (.int .i64 (k + j * 4 + 1 + 1)))).trans (Inside.setCell (p := ⟨g, off + j * 4 + 3, none⟩) hlo hhi (.int .i64 (k + j * 4 + 1 + 1 + 1))))
      have HK := Lib.hid (fun g' o' n' hg' => ((((IK.out g' o' n' hg').any ⟨g, off + j * 4, none⟩ rfl (k + j * 4)).any ⟨g, off + j * 4 + 1, none⟩ rfl (k + j * 4 + 1)).any ⟨g, off + j * 4 + 2, none⟩ rfl (k + j * 4 + 1 + 1)).any ⟨g, off + j * 4 + 3, none⟩ rfl (k + j * 4 + 1 + 1 + 1))
      clear hR hR0
      go_wp2
      go_roundg (len - (j + 1))
      case measure => omega
      case rel => exact ⟨j + 1, by omega, by omega, by go_num, by go_num, HI.out, HK.out⟩
    · have hltz : ¬ (j : Int) < (len : Int) := by omega
      have he : j = len := by omega
      have HE := Lib.hid he
      clear he
      go_wp2
      go_ret
      exact ⟨by rw [HE.out]; rfl, IN.out, IK.out⟩
end Go.Proofs.YtkoaaagmcjjimaaGreat

/- Nets marked: their copy's cells are turned, and nothing else. -/
namespace Go.Proofs.YtkoaaagmcjjimaaGreat
open Go.RowKit

set_option maxRecDepth 100000 in
set_option maxHeartbeats 4000000 in
theorem laws_markNetTaskS (g c : Nat) (t : List GTask) (k : Int) (w : World) (lo hi : Nat) (h : NetAt w g hi t) (hlo : lo ≤ g) (hhi : g < hi) (hl : t.length ≤ 1048576) (hs : ∀ x ∈ t, taskFit x) (hk0 : 0 ≤ k) (hk : k ≤ 10000000) :
    Calls Tryz.prog 36 #[.slice (some ⟨g, 0, none⟩) t.length c, .int .i64 k] w fun e w' => (∃ v : Int, e = .returned (.int .i64 v) ∧ 0 ≤ v ∧ v ≤ 9000000000000) ∧ Inside lo hi w w' ∧ ∀ g o n, IntAt w g o n → IntAt w' g o n := by
  have HH := Lib.hid h
  have HSM := Lib.hid hs
  clear h hs
  go_enter Tryz.func36, Tryz.ntmps36
  go_wp2
  go_loopg [1, 5] t.length (fun gg s1 s5 wr => ∃ (j : Nat) (v : Int), j ≤ t.length ∧ t.length - j ≤ gg ∧ s5 = .int .i64 j ∧ s1 = .int .i64 v ∧ 0 ≤ v ∧ v ≤ 10000000 + j * 7000000 ∧ Aside (Inside lo hi w wr) ∧ Aside (NetAt wr g hi t) ∧ Aside (∀ g o n, IntAt w g o n → IntAt wr g o n))
  case atStart => exact ⟨0, k, Nat.zero_le _, by omega, rfl, rfl, hk0, by omega, Inside.refl _ _ _, HH.out, fun _ _ _ h => h⟩
  case round =>
    obtain ⟨j, v, hj, hg, rfl, rfl, hv0, hv1, IN, TA, IK⟩ := hrel
    by_cases hlt : j < t.length
    · have hltz : (j : Int) < (t.length : Int) := by omega
      obtain ⟨h3, _⟩ := TA.out.2 j hlt
      obtain ⟨z0, y0⟩ := h3 0 (by omega)
      obtain ⟨z1, y1⟩ := h3 1 (by omega)
      rw [Nat.add_zero] at y0
      have hfr := fun i => TA.out.frozen i
      obtain ⟨hs1, hs2, hs3⟩ := HSM.out t[j] (List.getElem_mem hlt)
      clear h3
      go_upto_region 8 with fail
      have T2 := Lib.hid ((TA.out.set j 0 (by omega) v).set j 1 (by omega) (v + 1))
      have I2 := Lib.hid ((IN.out.trans (Inside.setCell (p := ⟨g, j * 9 + 0, none⟩) hlo hhi (.int .i64 v))).trans (Inside.setCell (p := ⟨g, j * 9 + 1, none⟩) hlo hhi (.int .i64 (v + 1))))
      have K2 := Lib.hid (fun g' o' n' hg' => ((IK.out g' o' n' hg').any ⟨g, j * 9 + 0, none⟩ rfl v).any ⟨g, j * 9 + 1, none⟩ rfl (v + 1))
      rw [Nat.add_zero] at T2 I2 K2
      generalize hU : (wr.setCell _ _).setCell _ _ = U at T2 I2 K2 ⊢
      clear hU y0 y1 hfr TA IN IK
      obtain ⟨_, ⟨A, c1, h4, h5⟩, _, _⟩ := T2.out.2 j hlt
      go_wp2_with fail
      refine (mark_ints A c1 t[j].inn.length _ U (g + 1) hi (fun hn => by have h := h5 hn; rw [Nat.mul_one] at h; exact h) (by omega) (by omega) (by omega)).mono ?_
      rintro e w1 ⟨rfl, in1, kk⟩
      have T3 := Lib.hid (T2.out.data in1 kk)
      have K3 := Lib.hid (fun g' o' n' hg' => kk g' o' n' (K2.out g' o' n' hg'))
      have I3 := Lib.hid (I2.out.trans (⟨in1.os, in1.tape, in1.output, in1.size, fun b hb => in1.block b (by omega)⟩ : Inside lo hi U w1))
      clear in1 kk h4 h5 T2 I2 K2
      obtain ⟨_, _, ⟨A, c1, h4, h5⟩, _⟩ := T3.out.2 j hlt
      go_wp2_with fail
      refine (mark_flows A c1 t[j].out.length _ w1 (g + 1) hi h5 (by omega) (by omega) (by omega)).mono ?_
      rintro e w2 ⟨rfl, in1, kk⟩
      have T4 := Lib.hid (T3.out.data in1 kk)
      have K4 := Lib.hid (fun g' o' n' hg' => kk g' o' n' (K3.out g' o' n' hg'))
      have I4 := Lib.hid (I3.out.trans (⟨in1.os, in1.tape, in1.output, in1.size, fun b hb => in1.block b (by omega)⟩ : Inside lo hi w1 w2))
      clear in1 kk h4 h5 T3 I3 K3
      obtain ⟨_, _, _, ⟨A, c1, h4, h5⟩⟩ := T4.out.2 j hlt
      go_wp2_with fail
      refine (mark_ints A c1 t[j].clear.length _ w2 (g + 1) hi (fun hn => by have h := h5 hn; rw [Nat.mul_one] at h; exact h) (by omega) (by omega) (by omega)).mono ?_
      rintro e w3 ⟨rfl, in1, kk⟩
      have T5 := Lib.hid (T4.out.data in1 kk)
      have K5 := Lib.hid (fun g' o' n' hg' => kk g' o' n' (K4.out g' o' n' hg'))
      have I5 := Lib.hid (I4.out.trans (⟨in1.os, in1.tape, in1.output, in1.size, fun b hb => in1.block b (by omega)⟩ : Inside lo hi w2 w3))
      clear in1 kk h4 h5 T4 I4 K4
      obtain ⟨u, hu0, hu1, hue⟩ : ∃ u : Int, 0 ≤ u ∧ u ≤ v + 6500000 ∧ u = v + 1 + 1 + (t[j].inn.length : Int) + (t[j].out.length : Int) * 4 + (t[j].clear.length : Int) := ⟨v + 1 + 1 + (t[j].inn.length : Int) + (t[j].out.length : Int) * 4 + (t[j].clear.length : Int), by omega, by omega, rfl⟩
      rw [← hue]
      clear hue
      obtain ⟨h3, _⟩ := T5.out.2 j hlt
      obtain ⟨z5, y5⟩ := h3 5 (by omega)
      obtain ⟨z6, y6⟩ := h3 6 (by omega)
      obtain ⟨z7, y7⟩ := h3 7 (by omega)
      obtain ⟨z8, y8⟩ := h3 8 (by omega)
      have hfr := fun i => T5.out.frozen i
      clear h3
      go_wp2
      have T6 := Lib.hid ((((T5.out.set j 5 (by omega) u).set j 6 (by omega) (u + 1)).set j 7 (by omega) (u + 1 + 1)).set j 8 (by omega) (u + 1 + 1 + 1))
      have I6 := Lib.hid ((((I5.out.trans (Inside.setCell (p := ⟨g, j * 9 + 5, none⟩) hlo hhi (.int .i64 u))).trans (Inside.setCell (p := ⟨g, j * 9 + 6, none⟩) hlo hhi (.int .i64 (u + 1)))).trans (Inside.setCell (p := ⟨g, j * 9 + 7, none⟩) hlo hhi (.int .i64 (u + 1 + 1)))).trans (Inside.setCell (p := ⟨g, j * 9 + 8, none⟩) hlo hhi (.int .i64 (u + 1 + 1 + 1))))
      have K6 := Lib.hid (fun g' o' n' hg' => ((((K5.out g' o' n' hg').any ⟨g, j * 9 + 5, none⟩ rfl u).any ⟨g, j * 9 + 6, none⟩ rfl (u + 1)).any ⟨g, j * 9 + 7, none⟩ rfl (u + 1 + 1)).any ⟨g, j * 9 + 8, none⟩ rfl (u + 1 + 1 + 1))
      go_roundg (t.length - (j + 1))
      case measure => omega
      case rel => exact ⟨j + 1, _, by omega, by omega, by go_num, rfl, by omega, by omega, I6.out, T6.out, K6.out⟩
    · have hltz : ¬ (j : Int) < (t.length : Int) := by omega
      go_wp2
      go_ret
      exact ⟨⟨v, rfl, hv0, by omega⟩, IN.out, IK.out⟩

set_option maxHeartbeats 1000000 in
theorem laws_markNetNet (g c : Nat) (x : GNet) (k : Int) (w : World) (lo hi : Nat) (h : NetAt w g hi x.tasks) (hlo : lo ≤ g) (hhi : g < hi) (hw : hi ≤ w.heap.size) (hl : x.tasks.length ≤ 1048576) (hs : ∀ y ∈ x.tasks, taskFit y) (hk0 : 0 ≤ k) (hk : k ≤ 10000000) :
    Calls Tryz.prog 15 #[.agg #[.int .i64 x.places, .slice (some ⟨g, 0, none⟩) x.tasks.length c], .int .i64 k] w fun e w' => (∃ v : Int, e = .returned (.int .i64 v) ∧ 0 ≤ v ∧ v ≤ 9000000000000) ∧ InsideG lo hi w w' ∧ ∀ g o n, IntAt w g o n → IntAt w' g o n := by
  have HH := Lib.hid h
  have HS := Lib.hid hs
  clear h hs
  go_enter Tryz.func15, Tryz.ntmps15
  go_wp2_with fail
  refine callsAt fun W hW => ?_
  have hB : Below w.heap.size w W := by rw [hW]; exact (Below.refl _ _).alloc (Nat.le_refl _) _
  clear hW
  refine (laws_markNetTaskS g c x.tasks k W lo hi (HH.out.later hB (by omega) hw) hlo hhi hl HS.out hk0 hk).mono ?_
  rintro e w1 ⟨⟨v, rfl, hv0, hv1⟩, hin, hkk⟩
  have HI := Lib.hid hin
  have HB := Lib.hid hB
  have HK := Lib.hid hkk
  clear hin hB hkk
  go_wp2
  go_ret
  exact ⟨⟨v, rfl, hv0, hv1⟩, ⟨HI.out.os.trans HB.out.os, HI.out.tape.trans HB.out.tape, HI.out.output.trans HB.out.output, by rw [HI.out.size]; exact HB.out.size, fun b hb ho => (HI.out.block b ho).trans (HB.out.block b hb)⟩, fun g' o' n' hg' => HK.out g' o' n' (hg'.later HB.out (by obtain ⟨⟨cur, t, hc⟩, _⟩ := hg'; exact (Array.getElem?_eq_some_iff.1 hc).1))⟩
end Go.Proofs.YtkoaaagmcjjimaaGreat

/- What holds of copies while others are marked. -/
namespace Go.Proofs.YtkoaaagmcjjimaaGreat
open Go.RowKit

theorem InsideG.of {lo hi : Nat} {w w' : World} (h : Inside lo hi w w') : InsideG lo hi w w' := ⟨h.os, h.tape, h.output, by rw [h.size]; exact Nat.le_refl _, fun b _ ho => h.block b ho⟩
theorem IntAt.lt {w : World} {g o n : Nat} (h : IntAt w g o n) : g < w.heap.size := by
  obtain ⟨⟨cur, t, hc⟩, _⟩ := h
  exact (Array.getElem?_eq_some_iff.1 hc).1
section
variable {w w' : World} {lo hi b : Nat} {t : TypeId} {cs : Array Value}
theorem Bk.inG (h : Bk w b t cs) (hi' : InsideG lo hi w w') (hb : b < lo ∨ hi ≤ b) : Bk w' b t cs := (hi'.block b h.lt hb).trans h
theorem OwnI.inG {base : Nat} {A : Option Addr} {xs : List Int} (h : OwnI w base A xs) (hi' : InsideG lo hi w w') (hb : hi ≤ base) : OwnI w' base A xs := fun h0 => by
  obtain ⟨g, hA, hg, hw⟩ := h h0
  exact ⟨g, hA, hg, hw.keep (hi'.block g hw.lt (.inr (by omega)))⟩
end

/-- A copied row of ints that may be marked: it lies from lo on, below hi. -/
def IntHeld (lo hi : Nat) (A : Option Addr) (n : Nat) (w : World) : Prop := hi ≤ w.heap.size ∧ (0 < n → ∃ g off, A = some ⟨g, off, none⟩ ∧ IntAt w g off n ∧ lo ≤ g ∧ g < hi)
section
variable {w w' : World} {lo hi n : Nat} {A : Option Addr}
theorem IntHeld.later (h : IntHeld lo hi A n w) (hb : Below w.heap.size w w') : IntHeld lo hi A n w' :=
  ⟨Nat.le_trans h.1 hb.size, fun hn => by
    obtain ⟨g, off, e1, e2, e3, e4⟩ := h.2 hn
    exact ⟨g, off, e1, e2.later hb e2.lt, e3, e4⟩⟩
theorem IntHeld.kept (h : IntHeld lo hi A n w) (hs : w.heap.size ≤ w'.heap.size) (hk : ∀ g o n, IntAt w g o n → IntAt w' g o n) : IntHeld lo hi A n w' :=
  ⟨Nat.le_trans h.1 hs, fun hn => by
    obtain ⟨g, off, e1, e2, e3, e4⟩ := h.2 hn
    exact ⟨g, off, e1, hk _ _ _ e2, e3, e4⟩⟩
end
theorem IntHeld.ints {w : World} {g : Nat} {t : TypeId} {xs : List Int} {lo : Nat} (h : Wr w g t (iv xs)) (hl : xs.length ≤ 9223372036854775807) (hlo : lo ≤ g) : IntHeld lo w.heap.size (some ⟨g, 0, none⟩) xs.length w :=
  ⟨Nat.le_refl _, fun hn => ints_at (h.rows hl hlo h.lt) hn⟩
theorem IntHeld.dids {w : World} {A : Option Addr} {xs : List GDid} {lo g : Nat} (h : Rows didC (some g) w w.heap.size A xs) (hlo : lo ≤ g) : IntHeld lo w.heap.size A (xs.length * 2) w :=
  ⟨Nat.le_refl _, fun hn => by
    obtain ⟨g', off, e1, e2, e3, e4⟩ := dids_at h (by omega)
    exact ⟨g', off, e1, e2, by omega, e4⟩⟩
theorem IntHeld.items {w : World} {A : Option Addr} {xs : List GItem} {lo g : Nat} (h : Rows itemC (some g) w w.heap.size A xs) (hlo : lo ≤ g) : IntHeld lo w.heap.size A (xs.length * 3) w :=
  ⟨Nat.le_refl _, fun hn => by
    obtain ⟨g', off, e1, e2, e3, e4⟩ := items_at h (by omega)
    exact ⟨g', off, e1, e2, by omega, e4⟩⟩
/-- A copied net that may be marked. -/
def NetHeld (lo g hi : Nat) (t : List GTask) (w : World) : Prop := lo ≤ g ∧ g < hi ∧ hi ≤ w.heap.size ∧ NetAt w g hi t
theorem NetHeld.later {lo g hi : Nat} {t : List GTask} {w w' : World} (h : NetHeld lo g hi t w) (hb : Below w.heap.size w w') : NetHeld lo g hi t w' :=
  ⟨h.1, h.2.1, Nat.le_trans h.2.2.1 hb.size, h.2.2.2.later hb (Nat.lt_of_lt_of_le h.2.1 h.2.2.1) h.2.2.1⟩
theorem NetHeld.of_filled {w : World} {g lo : Nat} {T : TypeId} {zc : List Value} {t : List GTask} (h : Filled taskC w g T zc t t.length) (hlo : lo ≤ g) : NetHeld lo g w.heap.size t w := ⟨hlo, h.lt, Nat.le_refl _, NetAt.of_filled h⟩

/-- Ints that lie below S. -/
def Want (S : Nat) (A : Option Addr) (xs : List Int) (w : World) : Prop := S ≤ w.heap.size ∧ Ints w S A xs
theorem Want.later {S : Nat} {A : Option Addr} {xs : List Int} {w w' : World} (h : Want S A xs w) (hb : Below w.heap.size w w') : Want S A xs w' := ⟨Nat.le_trans h.1 hb.size, h.2.below (hb.mono h.1)⟩
theorem Want.inG {S lo hi : Nat} {A : Option Addr} {xs : List Int} {w w' : World} (h : Want S A xs w) (hi' : InsideG lo hi w w') (hS : S ≤ lo) : Want S A xs w' := ⟨Nat.le_trans h.1 hi'.size, h.2.below (hi'.below hS h.1)⟩

theorem szOf_ok {n : Nat} {left : Int} (h : ¬ szOf n left < 0) : (n : Int) ≤ left ∧ 0 ≤ szOf n left ∧ szOf n left ≤ left := by
  unfold szOf at *
  split at h <;> rename_i hh
  · omega
  · rw [if_neg hh]; omega
end Go.Proofs.YtkoaaagmcjjimaaGreat

