/- A slice of records of who did what, of the call's own: marked by a count, and asked for its marks. -/
import Derived.Test.YtkoaaagmcjjimaaMarkDid
import Derived.Test.YtkoaaagmcjjimaaAppRow
namespace Go.Proofs.Ytkoaaagmcjjimaa
open Go.RowKit

/-- A slice of the call's own whose cells are these numbers. -/
def OwnN (w : World) (base : Nat) (A : Option Addr) (zs : List Int) : Prop := 0 < zs.length → ∃ g t, A = some ⟨g, 0, none⟩ ∧ base ≤ g ∧ Wr w g t (iv zs)
section
variable {w w' : World} {base : Nat} {A : Option Addr} {zs : List Int}
theorem OwnN.later (h : OwnN w base A zs) (hb : Below w.heap.size w w') : OwnN w' base A zs := fun h0 => by
  obtain ⟨g, t, hA, hg, hw⟩ := h h0
  exact ⟨g, t, hA, hg, hw.later hb⟩
theorem OwnN.cell (h : OwnN w base A zs) {i : Nat} (hi : i < zs.length) : ∃ g, A = some ⟨g, 0, none⟩ ∧ w.cell? ⟨g, i, none⟩ = some (.int .i64 zs[i]) := by
  obtain ⟨g, t, hA, _, hw⟩ := h (by omega)
  exact ⟨g, hA, hw.cell (iv_get (List.getElem?_eq_getElem hi))⟩
end
/-- What records of who did what are in numbers. -/
def didInts (xs : List GDid) : List Int := (xs.map fun x => [x.task, x.who]).flatten
theorem didInts_len (xs : List GDid) : (didInts xs).length = xs.length * 2 := by
  unfold didInts
  rw [flat_len' _ 2 (fun cs hcs => by obtain ⟨y, _, rfl⟩ := List.mem_map.1 hcs; rfl), List.length_map]
theorem OwnN.of_did {w : World} {base : Nat} {e : TypeId} {v : Value} {xs : List GDid} (h : OwnC didC e w base v xs) : ∃ A c, v = .slice A xs.length c ∧ OwnN w base A (didInts xs) := by
  obtain ⟨css, h1, h2, h3⟩ := h
  have hcs : css = xs.map GDid.cells := List.ext_getElem? fun j => by
    rw [List.getElem?_map]
    cases hj : css[j]? with
    | none =>
      have : xs[j]? = none := List.getElem?_eq_none (by have := List.getElem?_eq_none_iff.1 hj; omega)
      rw [this]; rfl
    | some cs =>
      obtain ⟨y, lo, B', hy', _, _, _, hR⟩ := h2 j cs hj
      rw [hy']
      exact congrArg some (show cs = GDid.cells y from hR)
  subst hcs
  have hf : (xs.map GDid.cells).flatten = iv (didInts xs) := by
    rw [didInts, iv_flatten, List.map_map]; rfl
  have hl : (iv (didInts xs)).length = xs.length * 2 := by rw [iv_len, didInts_len]
  rcases h3.2 with ⟨hv, hn⟩ | ⟨g, cap, cur, hv, hb, hgg, hcap, hmax, hcs, htake⟩
  · exact ⟨none, 0, by rw [hn]; exact hv, fun h0 => by rw [didInts_len] at h0; omega⟩
  · refine ⟨some ⟨g, 0, none⟩, cap, hv, fun _ => ⟨g, e, rfl, hb, cur, hgg, ?_⟩⟩
    rw [hf] at htake
    rw [hl]
    exact htake

set_option maxHeartbeats 1000000 in
theorem mark_dids_own (A : Option Addr) (c n : Nat) (zs : List Int) (k : Int) (w : World) (base hi : Nat) (hz : zs.length = n * 2) (h : OwnN w base A zs) (hhi : 0 < n → ∀ g, A = some ⟨g, 0, none⟩ → g < hi) (hl : n ≤ 16777216) (hk0 : 0 ≤ k) (hk : k ≤ 4611686018427387904) :
    Calls Try.prog 152 #[.slice A n c, .int .i64 k] w fun e w' => e = .returned (.int .i64 (k + n * 2)) ∧ OwnN w' base A (seqI k (n * 2)) ∧ Inside base hi w w' := by
  have HH := Lib.hid h
  have HZ := Lib.hid hz
  have HHI := Lib.hid hhi
  clear h hz hhi
  go_enter Try.func152, Try.ntmps152
  go_wp2
  go_loopg [1, 5] n (fun gg s1 s5 wr => ∃ j : Nat, j ≤ n ∧ n - j ≤ gg ∧ s5 = .int .i64 j ∧ s1 = .int .i64 (k + j * 2) ∧ Aside (Inside base hi w wr) ∧ Aside (OwnN wr base A (seqI k (j * 2) ++ zs.drop (j * 2))))
  case atStart => exact ⟨0, Nat.zero_le _, by omega, rfl, by simp, Inside.refl _ _ _, by show OwnN _ _ _ _; simpa [seqI] using HH.out⟩
  case round =>
    obtain ⟨j, hj, hg, rfl, rfl, IN, OW⟩ := hrel
    by_cases hlt : j < n
    · have hltz : (j : Int) < (n : Int) := by omega
      have hz2 := HZ.out
      obtain ⟨g, t, rfl, hgb, hW⟩ := OW.out (by rw [List.length_append, seqI_len, List.length_drop]; omega)
      have h0 := mark_old k (j * 2) zs (by omega)
      have hc0 := hW.cell h0
      have hW1 := hW.set (j * 2) (.int .i64 (k + (j * 2 : Nat)))
      rw [mark_step k (j * 2) zs (by omega)] at hW1
      have hc1' := hW1.cell (mark_old k (j * 2 + 1) zs (by omega))
      have hc1 : wr.cell? ⟨g, j * 2 + 1, none⟩ = some (.int .i64 (zs[j * 2 + 1]'(by omega))) := by
        rw [World.cell?_setCell_other _ _ _ _ (by simp)] at hc1'
        exact hc1'
      have hW2 := hW1.set (j * 2 + 1) (.int .i64 (k + (j * 2 + 1 : Nat)))
      rw [mark_step k (j * 2 + 1) zs (by omega)] at hW2
      have e1 : k + ((j * 2 : Nat) : Int) = k + (j : Int) * 2 := by omega
      have e2 : k + ((j * 2 + 1 : Nat) : Int) = k + (j : Int) * 2 + 1 := by omega
      rw [e1, e2] at hW2
      have hfr := fun i => hW.frozen i
      have HS := Lib.hid hW2
      have HI := Lib.hid ((IN.out.trans (Inside.setCell (p := ⟨g, j * 2, none⟩) hgb (HHI.out (by omega) g rfl) (.int .i64 (k + j * 2)))).trans (Inside.setCell (p := ⟨g, j * 2 + 1, none⟩) hgb (HHI.out (by omega) g rfl) (.int .i64 (k + j * 2 + 1))))
      generalize (zs[j * 2 + 1]'(by omega)) = y1 at hc1
      generalize (zs[j * 2]'(by omega)) = y0 at hc0
      clear hW hW1 hW2 h0 hc1' e1 e2 hz2
      go_wp2
      go_roundg (n - (j + 1))
      case measure => omega
      case rel => exact ⟨j + 1, by omega, by omega, by go_num, by go_num, HI.out, fun _ => ⟨g, t, rfl, hgb, by rw [show (j + 1) * 2 = j * 2 + 1 + 1 from by omega]; exact HS.out⟩⟩
    · have hltz : ¬ (j : Int) < (n : Int) := by omega
      have he : j = n := by omega
      have HE := Lib.hid he
      clear he
      go_wp2
      go_ret
      refine ⟨by rw [HE.out]; rfl, ?_, IN.out⟩
      have h1 := OW.out
      rw [HE.out, ← HZ.out, List.drop_length, List.append_nil] at h1
      rw [← HZ.out]
      exact h1

set_option maxHeartbeats 1000000 in
theorem held_dids (A : Option Addr) (c n : Nat) (k : Int) (w : World) (base : Nat) (h : OwnN w base A (seqI k (n * 2))) (hl : n ≤ 16777216) (hk0 : 0 ≤ k) (hk : k ≤ 4611686018427387904) :
    Calls Try.prog 154 #[.slice A n c, .int .i64 k] w fun e w' => e = .returned (.int .i64 (k + n * 2)) ∧ w = w' := by
  have HX := Lib.hid h
  clear h
  go_enter Try.func154, Try.ntmps154
  go_wp2
  go_loopg [1, 5] n (fun gg s1 s5 wr => ∃ j : Nat, j ≤ n ∧ n - j ≤ gg ∧ s5 = .int .i64 j ∧ s1 = .int .i64 (k + j * 2) ∧ Aside (w = wr))
  case atStart => exact ⟨0, Nat.zero_le _, by omega, rfl, by simp, rfl⟩
  case round =>
    obtain ⟨j, hj, hg, rfl, rfl, EW⟩ := hrel
    obtain rfl := EW.out
    by_cases hlt : j < n
    · have hltz : (j : Int) < (n : Int) := by omega
      obtain ⟨g, rfl, hc0⟩ := HX.out.cell (i := j * 2) (by rw [seqI_len]; omega)
      obtain ⟨g', hA, hc1⟩ := HX.out.cell (i := j * 2 + 1) (by rw [seqI_len]; omega)
      cases hA
      rw [seqI_get] at hc0 hc1
      have e1 : k + ((j * 2 : Nat) : Int) = k + (j : Int) * 2 := by omega
      have e2 : k + ((j * 2 + 1 : Nat) : Int) = k + (j : Int) * 2 + 1 := by omega
      rw [e1] at hc0
      rw [e2] at hc1
      clear e1 e2
      go_wp2
      go_roundg (n - (j + 1))
      case measure => omega
      case rel => exact ⟨j + 1, by omega, by omega, by go_num, by go_num, rfl⟩
    · have hltz : ¬ (j : Int) < (n : Int) := by omega
      have he : j = n := by omega
      have HE := Lib.hid he
      clear he
      go_wp2
      go_ret
      exact ⟨by rw [HE.out]; rfl, rfl⟩
end Go.Proofs.Ytkoaaagmcjjimaa
