/- Rules, each with its data in a block of its own: marked, and asked for their marks. -/
import Derived.Test.YtjieilicjdoaaaaRuleX
import Derived.Test.YtjieilicjdoaaaaMarks
namespace Go.Proofs.Ytjieilicjdoaaaa
open Go.RowKit
set_option linter.unusedSimpArgs false
set_option linter.unusedVariables false

/-- The ints of a rule. -/
def rint (r : GRule) (i : Nat) : Int := match i with
  | 0 => r.ask.op
  | 1 => r.ask.var
  | 2 => r.ask.k
  | 3 => r.yes
  | 4 => r.no
  | _ => r.ans
/-- n rules behind the address A: rule j's ints are f j, its data x j lie in block b j. -/
def TX (w : World) (base : Nat) (A : Option Addr) (n : Nat) (b : Nat → Nat) (f : Nat → Nat → Int) (x : Nat → List Int) : Prop :=
  0 < n → ∃ G, A = some ⟨G, 0, none⟩ ∧ base ≤ G ∧ (∃ cur T, w.heap[G]? = some (.cells cur T (0, 0))) ∧ ∀ j, j < n →
    (∀ i, i < 6 → w.cell? ⟨G, j * 7 + i, none⟩ = some (.int .i64 (f j i))) ∧
    ∃ A' c, w.cell? ⟨G, j * 7 + 6, none⟩ = some (.slice A' (x j).length c) ∧ (0 < (x j).length → A' = some ⟨b j, 0, none⟩ ∧ base ≤ b j ∧ b j ≠ G ∧ Wr w (b j) 3 (iv (x j)))
section
variable {w w' : World} {base n : Nat} {A : Option Addr} {b : Nat → Nat} {f f' : Nat → Nat → Int} {x x' : Nat → List Int}
theorem TX.keep (h : TX w base A n b f x) (hk : ∀ q, base ≤ q → q < w.heap.size → w'.heap[q]? = w.heap[q]?) : TX w' base A n b f x := fun h0 => by
  obtain ⟨G, hA, h1, ⟨cur, T, h2⟩, h3⟩ := h h0
  have hG : G < w.heap.size := (Array.getElem?_eq_some_iff.1 h2).1
  refine ⟨G, hA, h1, ⟨cur, T, (hk G h1 hG).trans h2⟩, fun j hj => ?_⟩
  obtain ⟨h4, A', c, h5, h6⟩ := h3 j hj
  refine ⟨fun i hi => (World.cell?_of_block (a := ⟨G, j * 7 + i, none⟩) (hk G h1 hG)).trans (h4 i hi), A', c, (World.cell?_of_block (a := ⟨G, j * 7 + 6, none⟩) (hk G h1 hG)).trans h5, fun hl => ?_⟩
  obtain ⟨e1, e2, e3, e4⟩ := h6 hl
  exact ⟨e1, e2, e3, e4.keep (hk _ e2 e4.lt)⟩
theorem TX.later (h : TX w base A n b f x) (hb : Below w.heap.size w w') : TX w' base A n b f x := h.keep fun q _ hq => hb.block q hq
theorem TX.inside {lo hi : Nat} (h : TX w base A n b f x) (hin : Inside lo hi w w') (hh : hi ≤ base) : TX w' base A n b f x := h.keep fun q hq _ => hin.block q (.inr (by omega))
theorem TX.congr (h : TX w base A n b f x) (hf : ∀ j, j < n → ∀ i, i < 6 → f' j i = f j i) (hx : ∀ j, j < n → x' j = x j) : TX w base A n b f' x' := fun h0 => by
  obtain ⟨G, hA, h1, h2, h3⟩ := h h0
  refine ⟨G, hA, h1, h2, fun j hj => ?_⟩
  rw [hx j hj]
  exact ⟨fun i hi => by rw [hf j hj i hi]; exact (h3 j hj).1 i hi, (h3 j hj).2⟩
/-- One of the ints of rule k turned. -/
theorem TX.set {G : Nat} (h : TX w base (some ⟨G, 0, none⟩) n b f x) (k i : Nat) (hk : k < n) (hi : i < 6) (z : Int) : TX (w.setCell ⟨G, k * 7 + i, none⟩ (.int .i64 z)) base (some ⟨G, 0, none⟩) n b (fun j' i' => if j' = k ∧ i' = i then z else f j' i') x := fun h0 => by
  obtain ⟨G', hA, h1, ⟨cur, T, h2⟩, h3⟩ := h h0
  cases hA
  refine ⟨G, rfl, h1, ⟨_, T, heap_setCell_same w G (k * 7 + i) cur T _ h2⟩, fun j hj => ?_⟩
  obtain ⟨h4, A', c, h5, h6⟩ := h3 j hj
  refine ⟨fun i2 hi2 => ?_, A', c, ?_, fun hl => ?_⟩
  · have hy := h4 i2 hi2
    by_cases he : j = k ∧ i2 = i
    · obtain ⟨rfl, rfl⟩ := he
      simp only [and_self, if_true]
      exact World.cell?_setCell_same w _ _ hy
    · simp only [he, if_false]
      rw [World.cell?_setCell_other _ _ _ _ (fun e => by simp only [Addr.mk.injEq, true_and, and_true] at e; omega)]
      exact hy
  · rw [World.cell?_setCell_other _ _ _ _ (fun e => by simp only [Addr.mk.injEq, true_and, and_true] at e; omega)]
    exact h5
  · obtain ⟨e1, e2, e3, e4⟩ := h6 hl
    exact ⟨e1, e2, e3, e4.far (p := ⟨G, k * 7 + i, none⟩) e3 _⟩
/-- The data of rule k turned. -/
theorem TX.data (h : TX w base A n b f x) {k : Nat} (hk : k < n) (ys : List Int) (hlen : ys.length = (x k).length) (hinj : ∀ i i', i < n → i' < n → b i = b i' → i = i') (hin : ∀ q, (0 < (x k).length → q ≠ b k) → w'.heap[q]? = w.heap[q]?)
    (hw : 0 < (x k).length → Wr w' (b k) 3 (iv ys)) : TX w' base A n b f (fun j => if j = k then ys else x j) := fun h0 => by
  obtain ⟨G, hA, h1, ⟨cur, T, h2⟩, h3⟩ := h h0
  have hG : w'.heap[G]? = w.heap[G]? := hin G fun hl => by
    obtain ⟨_, A', c, _, h6⟩ := h3 k hk
    exact fun he => (h6 hl).2.2.1 he.symm
  refine ⟨G, hA, h1, ⟨cur, T, hG.trans h2⟩, fun j hj => ?_⟩
  obtain ⟨h4, A', c, h5, h6⟩ := h3 j hj
  refine ⟨fun i hi => (World.cell?_of_block (a := ⟨G, j * 7 + i, none⟩) hG).trans (h4 i hi), A', c, ?_, ?_⟩
  · rw [World.cell?_of_block (a := ⟨G, j * 7 + 6, none⟩) hG, h5]
    by_cases he : j = k
    · subst he
      simp [hlen]
    · simp [he]
  · by_cases he : j = k
    · subst he
      simp only [if_true]
      intro hl
      rw [hlen] at hl
      obtain ⟨e1, e2, e3, e4⟩ := h6 hl
      exact ⟨e1, e2, e3, hw hl⟩
    · simp only [he, if_false]
      intro hl
      obtain ⟨e1, e2, e3, e4⟩ := h6 hl
      exact ⟨e1, e2, e3, e4.keep (hin _ fun _ hq => he (hinj j k hj hk hq))⟩
end
/-- The rules' ints, data and blocks. -/
def rulX (l : List (GRule × Nat)) (j : Nat) : GRule := (l.getD j (rule0, 0)).1
def blkAt (l : List (GRule × Nat)) (j : Nat) : Nat := (l.getD j (rule0, 0)).2
theorem TX.of_own {w : World} {base : Nat} {t : TypeId} {l : List (GRule × Nat)} {A : Option Addr} {c : Nat} (h : OwnC ruleX t w base (.slice A l.length c) l) : TX w base A l.length (blkAt l) (fun j => rint (rulX l j)) (fun j => (rulX l j).stone) := fun h0 => by
  obtain ⟨css, hl, h2, h3, hown⟩ := h
  rcases hown with ⟨_, hz⟩ | ⟨G, cap, cur, hv, hG, hh, _, _, _, ht⟩
  · omega
  simp only [Value.slice.injEq] at hv
  obtain ⟨hA, _, _⟩ := hv
  subst hA
  refine ⟨G, rfl, hG, ⟨cur, t, hh⟩, fun j hj => ?_⟩
  have hjc : css[j]? = some (css[j]'(by omega)) := List.getElem?_eq_getElem (by omega)
  obtain ⟨p, lo, B, hx, hlo, hB, hsep, hR⟩ := h2 j _ hjc
  have hp : l.getD j (rule0, 0) = p := by rw [List.getD_eq_getElem?_getD, hx]; rfl
  obtain ⟨A', c1, hcs, hst⟩ := hR
  have hs := hsep G rfl
  unfold rulX blkAt
  dsimp only
  rw [hp]
  have hcell : ∀ i u, (css[j]'(by omega))[i]? = some u → w.cell? ⟨G, j * 7 + i, none⟩ = some u := fun i u hu => by
    rw [cell_of_row w G _ cur t (0, 0) hh]
    have h5 := flat_get css ruleX.k (OwnC.clen h2) hjc (i := i) (u := u) hu
    have h6 : (cur.toList.take css.flatten.length)[j * 7 + i]? = some u := by
      have h8 : cur.toList.take css.flatten.length = css.flatten := by
        have h7 := ht
        rw [← h3] at h7
        exact h7
      rw [h8]
      exact h5
    rw [List.getElem?_take] at h6
    split at h6
    · simpa using h6
    · cases h6
  rw [hcs] at hcell
  refine ⟨fun i hi => ?_, A', c1, hcell 6 _ rfl, fun hl0 => ?_⟩
  · rcases (by omega : i = 0 ∨ i = 1 ∨ i = 2 ∨ i = 3 ∨ i = 4 ∨ i = 5) with rfl | rfl | rfl | rfl | rfl | rfl
    · exact hcell 0 _ rfl
    · exact hcell 1 _ rfl
    · exact hcell 2 _ rfl
    · exact hcell 3 _ rfl
    · exact hcell 4 _ rfl
    · exact hcell 5 _ rfl
  · obtain ⟨e1, e2, e3⟩ := hst hl0
    have h4 := e3.1
    have h5 := (e3.2 lo rfl).1
    exact ⟨e1, by omega, by omega, e2⟩
theorem BlkOk.inj {base hi : Nat} {l : List (GRule × Nat)} (h : BlkOk base hi l) : ∀ i i', i < l.length → i' < l.length → blkAt l i = blkAt l i' → i = i' := fun i i' hi hi' he => by
  have hb : ∀ j (hj : j < l.length), blkAt l j = (l[j]).2 := fun j hj => by unfold blkAt; rw [List.getD_eq_getElem?_getD, List.getElem?_eq_getElem hj]; rfl
  rw [hb i hi, hb i' hi'] at he
  have hp := List.pairwise_iff_getElem.1 h.1
  rcases Nat.lt_trichotomy i i' with h1 | h1 | h1
  · have := hp i i' hi hi' h1; omega
  · exact h1
  · have := hp i' i hi' hi h1; omega

/-- So many ints lie in the first rules. -/
def cntX (x : Nat → List Int) : Nat → Nat
  | 0 => 0
  | j + 1 => cntX x j + 6 + (x j).length
theorem cntX_le (x : Nat → List Int) (h : ∀ i, (x i).length ≤ 1048576) : ∀ j, cntX x j ≤ 1048582 * j
  | 0 => by simp [cntX]
  | j + 1 => by have := cntX_le x h j; have := h j; unfold cntX; omega
/-- The rules of which the first k are marked. -/
def fM (f : Nat → Nat → Int) (x : Nat → List Int) (k : Nat) : Nat → Nat → Int := fun j i => if j < k then 1 + (cntX x j : Nat) + (i : Nat) else f j i
def xM (x : Nat → List Int) (k : Nat) : Nat → List Int := fun j => if j < k then seqI (1 + (cntX x j : Nat) + 6) (x j).length else x j
theorem six_to {f : Nat → Nat → Int} {x : Nat → List Int} {k : Nat} {v : Int} (hv : v = 1 + (cntX x k : Nat)) : ∀ j i, i < 6 → fM f x (k + 1) j i = (if j = k ∧ i = 5 then v + 1 + 1 + 1 + 1 + 1 else if j = k ∧ i = 4 then v + 1 + 1 + 1 + 1 else if j = k ∧ i = 3 then v + 1 + 1 + 1 else if j = k ∧ i = 2 then v + 1 + 1 else if j = k ∧ i = 1 then v + 1 else if j = k ∧ i = 0 then v else fM f x k j i) := by
  intro j i hi
  by_cases he : j = k
  · subst he
    rcases (by omega : i = 0 ∨ i = 1 ∨ i = 2 ∨ i = 3 ∨ i = 4 ∨ i = 5) with rfl | rfl | rfl | rfl | rfl | rfl <;> simp [fM, hv] <;> omega
  · simp only [he, false_and, if_false]
    unfold fM
    by_cases h1 : j < k
    · rw [if_pos (by omega), if_pos h1]
    · rw [if_neg (by omega), if_neg h1]

set_option maxRecDepth 100000 in
set_option maxHeartbeats 4000000 in
theorem laws_markRdrNodeX (A : Option Addr) (c n : Nat) (b : Nat → Nat) (f : Nat → Nat → Int) (x : Nat → List Int) (base : Nat) (w : World) (h : TX w base A n b f x) (hinj : ∀ i i', i < n → i' < n → b i = b i' → i = i') (hn : n ≤ 1048577) (hl : ∀ i, (x i).length ≤ 1048576) :
    Calls Try.prog 14 #[.slice A n c, .int .i64 1] w fun e w' => e = .returned (.int .i64 (1 + (cntX x n : Nat))) ∧ TX w' base A n b (fM f x n) (xM x n) ∧ Inside base w.heap.size w w' := by
  have HH := Lib.hid h
  have HL := Lib.hid hl
  have HJ := Lib.hid hinj
  have HC := Lib.hid (cntX_le x hl)
  clear h hl hinj
  go_enter Try.func14, Try.ntmps14
  go_wp2
  go_loopg [1, 5] n (fun gg s1 s5 wr => ∃ k : Nat, k ≤ n ∧ n - k ≤ gg ∧ s5 = .int .i64 k ∧ s1 = .int .i64 (1 + (cntX x k : Nat)) ∧ Aside (Inside base w.heap.size w wr) ∧ Aside (TX wr base A n b (fM f x k) (xM x k)))
  case atStart => exact ⟨0, Nat.zero_le _, by omega, rfl, rfl, Inside.refl _ _ _, TX.congr HH.out (fun j _ i _ => by unfold fM; rw [if_neg (by omega)]) (fun j _ => by unfold xM; rw [if_neg (by omega)])⟩
  case round =>
    obtain ⟨k, hk, hg, rfl, rfl, IN, TA⟩ := hrel
    by_cases hlt : k < n
    · have hltz : (k : Int) < (n : Int) := by omega
      obtain ⟨G, rfl, hG, hcur, hrow⟩ := TA.out (by omega)
      obtain ⟨h3, A', c1, h4, h5⟩ := hrow k hlt
      have y0 := h3 0 (by omega)
      have y1 := h3 1 (by omega)
      have y2 := h3 2 (by omega)
      have y3 := h3 3 (by omega)
      have y4 := h3 4 (by omega)
      have y5 := h3 5 (by omega)
      rw [Nat.add_zero] at y0
      have hfr : ∀ i, wr.frozen? ⟨G, i, none⟩ = false := fun i => by
        obtain ⟨cur, T, hc⟩ := hcur
        exact frozen_of_row wr G i cur T hc
      have hGs : G < wr.heap.size := by
        obtain ⟨cur, T, hc⟩ := hcur
        exact (Array.getElem?_eq_some_iff.1 hc).1
      have hws := IN.out.size
      have hcl := HC.out k
      have hxl := HL.out k
      obtain ⟨v, hv⟩ : ∃ v : Int, v = 1 + (cntX x k : Nat) := ⟨_, rfl⟩
      have HV := Lib.hid hv
      have hv0 : 0 ≤ v := by omega
      have hv1 : v ≤ 2000000000000 := by omega
      rw [← hv]
      clear h3 h4 h5 hrow hcur hv
      go_upto_region 16 with fail
      have T6 := Lib.hid ((((((TA.out.set k 0 hlt (by omega) v).set k 1 hlt (by omega) (v + 1)).set k 2 hlt (by omega) (v + 1 + 1)).set k 3 hlt (by omega) (v + 1 + 1 + 1)).set k 4 hlt (by omega) (v + 1 + 1 + 1 + 1)).set k 5 hlt (by omega) (v + 1 + 1 + 1 + 1 + 1))
      have I6 := Lib.hid ((((((IN.out.trans (Inside.setCell (p := ⟨G, k * 7 + 0, none⟩) hG (by show G < _; omega) (.int .i64 v))).trans (Inside.setCell (p := ⟨G, k * 7 + 1, none⟩) hG (by show G < _; omega) (.int .i64 (v + 1)))).trans (Inside.setCell (p := ⟨G, k * 7 + 2, none⟩) hG (by show G < _; omega) (.int .i64 (v + 1 + 1)))).trans (Inside.setCell (p := ⟨G, k * 7 + 3, none⟩) hG (by show G < _; omega) (.int .i64 (v + 1 + 1 + 1)))).trans (Inside.setCell (p := ⟨G, k * 7 + 4, none⟩) hG (by show G < _; omega) (.int .i64 (v + 1 + 1 + 1 + 1)))).trans (Inside.setCell (p := ⟨G, k * 7 + 5, none⟩) hG (by show G < _; omega) (.int .i64 (v + 1 + 1 + 1 + 1 + 1))))
      rw [Nat.add_zero] at T6 I6
      generalize hU : (((((wr.setCell _ _).setCell _ _).setCell _ _).setCell _ _).setCell _ _).setCell _ _ = U at T6 I6 ⊢
      clear hU y0 y1 y2 y3 y4 y5 hfr TA IN
      have T7 : Hid (TX U base (some ⟨G, 0, none⟩) n b (fM f x (k + 1)) (xM x k)) := TX.congr T6.out (fun j _ i hi => six_to HV.out j i hi) (fun _ _ => rfl)
      obtain ⟨G', hA, _, _, hrow⟩ := T7.out (by omega)
      cases hA
      obtain ⟨_, A', c1, h4, h5⟩ := hrow k hlt
      have hxk : xM x k k = x k := by unfold xM; rw [if_neg (by omega)]
      rw [hxk] at h4 h5
      have H5 := Lib.hid h5
      clear h5 hrow T6
      obtain ⟨lo, hi, hown, hhi, hnb, hins⟩ : ∃ lo hi, OwnI U lo A' (x k) ∧ (0 < (x k).length → ∀ g, A' = some ⟨g, 0, none⟩ → g < hi) ∧ (∀ q, (0 < (x k).length → q ≠ b k) → (q < lo ∨ hi ≤ q)) ∧ (∀ q, (q < base ∨ w.heap.size ≤ q) → (q < lo ∨ hi ≤ q)) := by
        by_cases h0 : 0 < (x k).length
        · obtain ⟨e1, e2, e3, e4⟩ := H5.out h0
          have e5 := e4.lt
          have e6 := I6.out.size
          exact ⟨b k, b k + 1, fun _ => ⟨b k, e1, Nat.le_refl _, e4⟩, fun _ g hg => by rw [e1] at hg; cases hg; omega, fun q hq => by have := hq h0; omega, fun q hq => by omega⟩
        · exact ⟨0, 0, fun h => absurd h h0, fun h => absurd h h0, fun q _ => .inr (Nat.zero_le _), fun q _ => .inr (Nat.zero_le _)⟩
      have HNB := Lib.hid hnb
      have HINS := Lib.hid hins
      have HT : Hid (cntX x (k + 1) = cntX x k + 6 + (x k).length) := (rfl : cntX x (k + 1) = cntX x k + 6 + (x k).length)
      clear hnb hins
      go_wp2_with fail
      refine (laws_markIntS_own A' c1 (x k) (v + 1 + 1 + 1 + 1 + 1 + 1) U lo hi hown hhi (by omega) (by omega) (by omega)).mono ?_
      rintro e w1 ⟨rfl, how, hin⟩
      have HO := Lib.hid how
      have HIN := Lib.hid hin
      clear how hin hown hhi h4
      have I7 : Hid (Inside base w.heap.size w w1) := I6.out.trans ⟨HIN.out.os, HIN.out.tape, HIN.out.output, HIN.out.size, fun q hq => HIN.out.block q (HINS.out q hq)⟩
      have T8 : Hid (TX w1 base (some ⟨G, 0, none⟩) n b (fM f x (k + 1)) (xM x (k + 1))) := by
        refine TX.congr (T7.out.data hlt (seqI (v + 1 + 1 + 1 + 1 + 1 + 1) (x k).length) (by rw [seqI_len, hxk]) HJ.out (fun q hq => HIN.out.block q (HNB.out q (by rw [hxk] at hq; exact hq))) (fun h0 => ?_)) (fun _ _ _ _ => rfl) (fun j hj => ?_)
        · rw [hxk] at h0
          obtain ⟨g, hg, _, hw2⟩ := HO.out (by rw [seqI_len]; exact h0)
          rw [(H5.out h0).1] at hg
          cases hg
          exact hw2
        · by_cases he : j = k
          · subst he
            unfold xM
            rw [if_pos (by omega), if_pos rfl]
            congr 1
            rw [HV.out]
            omega
          · rw [if_neg he]
            unfold xM
            by_cases h1 : j < k
            · rw [if_pos (by omega), if_pos h1]
            · rw [if_neg (by omega), if_neg h1]
      clear T7 H5 HO HIN I6
      go_wp2
      go_roundg (n - (k + 1))
      case measure => omega
      case rel => exact ⟨k + 1, by omega, by omega, by go_num, by rw [HT.out, HV.out]; congr 1; omega, I7.out, T8.out⟩
    · have hltz : ¬ (k : Int) < (n : Int) := by omega
      have he : k = n := by omega
      subst he
      go_wp2
      go_ret
      exact ⟨rfl, TA.out, IN.out⟩

set_option maxRecDepth 100000 in
set_option maxHeartbeats 4000000 in
theorem laws_heldRdrNodeX (A : Option Addr) (c n : Nat) (b : Nat → Nat) (f : Nat → Nat → Int) (x : Nat → List Int) (base : Nat) (w : World) (h : TX w base A n b (fM f x n) (xM x n)) (hn : n ≤ 1048577) (hl : ∀ i, (x i).length ≤ 1048576) :
    Calls Try.prog 16 #[.slice A n c, .int .i64 1] w fun e w' => e = .returned (.int .i64 (1 + (cntX x n : Nat))) ∧ w = w' := by
  have HH := Lib.hid h
  have HL := Lib.hid hl
  have HC := Lib.hid (cntX_le x hl)
  clear h hl
  go_enter Try.func16, Try.ntmps16
  go_wp2
  go_loopg [1, 5] n (fun gg s1 s5 wr => ∃ k : Nat, k ≤ n ∧ n - k ≤ gg ∧ s5 = .int .i64 k ∧ s1 = .int .i64 (1 + (cntX x k : Nat)) ∧ Aside (w = wr))
  case atStart => exact ⟨0, Nat.zero_le _, by omega, rfl, rfl, rfl⟩
  case round =>
    obtain ⟨k, hk, hg, rfl, rfl, EW⟩ := hrel
    obtain rfl := EW.out
    by_cases hlt : k < n
    · have hltz : (k : Int) < (n : Int) := by omega
      obtain ⟨G, rfl, hG, _, hrow⟩ := HH.out (by omega)
      obtain ⟨h3, A', c1, h4, h5⟩ := hrow k hlt
      have hfk : ∀ i, fM f x n k i = 1 + (cntX x k : Nat) + (i : Nat) := fun i => by unfold fM; rw [if_pos hlt]
      have hxk : xM x n k = seqI (1 + (cntX x k : Nat) + 6) (x k).length := by unfold xM; rw [if_pos hlt]
      have y0 := h3 0 (by omega)
      have y1 := h3 1 (by omega)
      have y2 := h3 2 (by omega)
      have y3 := h3 3 (by omega)
      have y4 := h3 4 (by omega)
      have y5 := h3 5 (by omega)
      rw [hfk] at y0 y1 y2 y3 y4 y5
      rw [hxk] at h4 h5
      rw [seqI_len] at h4
      have hcl := HC.out k
      have hxl := HL.out k
      have HR : Hid (Ints w w.heap.size A' (seqI (1 + (cntX x k : Nat) + 6) (x k).length)) := by
        show Ints _ _ _ _
        by_cases h0 : 0 < (x k).length
        · obtain ⟨e1, e2, e3, e4⟩ := h5 (by rw [seqI_len]; exact h0)
          rw [e1]
          exact e4.ints e4.lt (by rw [seqI_len]; omega)
        · rw [show (x k).length = 0 from by omega]
          exact Ints.nil
      have HT : Hid (cntX x (k + 1) = cntX x k + 6 + (x k).length) := (rfl : cntX x (k + 1) = cntX x k + 6 + (x k).length)
      obtain ⟨v, hv⟩ : ∃ v : Int, v = 1 + (cntX x k : Nat) := ⟨_, rfl⟩
      have HV := Lib.hid hv
      have hv0 : 1 ≤ v := by omega
      have hv1 : v ≤ 2000000000000 := by omega
      rw [← hv] at y0 y1 y2 y3 y4 y5 HR ⊢
      rw [show v + ((0 : Nat) : Int) = v from by omega, Nat.add_zero] at y0
      rw [show v + ((1 : Nat) : Int) = v + 1 from by omega] at y1
      rw [show v + ((2 : Nat) : Int) = v + 1 + 1 from by omega] at y2
      rw [show v + ((3 : Nat) : Int) = v + 1 + 1 + 1 from by omega] at y3
      rw [show v + ((4 : Nat) : Int) = v + 1 + 1 + 1 + 1 from by omega] at y4
      rw [show v + ((5 : Nat) : Int) = v + 1 + 1 + 1 + 1 + 1 from by omega] at y5
      have b0 : (v != v) = false := by simp
      have b1 : (v + 1 != v + 1) = false := by simp
      have b2 : (v + 1 + 1 != v + 1 + 1) = false := by simp
      have b3 : (v + 1 + 1 + 1 != v + 1 + 1 + 1) = false := by simp
      have b4 : (v + 1 + 1 + 1 + 1 != v + 1 + 1 + 1 + 1) = false := by simp
      have b5 : (v + 1 + 1 + 1 + 1 + 1 != v + 1 + 1 + 1 + 1 + 1) = false := by simp
      rw [show v + 6 = v + 1 + 1 + 1 + 1 + 1 + 1 from by omega] at HR
      have hneg : ¬ (v + 1 + 1 + 1 + 1 + 1 + 1 + ((x k).length : Int)) < 0 := by omega
      clear h3 h5 hrow hfk hxk hv
      go_wp2_with fail
      refine (laws_heldIntS A' c1 (x k).length (v + 1 + 1 + 1 + 1 + 1 + 1) w w.heap.size HR.out (by omega) (by omega) (by omega)).mono ?_
      rintro e w2 ⟨rfl, rfl⟩
      go_wp2
      go_roundg (n - (k + 1))
      case measure => omega
      case rel => exact ⟨k + 1, by omega, by omega, by go_num, by rw [HT.out, HV.out]; congr 1; omega, rfl⟩
    · have hltz : ¬ (k : Int) < (n : Int) := by omega
      have he : k = n := by omega
      subst he
      go_wp2
      go_ret
      exact ⟨rfl, rfl⟩
end Go.Proofs.Ytjieilicjdoaaaa
