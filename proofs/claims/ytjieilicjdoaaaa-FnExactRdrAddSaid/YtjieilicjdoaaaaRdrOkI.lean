/- The program's RdrOk. -/
import Derived.Test.YtjieilicjdoaaaaRdrOkS
namespace Go.Proofs.Ytjieilicjdoaaaa
open Go.RowKit

theorem impl_isAnswer (n : Int) (w : World) : Calls Try.prog 39 #[.int .i64 n] w fun e w' => e = .returned (.bool (inB n 0 2)) ∧ w = w' := by
  go_enter Try.func39, Try.ntmps39
  go_wp2_with (go_at_call 51; refine (impl_in _ _ _ _).mono ?_; rintro e w' ⟨rfl, rfl⟩)
  go_ret
  exact ⟨rfl, rfl⟩

/-- Counts in block g: of each of the numbers below n. -/
def Cnt (w : World) (g n : Nat) (f : Nat → Nat) : Prop := Wr w g 3 (iv ((List.range n).map fun j => (f j : Int)))
theorem Cnt.get {w : World} {g n : Nat} {f : Nat → Nat} (h : Cnt w g n f) {j : Nat} (hj : j < n) : w.cell? ⟨g, j, none⟩ = some (.int .i64 (f j)) :=
  h.cell (iv_get (by simp [hj]))
theorem Cnt.set {w : World} {g n : Nat} {f f' : Nat → Nat} (h : Cnt w g n f) {j : Nat} (hj : j < n) (z : Int) (hz : z = f' j) (hf : ∀ i, i ≠ j → f' i = f i) : Cnt (w.setCell ⟨g, j, none⟩ (.int .i64 z)) g n f' := by
  unfold Cnt at *
  have h2 := h.set j (.int .i64 z)
  have he : (iv ((List.range n).map fun i => (f i : Int))).set j (.int .i64 z) = iv ((List.range n).map fun i => (f' i : Int)) := by
    apply List.ext_getElem?
    intro i
    rw [List.getElem?_set]
    by_cases hi : i < n
    · by_cases hij : j = i
      · subst hij
        simp [iv, hi, hz]
      · rw [if_neg hij]
        simp [iv, hi, hf i (fun h => hij h.symm)]
    · rw [if_neg (by omega), List.getElem?_eq_none (by simp [iv]; omega), List.getElem?_eq_none (by simp [iv]; omega)]
  rwa [he] at h2

/-- Behind the first z of the two that rule k asks next: how often j is named. -/
def namedIn (t : List GRule) (k z j : Nat) : Nat :=
  named t k j + ((if 1 ≤ z then hit (t.getD k rule0).yes j else 0) + (if 2 ≤ z then hit (t.getD k rule0).no j else 0))
theorem namedIn_zero (t : List GRule) (k : Nat) : namedIn t k 0 = named t k := by
  funext j
  simp [namedIn]
theorem namedIn_two (t : List GRule) {k : Nat} (hk : k < t.length) : namedIn t k 2 = named t (k + 1) := by
  funext j
  rw [named_succ t k j hk]
  simp [namedIn, hk]

def onceI (t : List GRule) (i : Nat) : Bool := decide (i = 0) || decide (named t t.length i = 1)

set_option maxRecDepth 100000 in
set_option maxHeartbeats 4000000 in
theorem impl_RdrOk (A : Option Addr) (c : Nat) (t : List GRule) (m : Option Nat) (w : World) (hx : Rows ruleC m w w.heap.size A t) (hl : t.length ≤ 1048576) :
    Calls Try.prog 37 #[.slice A t.length c] w (Says (.bool (treeOk t)) w) := by
  have hmk := run_make_row' (P := Try.prog) 23 3 (.int .i64 0) 8 Try.underlying23 info_int rfl .i64 .i64 t.length (by omega) (by omega)
  have HX := Lib.hid hx
  have HF : Hid (treeOk t = (allTo (ruleAt t) t.length && (allTo (onceI t) t.length && decide (t.length ≤ 12)))) := treeOk_impl t
  clear hx
  go_enter Try.func37, Try.ntmps37
  go_wp2
  clear hmk
  generalize hW : w.alloc _ = W
  have HB : Hid (Below w.heap.size w W) := by show Below _ _ _; rw [← hW]; exact (Below.refl _ w).alloc (Nat.le_refl _) _
  have HC : Hid (Cnt W w.heap.size t.length (named t 0)) := by
    show Cnt _ _ _ _
    unfold Cnt
    have h := Wr.new w 3 (madeCells #[.int .i64 0] t.length)
    rw [toList_madeCells_one] at h
    rw [← hW]
    have he : iv ((List.range t.length).map fun j => (named t 0 j : Int)) = List.replicate t.length (.int .i64 0) := by
      simp only [named_zero]
      apply List.ext_getElem?
      intro i
      by_cases hi : i < t.length
      · simp [iv, hi]
      · rw [List.getElem?_eq_none (by simp [iv]; omega), List.getElem?_eq_none (by simp; omega)]
    rw [he]
    exact h
  clear hW
  go_loopg [15] t.length (fun gg s15 wr => ∃ k : Nat, k ≤ t.length ∧ t.length - k ≤ gg ∧ s15 = .int .i64 k ∧ Aside (Below w.heap.size w wr) ∧ Aside (Cnt wr w.heap.size t.length (named t k)) ∧ Aside (allTo (ruleAt t) k = true))
  case atStart => exact ⟨0, Nat.zero_le _, by omega, rfl, HB.out, HC.out, rfl⟩
  case round =>
    obtain ⟨k, hk, hg, rfl, BW, CW, AN⟩ := hrel
    by_cases hlt : k < t.length
    · have hltz : (k : Int) < (t.length : Int) := by omega
      obtain ⟨b, off, A1, c1, rfl, hb, hr, hd0, hd1, hd2, hd3, hd4, hd5, hd6⟩ := rule_at (HX.out.below BW.out) hlt
      have HR := Lib.hid (hr.more BW.out.size)
      have HAt : Hid (ruleAt t k = ((holds t[k].ask t[k].stone && inB t[k].ans 0 2) && (nextOk t[k].yes k t.length && nextOk t[k].no k t.length))) := by
        show _ = _
        unfold ruleAt
        rw [getD_get hlt]
      have HI : Hid (∀ z j, namedIn t k z j = named t k j + ((if 1 ≤ z then hit t[k].yes j else 0) + (if 2 ≤ z then hit t[k].no j else 0))) := fun z j => by
        unfold namedIn
        rw [getD_get hlt]
      clear hr
      generalize t[k] = y at hd0 hd1 hd2 hd3 hd4 hd5 hd6 HR HAt HI
      go_upto_region 5 with fail
      generalize hV : wr.alloc _ = V
      have bV : Hid (Bk V wr.heap.size 65 #[.int .i64 y.ask.op, .int .i64 y.ask.var, .int .i64 y.ask.k, .int .i64 y.yes, .int .i64 y.no, .int .i64 y.ans, .slice A1 y.stone.length c1]) := by show Bk _ _ _ _; rw [← hV]; exact Bk.new rfl
      have EV := Lib.hid (BW.out.trans (by rw [← hV]; exact (Below.refl _ _).alloc BW.out.size _) : Below w.heap.size w V)
      have hBV : Below wr.heap.size wr V := by rw [← hV]; exact (Below.refl _ _).alloc (Nat.le_refl _) _
      have RV := Lib.hid (HR.out.later hBV : Rows intC m V V.heap.size A1 y.stone)
      have CV : Hid (Cnt V w.heap.size t.length (named t k)) := by show Cnt _ _ _ _; exact Wr.later CW.out hBV
      clear hV hd0 hd1 hd2 hd3 hd4 hd5 hd6 HR hBV
      have kV := fun i => bV.out.cell i
      have D1 := Lib.hid RV.out.ints
      go_wp2_with fail
      refine (impl_ExpHolds y.ask _ _ _ V D1.out).mono ?_
      rintro e V1 ⟨rfl, hb1⟩
      have B1 := Lib.hid (bV.out.later hb1)
      have E1 := Lib.hid (EV.out.trans (hb1.mono EV.out.size))
      have C1 : Hid (Cnt V1 w.heap.size t.length (named t k)) := by show Cnt _ _ _ _; exact Wr.later CV.out hb1
      have g0 : w.heap.size < wr.heap.size := CW.out.lt
      clear kV hb1 bV EV CV RV D1
      have k1 := fun i => B1.out.cell i
      cases q1 : holds y.ask y.stone with
      | false =>
        have HS : Hid (allTo (ruleAt t) t.length = false) := allTo_fail hlt (by rw [HAt.out, q1]; rfl)
        go_wp2
        go_ret
        exact ⟨by rw [HF.out, HS.out]; rfl, E1.out⟩
      | true =>
        cases q2 : inB y.ans 0 2 with
        | false =>
          have HS : Hid (allTo (ruleAt t) t.length = false) := allTo_fail hlt (by rw [HAt.out, q2]; simp)
          go_wp2_with (go_at_call 39; refine (impl_isAnswer _ _).mono ?_; rintro e w' ⟨rfl, rfl⟩)
          go_ret
          exact ⟨by rw [HF.out, HS.out]; rfl, E1.out⟩
        | true =>
          rw [q1, q2] at HAt
          go_wp2_with (go_at_call 39; refine (impl_isAnswer _ _).mono ?_; rintro e w' ⟨rfl, rfl⟩)
          generalize hU : V1.alloc _ = U
          have bU : Hid (Bk U V1.heap.size 3 #[.int .i64 y.yes, .int .i64 y.no]) := by show Bk _ _ _ _; rw [← hU]; exact Bk.new rfl
          have EU := Lib.hid (E1.out.trans (by rw [← hU]; exact (Below.refl _ _).alloc E1.out.size _) : Below w.heap.size w U)
          have CU : Hid (Cnt U w.heap.size t.length (namedIn t k 0)) := by
            show Cnt _ _ _ _
            rw [namedIn_zero, ← hU]
            exact Wr.alloc C1.out _
          have g1 : wr.heap.size < V1.heap.size := B1.out.lt
          clear hU k1 B1 E1 C1 CW q1 q2
          go_loopg [38] 2 (fun gg s38 wi => ∃ z : Nat, z ≤ 2 ∧ 2 - z ≤ gg ∧ s38 = .int .i64 z ∧ Aside (Below w.heap.size w wi) ∧ Aside (Cnt wi w.heap.size t.length (namedIn t k z)) ∧ Aside (Bk wi V1.heap.size 3 #[.int .i64 y.yes, .int .i64 y.no]) ∧ Aside ((1 ≤ z → nextOk y.yes k t.length = true) ∧ (2 ≤ z → nextOk y.no k t.length = true)))
          case atStart => exact ⟨0, Nat.zero_le _, by omega, rfl, EU.out, CU.out, bU.out, ⟨by omega, by omega⟩⟩
          case round =>
            obtain ⟨z, hz, hg2, rfl, BI, CI, KI, OK⟩ := hrel
            by_cases hz2 : z < 2
            · have hzz : (z : Int) < 2 := by omega
              obtain ⟨v, hv⟩ : ∃ v, v = if z = 0 then y.yes else y.no := ⟨_, rfl⟩
              have hcell : wr.cell? ⟨V1.heap.size, z, none⟩ = some (.int .i64 v) := by
                rw [KI.out.cell, hv]
                rcases (by omega : z = 0 ∨ z = 1) with rfl | rfl <;> rfl
              have HV := Lib.hid hv
              clear hv
              have HOK : Hid (nextOk v k t.length = true → (1 ≤ z + 1 → nextOk y.yes k t.length = true) ∧ (2 ≤ z + 1 → nextOk y.no k t.length = true)) := fun h => by
                have h1 := HV.out
                rcases (by omega : z = 0 ∨ z = 1) with rfl | rfl
                · rw [if_pos rfl] at h1
                  rw [h1] at h
                  exact ⟨fun _ => h, by omega⟩
                · rw [if_neg (by decide)] at h1
                  rw [h1] at h
                  exact ⟨fun _ => OK.out.1 (by omega), fun _ => h⟩
              have HNO : Hid (nextOk v k t.length = false → allTo (ruleAt t) t.length = false) := fun h => allTo_fail hlt (by
                have h1 := HV.out
                rw [HAt.out]
                rcases (by omega : z = 0 ∨ z = 1) with rfl | rfl
                · rw [if_pos rfl] at h1
                  rw [h1] at h
                  rw [h]; rfl
                · rw [if_neg (by decide)] at h1
                  rw [h1] at h
                  rw [h]; simp)
              have HIN : Hid (∀ j, namedIn t k (z + 1) j = namedIn t k z j + hit v j) := fun j => by
                have h1 := HV.out
                rw [HI.out, HI.out]
                rcases (by omega : z = 0 ∨ z = 1) with rfl | rfl
                · rw [if_pos rfl] at h1
                  simp [h1]
                · rw [if_neg (by decide)] at h1
                  simp [h1]
                  omega
              rcases nextOk_split v k t.length with ⟨hv1, hv2⟩ | ⟨hv1, hv2⟩
              · have b1 : (v == -1) = true := by simp [hv1]
                have HK := Lib.hid (HOK.out hv2)
                have HC2 : Hid (Cnt wr w.heap.size t.length (namedIn t k (z + 1))) := by
                  show Cnt _ _ _ _
                  have : namedIn t k (z + 1) = namedIn t k z := by
                    funext j
                    rw [HIN.out, hv1]
                    unfold hit
                    rw [if_neg (by omega)]; rfl
                  rw [this]
                  exact CI.out
                clear hv1 hv2
                go_wp2
                go_roundg (2 - (z + 1))
                case measure => omega
                case rel => exact ⟨z + 1, by omega, by omega, by go_num, BI.out, HC2.out, KI.out, HK.out⟩
              · have b1 : (v == -1) = false := by simp [hv1]
                cases q3 : inB v (k + 1) (t.length - 1) with
                | false =>
                  have HS := Lib.hid (HNO.out (by rw [hv2, q3]))
                  clear hv1 hv2
                  go_wp2_with (go_at_call 51; refine (impl_in _ _ _ _).mono ?_; rintro e w' ⟨rfl, rfl⟩)
                  go_ret
                  exact ⟨by rw [HF.out, HS.out]; rfl, BI.out⟩
                | true =>
                  have HK := Lib.hid (HOK.out (by rw [hv2, q3]))
                  have hin := inB_iff.1 q3
                  obtain ⟨j, rfl⟩ := Int.eq_ofNat_of_zero_le (a := v) (by omega)
                  have hjl : j < t.length := by omega
                  have hjz : (j : Int) < (t.length : Int) := by omega
                  have hcc := CI.out.get hjl
                  have hfr := CI.out.frozen j
                  have hnle : namedIn t k z j ≤ 2097152 := by
                    have := named_le t j k hk
                    rw [HI.out]
                    have := hit_le y.yes j
                    have := hit_le y.no j
                    split <;> split <;> omega
                  have HC2 : Hid (Cnt (wr.setCell ⟨w.heap.size, j, none⟩ (.int .i64 ((namedIn t k z j : Nat) + 1))) w.heap.size t.length (namedIn t k (z + 1))) := by
                    show Cnt _ _ _ _
                    refine CI.out.set hjl _ ?_ fun i hi => ?_
                    · rw [HIN.out]
                      unfold hit
                      rw [if_pos rfl]
                      omega
                    · rw [HIN.out]
                      unfold hit
                      rw [if_neg (by omega)]; rfl
                  have HB2 := Lib.hid (BI.out.setCell (p := ⟨w.heap.size, j, none⟩) (Nat.le_refl _) (.int .i64 ((namedIn t k z j : Nat) + 1)))
                  have HK2 := Lib.hid (KI.out.far (p := ⟨w.heap.size, j, none⟩) (by show V1.heap.size ≠ w.heap.size; omega) (.int .i64 ((namedIn t k z j : Nat) + 1)))
                  clear hv1 hv2
                  generalize namedIn t k z j = nn at hcc hnle HC2 HB2 HK2
                  go_wp2_with (go_at_call 51; refine (impl_in _ _ _ _).mono ?_; rintro e w' ⟨rfl, rfl⟩)
                  go_roundg (2 - (z + 1))
                  case measure => omega
                  case rel => exact ⟨z + 1, by omega, by omega, by go_num, HB2.out, HC2.out, HK2.out, HK.out⟩
            · have hz3 : z = 2 := by omega
              subst hz3
              have HS : Hid (allTo (ruleAt t) (k + 1) = true) := allTo_step AN.out (by rw [HAt.out, OK.out.1 (by omega), OK.out.2 (by omega)]; rfl)
              have HC2 : Hid (Cnt wr w.heap.size t.length (named t (k + 1))) := by show Cnt _ _ _ _; rw [← namedIn_two t hlt]; exact CI.out
              go_wp2
              go_roundg (t.length - (k + 1))
              case measure => omega
              case rel => exact ⟨k + 1, by omega, by omega, by go_num, BI.out, HC2.out, HS.out⟩
    · have hltz : ¬ (k : Int) < (t.length : Int) := by omega
      have he : k = t.length := by omega
      have HS : Hid (allTo (ruleAt t) t.length = true) := by show _ = _; rw [← he]; exact AN.out
      have HC2 : Hid (Cnt wr w.heap.size t.length (named t t.length)) := by show Cnt _ _ _ _; have := CW.out; rw [he] at this; exact this
      clear he AN CW
      go_wp2
      go_loopg [62] t.length (fun gg s62 wi => ∃ j : Nat, j ≤ t.length ∧ t.length - j ≤ gg ∧ s62 = .int .i64 j ∧ Aside (wr = wi) ∧ Aside (allTo (onceI t) j = true))
      case atStart => exact ⟨0, Nat.zero_le _, by omega, rfl, rfl, rfl⟩
      case round =>
        obtain ⟨j, hj, hg2, rfl, EW, AJ⟩ := hrel
        obtain rfl := EW.out
        by_cases hjl : j < t.length
        · have hjz : (j : Int) < (t.length : Int) := by omega
          have hc := HC2.out.get hjl
          have HD : Hid (onceI t j = (decide (j = 0) || decide (named t t.length j = 1))) := rfl
          generalize named t t.length j = n at hc HD
          by_cases j0 : j = 0
          · subst j0
            have HS2 : Hid (allTo (onceI t) (0 + 1) = true) := allTo_step AJ.out (by rw [HD.out]; rfl)
            go_wp2
            go_roundg (t.length - (0 + 1))
            case measure => omega
            case rel => exact ⟨0 + 1, by omega, by omega, by go_num, rfl, HS2.out⟩
          · have g0 : (0 : Int) < (j : Int) := by omega
            by_cases n1 : n = 1
            · subst n1
              have HS2 : Hid (allTo (onceI t) (j + 1) = true) := allTo_step AJ.out (by rw [HD.out]; simp)
              clear j0
              go_wp2
              go_roundg (t.length - (j + 1))
              case measure => omega
              case rel => exact ⟨j + 1, by omega, by omega, by go_num, rfl, HS2.out⟩
            · have g1 : ((n : Int) != 1) = true := by simp; omega
              have HS2 : Hid (allTo (onceI t) t.length = false) := allTo_fail hjl (by rw [HD.out]; simp [j0, n1])
              clear j0 n1
              go_wp2
              go_ret
              exact ⟨by rw [HF.out, HS2.out]; simp, BW.out⟩
        · have hjz : ¬ (j : Int) < (t.length : Int) := by omega
          have he : j = t.length := by omega
          have HA2 : Hid (allTo (onceI t) t.length = true) := by show _ = _; have h := AJ.out; rw [he] at h; exact h
          clear he
          go_wp2
          go_ret
          refine ⟨?_, BW.out⟩
          have hd : decide ((t.length : Int) ≤ 12) = decide (t.length ≤ 12) := by
            by_cases h : t.length ≤ 12
            · rw [decide_eq_true h, decide_eq_true (by omega)]
            · rw [decide_eq_false h, decide_eq_false (by omega)]
          rw [HF.out, HS.out, HA2.out, Bool.true_and, Bool.true_and, ← hd]
          rfl
end Go.Proofs.Ytjieilicjdoaaaa
