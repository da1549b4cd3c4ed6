/- The reference's RdrDepth. -/
import Derived.Test.YtnnhhmdeoedmmaaDepthI
import Derived.Test.YtnnhhmdeoedmmaaApp
namespace Go.Proofs.Ytnnhhmdeoedmmaa
open Go.RowKit

theorem dep_at {t : List GRule} (h : treeOk t = true) {i : Nat} (hi : i < t.length) : dep t t.length (i : Int) = 1 + max (dep t t.length t[i].yes) (dep t t.length t[i].no) := by
  obtain ⟨hy, hn⟩ := kids h hi
  rw [rule_get hi] at hy hn
  have h1 := dep_same h t.length (t.length + 1) i (i : Int) (.inr ⟨by omega, by omega⟩) (by omega) (by omega)
  rw [h1, dep_succ t t.length (by omega), rule_get hi]
theorem dep_some {t : List GRule} (h : treeOk t = true) {i : Nat} (hi : i < t.length) : 1 ≤ dep t t.length (i : Int) := by
  rw [dep_at h hi]; omega

/-- While rule i is looked at: v is what its cell holds. -/
def midF (t : List GRule) (i v : Nat) (j : Nat) : Nat := if j = i then v else if i + 1 ≤ j then dep t t.length (j : Int) else 1
/-- The reference's row: from k on it holds the depths. -/
def deepF (t : List GRule) (k : Nat) (j : Nat) : Nat := if k ≤ j then dep t t.length (j : Int) else 1
theorem kid_split {t : List GRule} {i : Nat} {y : Int} (h : posOk t (i + 1) y) : y = -1 ∨ ∃ j : Nat, y = j ∧ i + 1 ≤ j ∧ j < t.length := by
  rcases h with h | ⟨h1, h2⟩
  · exact .inl h
  · exact .inr ⟨y.toNat, by omega, by omega, by omega⟩
theorem replicate_map (n : Nat) : List.replicate n (1 : Int) = (List.range n).map fun _ => ((1 : Nat) : Int) := by
  apply List.ext_getElem?
  intro i
  by_cases h : i < n
  · simp [h]
  · rw [List.getElem?_eq_none (by simp; omega), List.getElem?_eq_none (by simp; omega)]

set_option maxRecDepth 100000 in
set_option maxHeartbeats 4000000 in
theorem spec_RdrDepth (A : Option Addr) (c : Nat) (t : List GRule) (m : Option Nat) (w : World) (hx : Rows ruleC m w w.heap.size A t) :
    Calls Try.prog 23 #[.slice A t.length c] w (Says (.int .i64 (rdrDepth t : Nat)) w) := by
  have HX := Lib.hid hx
  have hrl := hx.1
  clear hx
  go_enter Try.func23, Try.ntmps23
  go_wp2_with fail
  refine (spec_RdrOk A c t m w HX.out).mono ?_
  rintro e w1 ⟨rfl, hb1⟩
  have B1 := Lib.hid hb1
  clear hb1
  cases q1 : treeOk t with
  | false =>
    have HW : Hid (rdrDepth t = 0) := by show _ = _; unfold rdrDepth; rw [q1]; rfl
    go_wp2
    go_ret
    exact ⟨by rw [HW.out]; rfl, B1.out⟩
  | true =>
    have HW : Hid (rdrDepth t = dep t t.length 0) := by show _ = _; unfold rdrDepth; rw [q1]; rfl
    have HOK := Lib.hid q1
    have H12 := Lib.hid (treeOk_len q1)
    clear q1
    go_wp2
    generalize hW : w1.alloc _ = W
    have HB : Hid (Below w.heap.size w W) := by show Below _ _ _; rw [← hW]; exact B1.out.alloc B1.out.size _
    have HO : Hid (OwnV W w1.heap.size (.slice (some ⟨w1.heap.size, 0, none⟩) 0 0) []) := by
      show OwnV _ _ _ _
      rw [← hW]
      exact World.ownsRow_made w1 #[] 0 (Nat.le_refl _) (by simp [maxLen]) rfl
    have s1 := B1.out.size
    have sW : w1.heap.size ≤ W.heap.size := by rw [← hW]; simp
    clear hW
    go_loopg [3, 4] t.length (fun gg s3 s4 wr => ∃ k : Nat, k ≤ t.length ∧ t.length - k ≤ gg ∧ s4 = .int .i64 k ∧ Aside (OwnV wr w1.heap.size s3 (List.replicate k 1)) ∧ Aside (Below w.heap.size w wr) ∧ Aside (w1.heap.size ≤ wr.heap.size))
    case atStart => exact ⟨0, Nat.zero_le _, by omega, rfl, HO.out, HB.out, sW⟩
    case round =>
      obtain ⟨k, hk, hg, rfl, OW, BW, SW⟩ := hrel
      have hrep : (List.replicate k (1 : Int)).length = k := by simp
      by_cases hlt : k < t.length
      · have hltz : (k : Int) < (t.length : Int) := by omega
        have HS : Hid (List.replicate (k + 1) (1 : Int) = List.replicate k 1 ++ [1]) := by show _ = _; rw [List.replicate_succ']
        go_wp2_with (at_builtin; refine append_int rfl (.tmp 16) (.tmp 17) rfl w1.heap.size _ _ rfl (OW.out.alloc _) wr.heap.size (1 : Int) rfl (by simp) (by have := H12.out; omega) (by have := SW.out; simp only [World.size_alloc]; omega) ?_; intro v' w2 hown2 hb2; have HO2 := Lib.hid hown2; have HB2 := Lib.hid hb2; clear hown2 hb2)
        go_roundg (t.length - (k + 1))
        case measure => omega
        case rel => exact ⟨k + 1, by omega, by omega, by go_num, by show OwnV _ _ _ _; rw [HS.out]; exact HO2.out, (BW.out.alloc BW.out.size _).trans (HB2.out.mono s1), Nat.le_trans SW.out (Nat.le_trans (by simp) HB2.out.size)⟩
      · have hltz : ¬ (k : Int) < (t.length : Int) := by omega
        have he : k = t.length := by omega
        subst he
        obtain ⟨G, cg, rfl, hg2⟩ := OW.out.form
        have HG := Lib.hid hg2
        clear hg2 OW
        rw [hrep]
        clear hrep
        by_cases h0 : t.length = 0
        · have HW2 : Hid (rdrDepth t = 0) := by show _ = _; rw [HW.out, h0]; rfl
          have hz0 : ((t.length : Int) == 0) = true := by simp [h0]
          have hz1 : ¬ (0 : Int) ≤ (t.length : Int) - 1 := by omega
          clear h0
          go_wp2
          go_rounds 1
          go_ret
          exact ⟨by rw [HW2.out]; rfl, BW.out⟩
        · obtain ⟨g, rfl, hgb, hw⟩ := HG.out (by simp; omega)
          have HC : Hid (Cnt wr g t.length (deepF t t.length)) := by
            show Cnt _ _ _ _
            unfold Cnt
            have he : ((List.range t.length).map fun j => (deepF t t.length j : Int)) = List.replicate t.length 1 := by
              rw [replicate_map]
              apply List.map_congr_left
              intro j hj
              have := List.mem_range.1 hj
              unfold deepF
              rw [if_neg (by omega)]
            rw [he]
            exact hw
          have hzf : ((t.length : Int) == 0) = false := by rw [beq_eq_false_iff_ne]; omega
          have hpos : 0 < t.length := by omega
          clear hw HG hltz hlt
          go_wp2
          clear hzf
          go_loopg [5] t.length (fun gg s5 wi => ∃ k : Nat, k ≤ t.length ∧ k ≤ gg ∧ s5 = .int .i64 ((k : Int) - 1) ∧ Aside (Cnt wi g t.length (deepF t k)) ∧ Aside (Below w.heap.size w wi))
          case atStart => exact ⟨t.length, Nat.le_refl _, Nat.le_refl _, rfl, HC.out, BW.out⟩
          case round =>
            obtain ⟨k, hk, hg2, rfl, CW, BI⟩ := hrel
            rcases Nat.eq_zero_or_pos k with h0 | h0
            · subst h0
              have hz1 : ¬ (0 : Int) ≤ ((0 : Nat) : Int) - 1 := by omega
              have hz2 : (0 : Int) < (t.length : Int) := by omega
              have hzf : ((t.length : Int) == 0) = false := by rw [beq_eq_false_iff_ne]; omega
              have hc := CW.out.get hpos
              have HE : Hid (deepF t 0 0 = dep t t.length 0) := rfl
              generalize deepF t 0 0 = v at hc HE
              go_wp2
              go_ret
              exact ⟨by rw [HW.out, ← HE.out]; rfl, BI.out⟩
            · obtain ⟨i, rfl⟩ : ∃ i, k = i + 1 := ⟨k - 1, by omega⟩
              have hil : i < t.length := by omega
              have hiz : (i : Int) < (t.length : Int) := by omega
              have hi0 : (0 : Int) ≤ (i : Int) := by omega
              have he1 : ((i + 1 : Nat) : Int) - 1 = (i : Int) := by omega
              rw [he1]
              obtain ⟨ky, kn⟩ := kids HOK.out hil
              rw [rule_get hil] at ky kn
              have HD := Lib.hid (dep_at HOK.out hil)
              have hble := dep_bound t t.length
              have hci : Hid (wr.cell? ⟨g, i, none⟩ = some (.int .i64 1)) := by
                show _ = _
                have := CW.out.get hil
                rw [this]
                unfold deepF
                rw [if_neg (by omega)]; rfl
              have hcj : Hid (∀ j : Nat, i + 1 ≤ j → j < t.length → wr.cell? ⟨g, j, none⟩ = some (.int .i64 (dep t t.length (j : Int) : Nat))) := fun j h1 h2 => by
                have := CW.out.get h2
                rw [this]
                unfold deepF
                rw [if_pos h1]
              obtain ⟨b, off, A1, c1, rfl, hb, hr, hd0, hd1, hd2, hd3, hd4, hd5, hd6⟩ := rule_at (HX.out.below BI.out) hil
              clear hr hd0 hd1 hd2 hd5 hd6
              have hgw : w.heap.size ≤ g := by omega
              have HSET : Hid (∀ (V : World) (v v' : Nat) (z : Int), Cnt V g t.length (midF t i v) → z = v' → Cnt (V.setCell ⟨g, i, none⟩ (.int .i64 z)) g t.length (midF t i v')) := fun V v v' z hV hz => hV.set hil z (by unfold midF; rw [if_pos rfl]; exact hz) fun j hj => by
                unfold midF
                rw [if_neg hj, if_neg hj]
              have HM1 : Hid (deepF t (i + 1) = midF t i 1) := by
                show _ = _
                funext j
                unfold deepF midF
                by_cases hj : j = i
                · rw [if_pos hj, if_neg (by omega)]
                · rw [if_neg hj]
              have HM2 : Hid (midF t i (1 + max (dep t t.length t[i].yes) (dep t t.length t[i].no)) = deepF t i) := by
                show _ = _
                funext j
                unfold deepF midF
                by_cases hj : j = i
                · subst hj
                  rw [if_pos rfl, if_pos (Nat.le_refl _), HD.out]
                · rw [if_neg hj]
                  by_cases h1 : i ≤ j
                  · rw [if_pos h1, if_pos (by omega)]
                  · rw [if_neg h1, if_neg (by omega)]
              have HCJ : Hid (∀ (V : World) (v : Nat) (j : Nat), Cnt V g t.length (midF t i v) → i + 1 ≤ j → j < t.length → V.cell? ⟨g, j, none⟩ = some (.int .i64 (dep t t.length (j : Int) : Nat)) ∧ V.cell? ⟨g, i, none⟩ = some (.int .i64 (v : Nat)) ∧ 1 ≤ dep t t.length (j : Int) ∧ dep t t.length (j : Int) ≤ 12) := fun V v j hV h1 h2 => by
                have a1 := hV.get h2
                have a2 := hV.get hil
                unfold midF at a1 a2
                rw [if_neg (by omega), if_pos h1] at a1
                rw [if_pos rfl] at a2
                have := H12.out
                have := hble (j : Int)
                exact ⟨a1, a2, dep_some HOK.out h2, by omega⟩
              have C1 : Hid (Cnt wr g t.length (midF t i 1)) := by show Cnt _ _ _ _; rw [← HM1.out]; exact CW.out
              clear hci hcj CW HM1 HD hble
              generalize t[i] = y at hd3 hd4 HM2 ky kn
              obtain ⟨yask, yyes, yno, yans, yst⟩ := y
              dsimp only at hd3 hd4 HM2 ky kn
              go_upto_region 11 with fail
              go_cut [47] from 26 to 93 (fun s47 wx => s47 = .bool (!decide (yyes = -1)) ∧ Aside (∃ n, wx = wr.drewN n))
              case first =>
                rcases kid_split ky with rfl | ⟨j, rfl, hj1, hj2⟩
                · go_wp2
                  go_quiet (fail)
                  go_wp2
                  go_meet
                  case rel => exact ⟨rfl, _, rfl⟩
                · obtain ⟨e1, e2, e3, e4⟩ := HCJ.out wr 1 j C1.out hj1 hj2
                  have b1 : ((j : Int) != -1) = true := by simp
                  have b2 : decide ((j : Int) = -1) = false := by simp
                  have hjz : (j : Int) < (t.length : Int) := by omega
                  have b3 : (1 : Int) < (dep t t.length (j : Int) : Int) + 1 := by omega
                  go_wp2
                  go_quiet (fail)
                  go_wp2
                  go_meet
                  case rel => exact ⟨by rw [b2]; rfl, _, rfl⟩
              case rest =>
                obtain ⟨rfl, hwc⟩ := hcut
                obtain ⟨n1, rfl⟩ := hwc.out
                have e3 : (wr.drewN n1).cell? ⟨b, off + i * 7 + 3, none⟩ = some (.int .i64 yyes) := hd3
                have e4 : (wr.drewN n1).cell? ⟨b, off + i * 7 + 4, none⟩ = some (.int .i64 yno) := hd4
                have C2 : Hid (Cnt (wr.drewN n1) g t.length (midF t i 1)) := C1.out
                have BI2 : Hid (Below w.heap.size w (wr.drewN n1)) := bdN BI.out _
                clear hd3 hd4 C1 BI hwc
                generalize wr.drewN n1 = V at e3 e4 C2 BI2 ⊢
                go_upto_if 47 with fail
                go_cut [] from 48 to 93 (fun wx => Aside (Cnt wx g t.length (midF t i (1 + dep t t.length yyes))) ∧ Aside (Below w.heap.size w wx))
                case first =>
                  rcases kid_split ky with rfl | ⟨j, rfl, hj1, hj2⟩
                  · go_wp2
                    go_meet
                    case rel => exact ⟨by rw [dep_none]; exact C2.out, BI2.out⟩
                  · obtain ⟨a1, a2, a3, a4⟩ := HCJ.out V 1 j C2.out hj1 hj2
                    have b2 : decide ((j : Int) = -1) = false := by simp
                    have hjz : (j : Int) < (t.length : Int) := by omega
                    have hfr := C2.out.frozen i
                    have HS := Lib.hid (HSET.out V 1 (1 + dep t t.length (j : Int)) ((dep t t.length (j : Int) : Nat) + 1) C2.out (by omega))
                    have HBS := Lib.hid (BI2.out.setCell (p := ⟨g, i, none⟩) hgw (.int .i64 ((dep t t.length (j : Int) : Nat) + 1)))
                    go_wp2
                    go_meet
                    case rel => exact ⟨HS.out, HBS.out⟩
                case rest =>
                  obtain ⟨CC, BC⟩ := hcut
                  have e5 := (BC.out.cell (p := ⟨b, off + i * 7 + 4, none⟩) hb).trans ((BI2.out.cell (p := ⟨b, off + i * 7 + 4, none⟩) hb).symm.trans e4)
                  have hdy : dep t t.length yyes ≤ 12 := by
                    have := dep_bound t t.length yyes
                    have := H12.out
                    omega
                  clear e3 e4 C2 BI2
                  generalize hDY : dep t t.length yyes = dy at hdy CC HM2
                  go_upto_region 13 with fail
                  go_cut [81] from 60 to 93 (fun s81 wx => s81 = .bool (decide (dy < dep t t.length yno)) ∧ Aside (∃ n, wx = wc.drewN n))
                  case first =>
                    rcases kid_split kn with rfl | ⟨j, rfl, hj1, hj2⟩
                    · go_wp2
                      go_quiet (fail)
                      go_wp2
                      go_meet
                      case rel => exact ⟨by rw [dep_none]; rfl, _, rfl⟩
                    · obtain ⟨a1, a2, a3, a4⟩ := HCJ.out wc (1 + dy) j CC.out hj1 hj2
                      have b1 : ((j : Int) != -1) = true := by simp
                      have hjz : (j : Int) < (t.length : Int) := by omega
                      by_cases hvd : dy < dep t t.length (j : Int)
                      · have b3 : (1 : Int) + (dy : Int) < (dep t t.length (j : Int) : Int) + 1 := by omega
                        have HDV := Lib.hid (decide_eq_true hvd)
                        clear hvd
                        go_wp2
                        go_quiet (fail)
                        go_wp2
                        go_meet
                        case rel => exact ⟨by rw [HDV.out], _, rfl⟩
                      · have b3 : ¬ (1 : Int) + (dy : Int) < (dep t t.length (j : Int) : Int) + 1 := by omega
                        have HDV := Lib.hid (decide_eq_false hvd)
                        clear hvd
                        go_wp2
                        go_quiet (fail)
                        go_wp2
                        go_meet
                        case rel => exact ⟨by rw [HDV.out, decide_eq_false (by omega)], _, rfl⟩
                  case rest =>
                    obtain ⟨rfl, hwc⟩ := hcut
                    obtain ⟨n2, rfl⟩ := hwc.out
                    have e6 : (wc.drewN n2).cell? ⟨b, off + i * 7 + 4, none⟩ = some (.int .i64 yno) := e5
                    have C3 : Hid (Cnt (wc.drewN n2) g t.length (midF t i (1 + dy))) := CC.out
                    have BI3 : Hid (Below w.heap.size w (wc.drewN n2)) := bdN BC.out _
                    clear e5 CC BC hwc
                    generalize wc.drewN n2 = V2 at e6 C3 BI3 ⊢
                    by_cases hvd : dy < dep t t.length yno
                    · have HDV := Lib.hid (decide_eq_true hvd)
                      rcases kid_split kn with rfl | ⟨j, rfl, hj1, hj2⟩
                      · rw [dep_none] at hvd; omega
                      · obtain ⟨a1, a2, a3, a4⟩ := HCJ.out V2 (1 + dy) j C3.out hj1 hj2
                        have hjz : (j : Int) < (t.length : Int) := by omega
                        have hfr := C3.out.frozen i
                        have HS := Lib.hid (HSET.out V2 (1 + dy) (1 + max dy (dep t t.length (j : Int))) ((dep t t.length (j : Int) : Nat) + 1) C3.out (by omega))
                        have HBS := Lib.hid (BI3.out.setCell (p := ⟨g, i, none⟩) hgw (.int .i64 ((dep t t.length (j : Int) : Nat) + 1)))
                        rw [HM2.out] at HS
                        rw [HDV.out]
                        generalize dep t t.length (j : Int) = v at a1 a3 a4 HS HBS
                        clear hvd HM2
                        go_wp2
                        go_roundg i
                        case measure => omega
                        case rel => exact ⟨i, by omega, by omega, rfl, HS.out, HBS.out⟩
                    · have HDV := Lib.hid (decide_eq_false hvd)
                      have HE : Hid (1 + max dy (dep t t.length yno) = 1 + dy) := by show _ = _; omega
                      rw [HE.out] at HM2
                      have HS : Hid (Cnt V2 g t.length (deepF t i)) := by show Cnt _ _ _ _; rw [← HM2.out]; exact C3.out
                      rw [HDV.out]
                      clear hvd HM2 HE
                      go_wp2
                      go_roundg i
                      case measure => omega
                      case rel => exact ⟨i, by omega, by omega, rfl, HS.out, BI3.out⟩
end Go.Proofs.Ytnnhhmdeoedmmaa
