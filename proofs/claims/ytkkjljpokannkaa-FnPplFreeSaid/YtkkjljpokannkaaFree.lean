/- Who does nothing: closures over active tasks, PplFree of the program and of the reference. -/
import Derived.Test.YtkkjljpokannkaaAny0
import Derived.Test.YtkkjljpokannkaaRecs
namespace Go.Proofs.Ytkkjljpokannkaa
open Go.RowKit

/-- A predicate on active tasks handed over as a function value. -/
def PredItem (g : Nat) (lb : Array Value) (p : GItem → Bool) (w : World) : Prop :=
  ∀ (W : World) (x : GItem), Below w.heap.size w W → Calls Try.prog g (#[.agg #[.int .i64 x.task, .int .i64 x.who, .int .i64 x.did]] ++ lb) W fun e w' => e = .returned (.bool (p x)) ∧ Below W.heap.size W w'

theorem indexFunc_item (g : Nat) (lb : Array Value) (p : GItem → Bool) (eg : ∀ args w, (callFunc g args).run Try.prog w = .ok (.enter g args) w)
    (A : Option Addr) (c : Nat) (xs : List GItem) (m : Option Nat) (w : World) (hp : PredItem g lb p w) (hx : Rows itemC m w w.heap.size A xs) :
    Calls Try.prog 183 #[.slice A xs.length c, .func (.func g) #[] lb] w fun e w' => (∃ r : Int, e = .returned (.int .i64 r) ∧ (decide (0 ≤ r) = xs.any p)) ∧ Below w.heap.size w w' := by
  have hlen := hx.1
  have HX := Lib.hid hx
  have HP := Lib.hid hp
  clear hx hp
  go_enter Try.func183, Try.ntmps183
  go_wp2
  go_loopg [5, 8] xs.length (fun gg _ s8 wr => ∃ k : Nat, k ≤ xs.length ∧ xs.length - k ≤ gg ∧ s8 = .int .i64 k ∧ Aside (Below w.heap.size w wr) ∧ Aside ((xs.take k).any p = false))
  case atStart => exact ⟨0, Nat.zero_le _, by omega, rfl, Below.refl _ w, by show ((xs.take 0).any p = false); simp⟩
  case round =>
    obtain ⟨k, hk, hg, rfl, BW, AN⟩ := hrel
    by_cases hlt : k < xs.length
    · have hltz : (k : Int) < (xs.length : Int) := by omega
      obtain ⟨b, off, rfl, hb, hc0, hc1, hc2⟩ := item_at HX.out hlt
      have hd0 := (BW.out.cell (p := ⟨b, off + k * 3, none⟩) hb).trans hc0
      have hd1 := (BW.out.cell (p := ⟨b, off + k * 3 + 1, none⟩) hb).trans hc1
      have hd2 := (BW.out.cell (p := ⟨b, off + k * 3 + 2, none⟩) hb).trans hc2
      clear hc0 hc1 hc2
      have hcall := HP.out wr xs[k] BW.out
      have HS := Lib.hid (any_split p xs k hlt AN.out)
      generalize xs[k] = y at hd0 hd1 hd2 hcall HS
      cases hq : p y with
      | true =>
        rw [hq] at hcall HS
        go_wp2_with (go_at_fn g; refine hcall.mono ?_; rintro e w' ⟨rfl, hb'⟩)
        go_ret
        refine ⟨⟨_, rfl, ?_⟩, BW.out.trans (hb'.mono BW.out.size)⟩
        have h1 : xs.any p = true := by
          rw [← List.take_append_drop (k + 1) xs, List.any_append, HS.out, Bool.true_or]
        rw [h1]; simp
      | false =>
        rw [hq] at hcall HS
        go_wp2_with (go_at_fn g; refine hcall.mono ?_; rintro e w' ⟨rfl, hb'⟩)
        go_roundg (xs.length - (k + 1))
        case measure => omega
        case rel => exact ⟨k + 1, by omega, by omega, by go_num, BW.out.trans (hb'.mono BW.out.size), HS.out⟩
    · have hltz : ¬ (k : Int) < (xs.length : Int) := by omega
      have he : k = xs.length := by omega
      have HE := Lib.hid he
      clear he
      go_wp2
      go_ret
      refine ⟨⟨_, rfl, ?_⟩, BW.out⟩
      have h1 := AN.out
      rw [HE.out, List.take_length] at h1
      rw [h1]; rfl

theorem containsFunc_item (g : Nat) (lb : Array Value) (p : GItem → Bool) (eg : ∀ args w, (callFunc g args).run Try.prog w = .ok (.enter g args) w)
    (A : Option Addr) (c : Nat) (xs : List GItem) (m : Option Nat) (w : World) (hp : PredItem g lb p w) (hx : Rows itemC m w w.heap.size A xs) :
    Calls Try.prog 101 #[.slice A xs.length c, .func (.func g) #[] lb] w fun e w' => e = .returned (.bool (xs.any p)) ∧ Below w.heap.size w w' := by
  have HI := Lib.hid (indexFunc_item g lb p eg A c xs m w hp hx)
  clear hp hx
  go_enter Try.func101, Try.ntmps101
  go_wp2_with (go_at_call 183; refine HI.out.mono ?_; rintro e w' ⟨⟨r, rfl, hr⟩, hb'⟩; have HR := Lib.hid hr; clear hr)
  go_ret
  exact ⟨by rw [← HR.out]; rfl, hb'⟩

/-- Whether somebody performs one of the active tasks. -/
def doing (bs : List GItem) (who : Int) : Bool := bs.any fun b => b.who == who

theorem free_pred2 (B2 : Nat) (who : Int) (w : World) (h2 : B2 < w.heap.size) (c2 : w.cell? ⟨B2, 0, none⟩ = some (.int .i64 who)) :
    PredItem 102 #[.pointer (some ⟨B2, 0, none⟩)] (fun b => b.who == who) w := by
  intro W x hb
  have d2 := (hb.cell (p := ⟨B2, 0, none⟩) h2).trans c2
  have hsz := hb.size
  clear c2
  show Calls Try.prog 102 #[.agg #[.int .i64 x.task, .int .i64 x.who, .int .i64 x.did], .pointer (some ⟨B2, 0, none⟩)] W _
  have d3 : ∀ o, (W.alloc o).cell? ⟨B2, 0, none⟩ = some (.int .i64 who) := fun o => by rw [World.cell?_alloc_lt W o ⟨B2, 0, none⟩ (by show B2 < _; omega)]; exact d2
  go_enter Try.func102, Try.ntmps102
  go_wp2
  go_ret
  exact ⟨rfl, by go_grown⟩

theorem free_pred (B1 : Nat) (A : Option Addr) (c : Nat) (bs : List GItem) (m : Option Nat) (w : World) (h1 : B1 < w.heap.size) (c1 : w.cell? ⟨B1, 0, none⟩ = some (.slice A bs.length c)) (hx : Rows itemC m w w.heap.size A bs) :
    PredInt 100 #[.pointer (some ⟨B1, 0, none⟩)] (fun who => !doing bs who) w := by
  intro W x hb
  have eg : ∀ args w, (callFunc 102 args).run Try.prog w = .ok (.enter 102 args) w := enters_of Try.func102 (by kernel_rfl) rfl
  have d1 := (hb.cell (p := ⟨B1, 0, none⟩) h1).trans c1
  have d3 : ∀ o, (W.alloc o).cell? ⟨B1, 0, none⟩ = some (.slice A bs.length c) := fun o => by rw [World.cell?_alloc_lt W o ⟨B1, 0, none⟩ (by have := hb.size; show B1 < _; omega)]; exact d1
  have HX := Lib.hid (hx.later hb)
  clear c1 hx
  show Calls Try.prog 100 #[.int .i64 x, .pointer (some ⟨B1, 0, none⟩)] W _
  go_enter Try.func100, Try.ntmps100
  go_wp2_with fail
  refine callsAt fun V hV => ?_
  have hBV : Below W.heap.size W V := by rw [hV]; go_grown
  have hc : V.cell? ⟨W.heap.size, 0, none⟩ = some (.int .i64 x) := by rw [hV]; simp
  have hs : W.heap.size < V.heap.size := by rw [hV]; simp
  clear hV
  refine (containsFunc_item _ _ _ eg A c bs m V (free_pred2 W.heap.size x V hs hc) (HX.out.later hBV)).mono ?_
  rintro e w' ⟨rfl, hb'⟩
  have HB := Lib.hid (hBV.trans (hb'.mono hBV.size))
  clear hb' hBV hc hs
  go_wp2
  go_ret
  exact ⟨rfl, HB.out⟩

theorem impl_PplFree (A A' : Option Addr) (c c' : Nat) (xs : List Int) (bs : List GItem) (m : Option Nat) (w : World) (hx : Ints w w.heap.size A xs) (hb : Rows itemC m w w.heap.size A' bs) :
    Calls Try.prog 18 #[.slice A xs.length c, .slice A' bs.length c'] w (GivesInts (personsOf xs fun who => !doing bs who) w) := by
  have eg : ∀ args w, (callFunc 100 args).run Try.prog w = .ok (.enter 100 args) w := enters_of Try.func100 (by kernel_rfl) rfl
  have HX := Lib.hid hx
  have HY := Lib.hid hb
  clear hx hb
  go_enter Try.func18, Try.ntmps18
  go_wp2_with fail
  refine callsAt fun W hW => ?_
  have hBW : Below w.heap.size w W := by rw [hW]; go_grown
  have hc1 : W.cell? ⟨w.heap.size, 0, none⟩ = some (.slice A' bs.length c') := by rw [hW]; simp
  have hsz : w.heap.size < W.heap.size := by rw [hW]; simp
  clear hW
  refine (impl_persons 100 _ _ eg A c xs W (free_pred w.heap.size A' c' bs m W hsz hc1 (HY.out.later hBW)) (HX.out.later hBW)).mono ?_
  rintro e w' ⟨v, rfl, hv, hb⟩
  have HV := Lib.hid hv
  have HB := Lib.hid (hBW.trans (hb.mono hBW.size))
  clear hv hb hc1
  obtain ⟨A2, c2, hv', _⟩ := HV.out.form
  subst hv'
  go_wp2
  go_ret
  exact ⟨_, rfl, HV.out.low (by omega), HB.out⟩
set_option maxHeartbeats 1000000 in
theorem spec_PplFree (A A' : Option Addr) (c c' : Nat) (xs : List Int) (bs : List GItem) (m : Option Nat) (w : World) (hx : Ints w w.heap.size A xs) (hb : Rows itemC m w w.heap.size A' bs) :
    Calls Try.prog 20 #[.slice A xs.length c, .slice A' bs.length c'] w (GivesInts (personsOf xs fun who => !doing bs who) w) := by
  have hlen := hx.1
  have hlb := hb.1
  have HX := Lib.hid hx
  have HY := Lib.hid hb
  clear hx hb
  cases hok : pplOk xs with
  | false =>
    have HF : Hid (personsOf xs (fun who => !doing bs who) = []) := by show _ = _; simp [personsOf, hok]
    by_cases h0 : xs.length = 0
    · have t1 : ¬ (1 : Int) ≤ (xs.length : Int) := by omega
      have d1 : decide ((1 : Int) ≤ (xs.length : Int)) = false := by simpa using t1
      go_enter Try.func20, Try.ntmps20
      go_wp2
      generalize hW : w.alloc _ = W
      have HB : Hid (Below w.heap.size w W) := by show Below _ _ _; rw [← hW]; exact (Below.refl _ w).alloc (Nat.le_refl _) _
      have HO : Hid (OwnV W w.heap.size (.slice (some ⟨w.heap.size, 0, none⟩) 0 0) []) := by
        show OwnV _ _ _ _
        rw [← hW]
        exact World.ownsRow_made w #[] 0 (Nat.le_refl _) (by simp [maxLen]) rfl
      clear hW
      go_rounds 1
      go_ret
      exact ⟨_, rfl, by rw [HF.out]; exact HO.out, HB.out⟩
    · have t1 : (1 : Int) ≤ (xs.length : Int) := by omega
      clear h0
      go_enter Try.func20, Try.ntmps20
      go_wp2
      generalize hW : w.alloc _ = W
      have HB : Hid (Below w.heap.size w W) := by show Below _ _ _; rw [← hW]; exact (Below.refl _ w).alloc (Nat.le_refl _) _
      have HO : Hid (OwnV W w.heap.size (.slice (some ⟨w.heap.size, 0, none⟩) 0 0) []) := by
        show OwnV _ _ _ _
        rw [← hW]
        exact World.ownsRow_made w #[] 0 (Nat.le_refl _) (by simp [maxLen]) rfl
      clear hW
      refine wp_loop_rounds 1 ?_
      rw [rounds_succ]
      go_wp2_with (go_at_call 21; refine (spec_PplOk _ _ xs _ w.heap.size (HX.out.below HB.out)).mono ?_; rintro e w1 ⟨rfl, rfl⟩)
      go_ret
      exact ⟨_, rfl, by rw [HF.out]; exact HO.out, HB.out⟩
  | true =>
    have HF : Hid (personsOf xs (fun who => !doing bs who) = personsTo (fun who => !doing bs who) xs.length) := by show _ = _; simp [personsOf, hok]
    have hl4 := (pplOk_bounds hok).2.1
    go_enter Try.func20, Try.ntmps20
    go_wp2
    generalize hW : w.alloc _ = W
    have HB : Hid (Below w.heap.size w W) := by show Below _ _ _; rw [← hW]; exact (Below.refl _ w).alloc (Nat.le_refl _) _
    have HO : Hid (OwnV W w.heap.size (.slice (some ⟨w.heap.size, 0, none⟩) 0 0) []) := by
      show OwnV _ _ _ _
      rw [← hW]
      exact World.ownsRow_made w #[] 0 (Nat.le_refl _) (by simp [maxLen]) rfl
    clear hW
    go_loopg [5, 6, 7, 8] xs.length (fun gg s5 s6 _ _ wr => ∃ k : Nat, k ≤ xs.length ∧ xs.length - k ≤ gg ∧ s6 = .int .i64 ((k : Int) + 1) ∧ Aside (Below w.heap.size w wr) ∧ Aside (OwnV wr w.heap.size s5 (personsTo (fun who => !doing bs who) k)))
    case atStart => exact ⟨0, Nat.zero_le _, by omega, by simp, HB.out, HO.out⟩
    case round =>
      obtain ⟨k, hk, hg, rfl, BW, OW⟩ := hrel
      have hpl := personsTo_len (fun who => !doing bs who) k
      by_cases hlt : k < xs.length
      · have t1 : ((k : Int) + 1) ≤ (xs.length : Int) := by omega
        go_wp2_with (go_at_call 21; refine (spec_PplOk _ _ xs _ w.heap.size (HX.out.below BW.out)).mono ?_; rintro e w1 ⟨rfl, rfl⟩)
        obtain ⟨wo, hwo⟩ : ∃ wo : World, wo = wr := ⟨_, rfl⟩
        subst hwo
        go_loopg [7, 8] bs.length (fun g2 s7 s8 wi => ∃ j : Nat, j ≤ bs.length ∧ bs.length - j ≤ g2 ∧ s8 = .int .i64 j ∧ s7 = .bool (doing (bs.take j) ((k : Int) + 1)) ∧ Aside (wo = wi))
        case atStart => exact ⟨0, Nat.zero_le _, by omega, rfl, by simp [doing], rfl⟩
        case round =>
          obtain ⟨j, hj, hg2, rfl, rfl, EW⟩ := hrel
          obtain rfl := EW.out
          by_cases hjl : j < bs.length
          · have hjz : (j : Int) < (bs.length : Int) := by omega
            obtain ⟨b, off, rfl, hbB, _, hc0, _⟩ := item_at HY.out hjl
            have hc := (BW.out.cell (p := ⟨b, off + j * 3 + 1, none⟩) hbB).trans hc0
            clear hc0
            have HS : Hid (doing (bs.take (j + 1)) ((k : Int) + 1) = (doing (bs.take j) ((k : Int) + 1) || (bs[j].who == (k : Int) + 1))) := by
              show _ = _
              unfold doing
              rw [List.take_succ_eq_append_getElem hjl, List.any_append]
              simp
            generalize bs[j] = y at hc HS
            cases hd : doing (bs.take j) ((k : Int) + 1) with
            | true =>
              rw [hd] at HS
              go_wp2
              go_roundg (bs.length - (j + 1))
              case measure => omega
              case rel => exact ⟨j + 1, by omega, by omega, by go_num, by rw [HS.out]; rfl, rfl⟩
            | false =>
              rw [hd] at HS
              go_wp2
              go_roundg (bs.length - (j + 1))
              case measure => omega
              case rel => exact ⟨j + 1, by omega, by omega, by go_num, by rw [HS.out]; rfl, rfl⟩
          · have hjz : ¬ (j : Int) < (bs.length : Int) := by omega
            have he : j = bs.length := by omega
            subst he
            rw [List.take_length]
            cases hq : doing bs ((k : Int) + 1) with
            | true =>
              have HE := Lib.hid (personsTo_no (p := fun who => !doing bs who) (k := k) (by simp [hq]))
              go_wp2
              go_roundg (xs.length - (k + 1))
              case measure => omega
              case rel => exact ⟨k + 1, by omega, by omega, by go_num, BW.out, by show OwnV _ _ _ _; rw [HE.out]; exact OW.out⟩
            | false =>
              have HE := Lib.hid (personsTo_yes (p := fun who => !doing bs who) (k := k) (by simp [hq]))
              go_wp2_with (at_builtin; refine append_int rfl (.tmp 38) (.tmp 40) rfl w.heap.size _ _ rfl (OW.out.alloc _) wo.heap.size ((k : Int) + 1) rfl (by simp) (by omega) (by have := BW.out.size; simp; omega) ?_; intro v' w2 hown2 hb2; have HO2 := Lib.hid hown2; have HB2 := Lib.hid hb2; clear hown2 hb2)
              go_roundg (xs.length - (k + 1))
              case measure => omega
              case rel => exact ⟨k + 1, by omega, by omega, by go_num, (BW.out.alloc BW.out.size _).trans HB2.out, by show OwnV _ _ _ _; rw [HE.out]; exact HO2.out⟩
      · have he : k = xs.length := by omega
        have HE := Lib.hid he
        have t1 : ¬ ((k : Int) + 1) ≤ (xs.length : Int) := by omega
        have d1 : decide (((k : Int) + 1) ≤ (xs.length : Int)) = false := by simpa using t1
        clear he
        go_wp2
        go_ret
        exact ⟨_, rfl, by rw [HF.out, ← HE.out]; exact OW.out, BW.out⟩
end Go.Proofs.Ytkkjljpokannkaa
