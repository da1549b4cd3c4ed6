/- EngOk and EngNew of the program, of houses without rules and cases. -/
import Derived.Test.YtkkjljpokannkaaEngI
import Derived.Test.YtkkjljpokannkaaNetOk
namespace Go.Proofs.Ytkkjljpokannkaa
open Go.RowKit
set_option linter.unusedSimpArgs false
set_option linter.unusedVariables false

/-- A test of nets handed over as a function value: in every later world it answers p x and leaves what lay as it was. -/
def PredNet (g : Nat) (lb : Array Value) (p : GNet → Bool) (w : World) : Prop :=
  ∀ (W : World) (x : GNet) (cs : List Value) (m : Option Nat), Below w.heap.size w W → netC.R m W W.heap.size x cs → Calls Try.prog g (#[.agg cs.toArray] ++ lb) W fun e w' => e = .returned (.bool (p x)) ∧ Below W.heap.size W w'

set_option maxHeartbeats 1000000 in
theorem indexFunc_net (g : Nat) (lb : Array Value) (p : GNet → Bool) (eg : ∀ args w, (callFunc g args).run Try.prog w = .ok (.enter g args) w)
    (A : Option Addr) (c : Nat) (xs : List GNet) (m : Option Nat) (w : World) (hp : PredNet g lb p w) (hx : Rows netC m w w.heap.size A xs) :
    Calls Try.prog 208 #[.slice A xs.length c, .func (.func g) #[] lb] w fun e w' => (∃ r : Int, e = .returned (.int .i64 r) ∧ (decide (0 ≤ r) = xs.any p)) ∧ Below w.heap.size w w' := by
  have hlen := hx.1
  have HX := Lib.hid hx
  have HP := Lib.hid hp
  clear hx hp
  go_enter Try.func208, Try.ntmps208
  go_wp2
  go_loopg [5, 8] xs.length (fun gg _ s8 wr => ∃ k : Nat, k ≤ xs.length ∧ xs.length - k ≤ gg ∧ s8 = .int .i64 k ∧ Aside (Below w.heap.size w wr) ∧ Aside ((xs.take k).any p = false))
  case atStart => exact ⟨0, Nat.zero_le _, by omega, rfl, Below.refl _ w, by show ((xs.take 0).any p = false); simp⟩
  case round =>
    obtain ⟨k, hk, hg, rfl, BW, AN⟩ := hrel
    by_cases hlt : k < xs.length
    · have hltz : (k : Int) < (xs.length : Int) := by omega
      obtain ⟨b, off, A1, c1, rfl, hb, hR, d0, d1⟩ := net_at (HX.out.later BW.out) hlt
      have hcall := HP.out wr xs[k] _ m BW.out ⟨A1, c1, rfl, hR⟩
      have HS := Lib.hid (any_split p xs k hlt AN.out)
      clear hR
      generalize xs[k] = y at d0 d1 hcall HS
      cases hq : p y with
      | true =>
        rw [hq] at hcall HS
        go_wp2_with (go_at_fn g; refine hcall.mono ?_; rintro e w' ⟨rfl, hb'⟩)
        go_ret
        refine ⟨⟨_, rfl, ?_⟩, BW.out.trans (hb'.mono BW.out.size)⟩
        have h1 : xs.any p = true := by
          rw [← List.take_append_drop (k + 1) xs, List.any_append, HS.out, Bool.true_or]
        rw [h1]; simp
      | false =>
        rw [hq] at hcall HS
        go_wp2_with (go_at_fn g; refine hcall.mono ?_; rintro e w' ⟨rfl, hb'⟩)
        go_roundg (xs.length - (k + 1))
        case measure => omega
        case rel => exact ⟨k + 1, by omega, by omega, by go_num, BW.out.trans (hb'.mono BW.out.size), HS.out⟩
    · have hltz : ¬ (k : Int) < (xs.length : Int) := by omega
      have he : k = xs.length := by omega
      have HE := Lib.hid he
      clear he
      go_wp2
      go_ret
      refine ⟨⟨_, rfl, ?_⟩, BW.out⟩
      have h1 := AN.out
      rw [HE.out, List.take_length] at h1
      rw [h1]; simp
theorem containsFunc_net (g : Nat) (lb : Array Value) (p : GNet → Bool) (eg : ∀ args w, (callFunc g args).run Try.prog w = .ok (.enter g args) w)
    (A : Option Addr) (c : Nat) (xs : List GNet) (m : Option Nat) (w : World) (hp : PredNet g lb p w) (hx : Rows netC m w w.heap.size A xs) :
    Calls Try.prog 159 #[.slice A xs.length c, .func (.func g) #[] lb] w fun e w' => e = .returned (.bool (xs.any p)) ∧ Below w.heap.size w w' := by
  have HI := Lib.hid (indexFunc_net g lb p eg A c xs m w hp hx)
  clear hp hx
  go_enter Try.func159, Try.ntmps159
  go_wp2_with (go_at_call 208; refine HI.out.mono ?_; rintro e w' ⟨⟨r, rfl, hr⟩, hb'⟩; have HR := Lib.hid hr; clear hr)
  go_ret
  exact ⟨by rw [← HR.out]; rfl, hb'⟩
theorem engOk_pred (w : World) : PredNet 160 #[] (fun n => !netOk n) w := by
  intro W x cs m hb hx
  obtain ⟨A1, c1, rfl, hR⟩ := hx
  have HR := Lib.hid hR
  clear hR hb
  show Calls Try.prog 160 #[.agg #[.int .i64 x.places, .slice A1 x.tasks.length c1]] W _
  go_enter Try.func160, Try.ntmps160
  go_wp2_with fail
  refine callsAt fun V hV => ?_
  have hBV : Below W.heap.size W V := by rw [hV]; go_grown
  clear hV
  refine (impl_NetOk x _ m V ⟨A1, c1, rfl, HR.out.later hBV⟩).mono ?_
  rintro e w2 ⟨rfl, hb2⟩
  have HB := Lib.hid (hBV.trans (hb2.mono hBV.size))
  clear hBV hb2
  go_wp2
  go_ret
  exact ⟨rfl, HB.out⟩

set_option maxRecDepth 100000 in
set_option maxHeartbeats 1000000 in
theorem impl_RdrOk0 (w : World) : Calls Try.prog 161 #[.slice none 0 0] w fun e w' => e = .returned (.bool true) ∧ Below w.heap.size w w' := by
  have hmk : ∀ w, (Instr.makeSlice 23 (.int .i64 0) (.int .i64 0)).run Try.prog w = .ok (.slice (some ⟨w.heap.size, 0, none⟩) 0 0) (w.alloc (.cells (madeCells #[.int .i64 0] 0) 3)) := fun w => run_make_row' (P := Try.prog) 23 3 (.int .i64 0) 8 Try.underlying23 info_int rfl .i64 .i64 0 (by omega) (by omega) w
  go_enter Try.func161, Try.ntmps161
  go_wp2
  clear hmk
  generalize hW : World.alloc w _ = W
  have B : Hid (Below w.heap.size w W) := by show Below _ _ _; rw [← hW]; exact (Below.refl _ _).alloc (Nat.le_refl _) _
  clear hW
  go_loopg [4, 5, 7, 15] 0 (fun gg _ _ _ s15 wr => s15 = .int .i64 0 ∧ Aside (W = wr))
  case atStart => exact ⟨rfl, rfl⟩
  case round =>
    obtain ⟨rfl, EW⟩ := hrel
    obtain rfl := EW.out
    go_wp2
    go_loopg [8, 9, 62] 0 (fun gg _ _ s62 wr => s62 = .int .i64 0 ∧ Aside (W = wr))
    case atStart => exact ⟨rfl, rfl⟩
    case round =>
      obtain ⟨rfl, EW⟩ := hrel
      obtain rfl := EW.out
      go_wp2
      go_ret
      exact ⟨rfl, B.out⟩

set_option maxRecDepth 100000 in
set_option maxHeartbeats 4000000 in
theorem impl_EngOk (A : Option Addr) (c : Nat) (ns : List GNet) (AP : Option Addr) (cP : Nat) (ps : List Int) (m : Option Nat) (w : World) (h : Rows netC m w w.heap.size A ns) (hp : Ints w w.heap.size AP ps) :
    Calls Try.prog 81 #[.agg #[.slice A ns.length c, .slice AP ps.length cP, .slice none 0 0, .slice none 0 0]] w (Says (.bool (engOk ns ps)) w) := by
  have nn := h.1
  have H := Lib.hid h
  have HP := Lib.hid hp
  clear h hp
  have eg : ∀ args w, (callFunc 160 args).run Try.prog w = .ok (.enter 160 args) w := enters_of Try.func160 (by kernel_rfl) rfl
  have HEG := Lib.hid eg
  clear eg
  go_enter Try.func81, Try.ntmps81
  go_wp2_with fail
  refine callsAt fun W hW => ?_
  have P : Hid (Bk W w.heap.size 102 #[.slice A ns.length c, .slice AP ps.length cP, .slice none 0 0, .slice none 0 0]) := by show Bk _ _ _ _; rw [hW]; exact Bk.new rfl
  have B : Hid (Below w.heap.size w W) := by show Below _ _ _; rw [hW]; go_grown
  clear hW
  refine (impl_in _ _ _ _).mono ?_
  rintro e w' ⟨rfl, rfl⟩
  cases hq : inB ns.length 1 3 with
  | false =>
    have HF : Hid (engOk ns ps = false) := by show _ = _; rw [engOk, netsOk, hq]; rfl
    clear hq
    go_wp2
    go_ret
    exact ⟨by rw [HF.out]; rfl, B.out⟩
  | true =>
  have kP := fun i => P.out.cell i
  go_wp2_with fail
  clear kP
  refine (containsFunc_net 160 #[] _ HEG.out A c ns m _ (engOk_pred _) (H.out.later B.out)).mono ?_
  rintro e w2 ⟨rfl, hb⟩
  have P := Lib.hid (P.out.later hb)
  have B := Lib.hid (B.out.trans (hb.mono B.out.size))
  clear hb
  have hany : ns.any (fun n => !netOk n) = !ns.all netOk := by simp [List.all_eq_not_any_not]
  rw [hany]
  clear hany
  cases hal : ns.all netOk with
  | false =>
    have HF : Hid (engOk ns ps = false) := by show _ = _; rw [engOk, netsOk, hq, hal]; rfl
    clear hq hal
    go_wp2
    go_ret
    exact ⟨by rw [HF.out]; rfl, B.out⟩
  | true =>
  have HF : Hid (engOk ns ps = pplOk ps) := by show _ = _; rw [engOk, netsOk, hq, hal]; rfl
  clear hq hal
  have kP := fun i => P.out.cell i
  go_wp2_with fail
  clear kP
  refine (impl_PplOk AP cP ps w2 (HP.out.later B.out)).mono ?_
  rintro e w3 ⟨rfl, hb⟩
  have P := Lib.hid (P.out.later hb)
  have B := Lib.hid (B.out.trans (hb.mono B.out.size))
  clear hb
  cases hpk : pplOk ps with
  | false =>
    have HZ : Hid (engOk ns ps = false) := by show _ = _; rw [HF.out, hpk]
    clear hpk
    go_wp2
    go_ret
    exact ⟨by rw [HZ.out]; rfl, B.out⟩
  | true =>
  have HZ : Hid (engOk ns ps = true) := by show _ = _; rw [HF.out, hpk]
  clear hpk
  have kP := fun i => P.out.cell i
  go_wp2_with fail
  clear kP
  refine (impl_RdrOk0 w3).mono ?_
  rintro e w4 ⟨rfl, hb⟩
  have P := Lib.hid (P.out.later hb)
  have B := Lib.hid (B.out.trans (hb.mono B.out.size))
  clear hb
  have kP := fun i => P.out.cell i
  go_wp2
  clear kP
  go_loopg [4, 36] 0 (fun gg _ s36 wr => s36 = .int .i64 0 ∧ Aside (w4 = wr))
  case atStart => exact ⟨rfl, rfl⟩
  case round =>
    obtain ⟨rfl, EW⟩ := hrel
    obtain rfl := EW.out
    go_wp2
    go_ret
    exact ⟨by rw [HZ.out]; rfl, B.out⟩

set_option maxRecDepth 100000 in
set_option maxHeartbeats 4000000 in
theorem impl_EngNew (A : Option Addr) (c : Nat) (ns : List GNet) (AP : Option Addr) (cP : Nat) (ps : List Int) (m : Option Nat) (w : World) (h : Rows netC m w w.heap.size A ns) (hp : Ints w w.heap.size AP ps) :
    Calls Try.prog 78 #[.slice A ns.length c, .slice AP ps.length cP] w (GivesH (engNets ns ps) (engPpl ns ps) w) := by
  have nn := h.1
  have H := Lib.hid h
  have HP := Lib.hid hp
  clear h hp
  go_enter Try.func78, Try.ntmps78
  go_wp2_with fail
  refine callsAt fun W hW => ?_
  have Z : Hid (Bk W w.heap.size 102 #[.slice none 0 0, .slice none 0 0, .slice none 0 0, .slice none 0 0]) := by show Bk _ _ _ _; rw [hW]; exact (Bk.new rfl).alloc _
  have N : Hid (Bk W (w.heap.size + 1) 102 #[.slice A ns.length c, .slice AP ps.length cP, .slice none 0 0, .slice none 0 0]) := by show Bk _ _ _ _; rw [hW]; exact Bk.new (by simp)
  have B : Hid (Below w.heap.size w W) := by show Below _ _ _; rw [hW]; go_grown
  clear hW
  refine (impl_EngOk A c ns AP cP ps m W (H.out.later B.out) (HP.out.later B.out)).mono ?_
  rintro e w1 ⟨rfl, hb⟩
  have Z := Lib.hid (Z.out.later hb)
  have N := Lib.hid (N.out.later hb)
  have B := Lib.hid (B.out.trans (hb.mono B.out.size))
  clear hb
  cases hok : engOk ns ps with
  | false =>
    have HE := Lib.hid (eng_no hok)
    clear hok
    have kZ := fun i => Z.out.cell i
    have fZ := fun i => Z.out.frozen i
    go_wp2
    have hput := house_put Z.out (b0 := .slice none 0 0) (b1 := .slice none 0 0) (b2 := .slice none 0 0) (b3 := .slice none 0 0)
    generalize hV : World.setCell (World.setCell (World.setCell (World.setCell w1 _ _) _ _) _ _) _ _ = V at hput ⊢
    have ZV := hput.bk
    have tV : Below w.heap.size w V := hput.below B.out (Nat.le_refl _)
    clear hV kZ fZ hput
    have k1 := fun j => ZV.cell j
    refine bodyPost_ret (v := .agg #[.slice none 0 0, .slice none 0 0, .slice none 0 0, .slice none 0 0]) (by simp [results, Try.results78, go_sem, k1]) rfl ?_
    exact ⟨none, 0, none, 0, by rw [HE.out.1, HE.out.2]; rfl, by rw [HE.out.1]; exact Rows.nil, by rw [HE.out.2]; exact Rows.nil, tV⟩
  | true =>
  have HE := Lib.hid (eng_yes hok)
  have hnk : netsOk ns = true ∧ pplOk ps = true := by rw [engOk, Bool.and_eq_true] at hok; exact hok
  obtain ⟨hn3, hfew⟩ := netsOk_few hnk.1
  have hp4 := (pplOk_bounds hnk.2).2.1
  have HFEW := Lib.hid hfew
  have zZ1 := Z.out.lt
  clear hok hnk hfew
  have kN := fun i => N.out.cell i
  go_wp2_with fail
  clear kN
  refine (impl_cloneHouse A c ns AP cP ps m w1 (H.out.later B.out) (HP.out.later B.out) hn3 (by omega) HFEW.out).mono ?_
  rintro e w2 ⟨A5, c5, A6, c6, rfl, hrow, hint, hb⟩
  have R5 := Lib.hid hrow
  have R6 := Lib.hid hint
  have Z := Lib.hid (Z.out.later hb)
  have zZ := Z.out.lt
  have B := Lib.hid (B.out.trans (hb.mono B.out.size))
  clear hrow hint hb
  have kZ := fun i => Z.out.cell i
  have fZ := fun i => Z.out.frozen i
  go_wp2
  have hput := house_put Z.out (b0 := .slice A5 ns.length c5) (b1 := .slice A6 ps.length c6) (b2 := .slice none 0 0) (b3 := .slice none 0 0)
  generalize hV : World.setCell (World.setCell (World.setCell (World.setCell w2 _ _) _ _) _ _) _ _ = V at hput ⊢
  have ZV := hput.bk
  have tV : Below w.heap.size w V := hput.below B.out (Nat.le_refl _)
  have hbl := hput.block
  have hsz := hput.size
  clear hV kZ fZ hput
  have k1 := fun j => ZV.cell j
  refine bodyPost_ret (v := .agg #[.slice A5 ns.length c5, .slice A6 ps.length c6, .slice none 0 0, .slice none 0 0]) (by simp [results, Try.results78, go_sem, k1]) rfl ?_
  exact ⟨A5, c5, A6, c6, by rw [HE.out.1, HE.out.2], by rw [HE.out.1]; exact ((R5.out.keep fun q _ hq => hbl q (by have := hq _ rfl; omega)).more (by omega)).weak (Weaker.some (by omega)), by rw [HE.out.2]; exact ((R6.out.keep fun q _ hq => hbl q (by have := hq _ rfl; omega)).more (by omega)).weak (Weaker.some (by omega)), tV⟩
end Go.Proofs.Ytkkjljpokannkaa
