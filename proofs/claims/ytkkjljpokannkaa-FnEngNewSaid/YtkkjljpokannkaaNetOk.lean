/- The program's NetOk computes the plain function. -/
import Derived.Test.YtkkjljpokannkaaNetOut
import Derived.Test.YtkkjljpokannkaaPpl
namespace Go.Proofs.Ytkkjljpokannkaa
open Go.RowKit

theorem taskOk_as (x : GTask) (places tasks : Int) (hp : 2 ≤ places) :
    taskOk x places tasks = (inB x.join 1 3 && (inB x.split 1 3 && (inB x.inn.length 1 3 && (allTo (ascAt places [1] x.inn) x.inn.length && (flowsOk x places && (allTo (ascAt places [0, 1] x.clear) x.clear.length && (inB x.role 1 3 && (inB x.apart (-1) (tasks - 1) && (inB x.all 1 3 && inB x.need 1 x.all))))))))) := by
  unfold taskOk
  rw [asc_clear_eq places hp]
  have h := asc_in_eq places x.inn
  generalize inB x.inn.length 1 3 = a at h
  generalize allTo (ascAt places [1] x.inn) x.inn.length = b at h
  generalize rises x.inn 1 3 0 (places - 1) = c at h
  generalize (x.inn.any fun y => decide (y = 1)) = d at h
  have h2 : ∀ z : Bool, (c && (!d && z)) = (a && (b && z)) := fun z => by rw [← Bool.and_assoc, ← h, Bool.and_assoc]
  rw [h2]
  simp only [Bool.and_assoc]

set_option maxRecDepth 100000 in
set_option maxHeartbeats 2000000 in
theorem impl_taskOk (x : GTask) (cs : List Value) (m : Option Nat) (places tasks : Int) (w : World) (hx : taskC.R m w w.heap.size x cs) (hp : 2 ≤ places ∧ places ≤ 8) (ht : 1 ≤ tasks ∧ tasks ≤ 6) :
    Calls Try.prog 120 #[.agg cs.toArray, .int .i64 places, .int .i64 tasks] w (Says (.bool (taskOk x places tasks)) w) := by
  obtain ⟨A1, c1, A2, c2, A3, c3, rfl, h1, h2, h3⟩ := hx
  have n1 := h1.1
  have n2 := h2.1
  have n3 := h3.1
  have H1 := Lib.hid h1.ints
  have H2 := Lib.hid h2
  have H3 := Lib.hid h3.ints
  clear h1 h2 h3
  have HT0 := Lib.hid (taskOk_as x places tasks hp.1)
  generalize hT : taskOk x places tasks = T at HT0
  clear hT
  have HT := Lib.hid HT0.out.symm
  clear HT0
  have bad : ∀ w', Below w.heap.size w w' → T = false → Says (.bool T) w (.returned (.bool false)) w' := fun w' hb h => ⟨by rw [h], hb⟩
  have BAD := Lib.hid bad
  clear bad
  go_enter Try.func120, Try.ntmps120
  go_wp2_with fail
  refine callsAt fun W hW => ?_
  have b0 : Bk W w.heap.size 42 #[.int .i64 x.join, .int .i64 x.split, .slice A1 x.inn.length c1, .slice A2 x.out.length c2, .slice A3 x.clear.length c3, .int .i64 x.role, .int .i64 x.apart, .int .i64 x.all, .int .i64 x.need] := by rw [hW]; exact Bk.new rfl
  have hB : Below w.heap.size w W := by rw [hW]; go_grown
  clear hW
  have B0 := Lib.hid b0
  have HB := Lib.hid hB
  have k0 := fun i => b0.cell i
  clear hB b0
  refine (impl_isKind _ _).mono ?_; rintro e w' ⟨rfl, rfl⟩
  cases q1 : inB x.join 1 3 with
  | false =>
    go_wp2
    go_ret
    exact BAD.out _ HB.out (by rw [← HT.out, q1]; rfl)
  | true =>
  go_wp2_with fail
  refine (impl_isKind _ _).mono ?_; rintro e w' ⟨rfl, rfl⟩
  cases q2 : inB x.split 1 3 with
  | false =>
    go_wp2
    go_ret
    exact BAD.out _ HB.out (by rw [← HT.out, q1, q2]; rfl)
  | true =>
  go_wp2_with fail
  refine (impl_in _ _ _ _).mono ?_; rintro e w' ⟨rfl, rfl⟩
  cases q3 : inB x.inn.length 1 3 with
  | false =>
    go_wp2
    go_ret
    exact BAD.out _ HB.out (by rw [← HT.out, q1, q2, q3]; rfl)
  | true =>
  go_wp2_with fail
  refine callsAt fun V hV => ?_
  have hbV : Below W.heap.size W V := by rw [hV]; exact (Below.refl _ _).alloc (Nat.le_refl _) _
  have hIV : Ints V V.heap.size (some ⟨W.heap.size, 0, none⟩) [1] := by rw [hV]; exact (Wr.new W 3 #[.int .i64 1]).ints (xs := [1]) (by simp) (by simp)
  clear hV
  have EV := Lib.hid (HB.out.trans (hbV.mono HB.out.size))
  refine (impl_ascends _ _ x.inn _ 1 [1] places V (H1.out.later EV.out) hIV hp).mono ?_; rintro e w2 ⟨rfl, hb2⟩
  have B2 := Lib.hid ((B0.out.later hbV).later hb2)
  have HB2 := Lib.hid (EV.out.trans (hb2.mono EV.out.size))
  clear hb2 k0 hbV hIV
  have k0 := fun i => B2.out.cell i
  cases q4 : allTo (ascAt places [1] x.inn) x.inn.length with
  | false =>
    go_wp2
    go_ret
    exact BAD.out _ HB2.out (by rw [← HT.out, q1, q2, q3, q4]; rfl)
  | true =>
  go_wp2_with fail
  refine (impl_outOk x A1 c1 A2 c2 A3 c3 m places _ (H2.out.later HB2.out) hp).mono ?_; rintro e w3 ⟨rfl, hb3⟩
  have B3 := Lib.hid (B2.out.later hb3)
  have HB3 := Lib.hid (HB2.out.trans (hb3.mono HB2.out.size))
  clear hb3 k0
  have k0 := fun i => B3.out.cell i
  cases q5 : flowsOk x places with
  | false =>
    go_wp2
    go_ret
    exact BAD.out _ HB3.out (by rw [← HT.out, q1, q2, q3, q4, q5]; rfl)
  | true =>
  go_wp2_with fail
  refine callsAt fun V hV => ?_
  have hbV : Below w3.heap.size w3 V := by rw [hV]; exact (Below.refl _ _).alloc (Nat.le_refl _) _
  have hIV : Ints V V.heap.size (some ⟨w3.heap.size, 0, none⟩) [0, 1] := by rw [hV]; exact (Wr.new w3 3 #[.int .i64 0, .int .i64 1]).ints (xs := [0, 1]) (by simp) (by simp)
  clear hV
  have EV := Lib.hid (HB3.out.trans (hbV.mono HB3.out.size))
  refine (impl_ascends _ _ x.clear _ 2 [0, 1] places V (H3.out.later EV.out) hIV hp).mono ?_; rintro e w4 ⟨rfl, hb4⟩
  have B4 := Lib.hid ((B3.out.later hbV).later hb4)
  have HB4 := Lib.hid (EV.out.trans (hb4.mono EV.out.size))
  clear hb4 k0 hbV hIV
  have k0 := fun i => B4.out.cell i
  cases q6 : allTo (ascAt places [0, 1] x.clear) x.clear.length with
  | false =>
    go_wp2
    go_ret
    exact BAD.out _ HB4.out (by rw [← HT.out, q1, q2, q3, q4, q5, q6]; rfl)
  | true =>
  go_wp2_with fail
  refine (impl_isRole _ _).mono ?_; rintro e w' ⟨rfl, rfl⟩
  cases q7 : inB x.role 1 3 with
  | false =>
    go_wp2
    go_ret
    exact BAD.out _ HB4.out (by rw [← HT.out, q1, q2, q3, q4, q5, q6, q7]; rfl)
  | true =>
  go_wp2_with fail
  refine (impl_in _ _ _ _).mono ?_; rintro e w' ⟨rfl, rfl⟩
  cases q8 : inB x.apart (-1) (tasks - 1) with
  | false =>
    go_wp2
    go_ret
    exact BAD.out _ HB4.out (by rw [← HT.out, q1, q2, q3, q4, q5, q6, q7, q8]; rfl)
  | true =>
  go_wp2_with fail
  refine (impl_in _ _ _ _).mono ?_; rintro e w' ⟨rfl, rfl⟩
  cases q9 : inB x.all 1 3 with
  | false =>
    go_wp2
    go_ret
    exact BAD.out _ HB4.out (by rw [← HT.out, q1, q2, q3, q4, q5, q6, q7, q8, q9]; rfl)
  | true =>
  go_wp2_with fail
  refine (impl_in _ _ _ _).mono ?_; rintro e w' ⟨rfl, rfl⟩
  go_wp2
  go_ret
  exact ⟨by rw [← HT.out, q1, q2, q3, q4, q5, q6, q7, q8, q9]; rfl, HB4.out⟩

/-- A test of tasks handed over as a function value: in every later world it answers p x and leaves what lay as it was. -/
def PredTask (g : Nat) (lb : Array Value) (p : GTask → Bool) (w : World) : Prop :=
  ∀ (W : World) (x : GTask) (cs : List Value) (m : Option Nat), Below w.heap.size w W → taskC.R m W W.heap.size x cs → Calls Try.prog g (#[.agg cs.toArray] ++ lb) W fun e w' => e = .returned (.bool (p x)) ∧ Below W.heap.size W w'

set_option maxHeartbeats 1000000 in
theorem indexFunc_task (g : Nat) (lb : Array Value) (p : GTask → Bool) (eg : ∀ args w, (callFunc g args).run Try.prog w = .ok (.enter g args) w)
    (A : Option Addr) (c : Nat) (xs : List GTask) (m : Option Nat) (w : World) (hp : PredTask g lb p w) (hx : Rows taskC m w w.heap.size A xs) :
    Calls Try.prog 188 #[.slice A xs.length c, .func (.func g) #[] lb] w fun e w' => (∃ r : Int, e = .returned (.int .i64 r) ∧ (decide (0 ≤ r) = xs.any p)) ∧ Below w.heap.size w w' := by
  have hlen := hx.1
  have HX := Lib.hid hx
  have HP := Lib.hid hp
  clear hx hp
  go_enter Try.func188, Try.ntmps188
  go_wp2
  go_loopg [5, 8] xs.length (fun gg _ s8 wr => ∃ k : Nat, k ≤ xs.length ∧ xs.length - k ≤ gg ∧ s8 = .int .i64 k ∧ Aside (Below w.heap.size w wr) ∧ Aside ((xs.take k).any p = false))
  case atStart => exact ⟨0, Nat.zero_le _, by omega, rfl, Below.refl _ w, by show ((xs.take 0).any p = false); simp⟩
  case round =>
    obtain ⟨k, hk, hg, rfl, BW, AN⟩ := hrel
    by_cases hlt : k < xs.length
    · have hltz : (k : Int) < (xs.length : Int) := by omega
      obtain ⟨b, off, A1, c1, A2, c2, A3, c3, rfl, hb, hR, d0, d1, d2, d3, d4, d5, d6, d7, d8⟩ := task_at (HX.out.later BW.out) hlt
      have hcall := HP.out wr xs[k] _ m BW.out ⟨A1, c1, A2, c2, A3, c3, rfl, hR⟩
      have HS := Lib.hid (any_split p xs k hlt AN.out)
      clear hR
      generalize xs[k] = y at d0 d1 d2 d3 d4 d5 d6 d7 d8 hcall HS
      cases hq : p y with
      | true =>
        rw [hq] at hcall HS
        go_wp2_with (go_at_fn g; refine hcall.mono ?_; rintro e w' ⟨rfl, hb'⟩)
        go_ret
        refine ⟨⟨_, rfl, ?_⟩, BW.out.trans (hb'.mono BW.out.size)⟩
        have h1 : xs.any p = true := by
          rw [← List.take_append_drop (k + 1) xs, List.any_append, HS.out, Bool.true_or]
        rw [h1]; simp
      | false =>
        rw [hq] at hcall HS
        go_wp2_with (go_at_fn g; refine hcall.mono ?_; rintro e w' ⟨rfl, hb'⟩)
        go_roundg (xs.length - (k + 1))
        case measure => omega
        case rel => exact ⟨k + 1, by omega, by omega, by go_num, BW.out.trans (hb'.mono BW.out.size), HS.out⟩
    · have hltz : ¬ (k : Int) < (xs.length : Int) := by omega
      have he : k = xs.length := by omega
      have HE := Lib.hid he
      clear he
      go_wp2
      go_ret
      refine ⟨⟨_, rfl, ?_⟩, BW.out⟩
      have h1 := AN.out
      rw [HE.out, List.take_length] at h1
      rw [h1]; simp
theorem containsFunc_task (g : Nat) (lb : Array Value) (p : GTask → Bool) (eg : ∀ args w, (callFunc g args).run Try.prog w = .ok (.enter g args) w)
    (A : Option Addr) (c : Nat) (xs : List GTask) (m : Option Nat) (w : World) (hp : PredTask g lb p w) (hx : Rows taskC m w w.heap.size A xs) :
    Calls Try.prog 106 #[.slice A xs.length c, .func (.func g) #[] lb] w fun e w' => e = .returned (.bool (xs.any p)) ∧ Below w.heap.size w w' := by
  have HI := Lib.hid (indexFunc_task g lb p eg A c xs m w hp hx)
  clear hp hx
  go_enter Try.func106, Try.ntmps106
  go_wp2_with (go_at_call 188; refine HI.out.mono ?_; rintro e w' ⟨⟨r, rfl, hr⟩, hb'⟩; have HR := Lib.hid hr; clear hr)
  go_ret
  exact ⟨by rw [← HR.out]; rfl, hb'⟩

theorem netOk_pred (B1 : Nat) (places : Int) (A : Option Addr) (c n : Nat) (w : World) (h1 : Bk w B1 37 #[.int .i64 places, .slice A n c]) (hp : 2 ≤ places ∧ places ≤ 8) (hn : 1 ≤ (n : Int) ∧ (n : Int) ≤ 6) :
    PredTask 119 #[.pointer (some ⟨B1, 0, none⟩)] (fun t => !taskOk t places n) w := by
  intro W x cs m hb hx
  have hb1 := Lib.hid (h1.later hb)
  obtain ⟨A1, c1, A2, c2, A3, c3, rfl, hR⟩ := hx
  have HR := Lib.hid hR
  clear h1 hR
  show Calls Try.prog 119 #[.agg #[.int .i64 x.join, .int .i64 x.split, .slice A1 x.inn.length c1, .slice A2 x.out.length c2, .slice A3 x.clear.length c3, .int .i64 x.role, .int .i64 x.apart, .int .i64 x.all, .int .i64 x.need], .pointer (some ⟨B1, 0, none⟩)] W _
  have k1 := fun o i => (hb1.out.alloc o).cell i
  go_enter Try.func119, Try.ntmps119
  go_wp2_with fail
  refine callsAt fun V hV => ?_
  have hBV : Below W.heap.size W V := by rw [hV]; go_grown
  clear hV
  refine (impl_taskOk x _ m places n V ⟨A1, c1, A2, c2, A3, c3, rfl, HR.out.1.later hBV, HR.out.2.1.later hBV, HR.out.2.2.later hBV⟩ hp hn).mono ?_
  rintro e w2 ⟨rfl, hb2⟩
  have HB := Lib.hid (hBV.trans (hb2.mono hBV.size))
  clear hBV hb2
  go_wp2
  go_ret
  exact ⟨rfl, HB.out⟩

set_option maxRecDepth 100000 in
set_option maxHeartbeats 1000000 in
theorem impl_NetOk (x : GNet) (cs : List Value) (m : Option Nat) (w : World) (hx : netC.R m w w.heap.size x cs) :
    Calls Try.prog 41 #[.agg cs.toArray] w (Says (.bool (netOk x)) w) := by
  obtain ⟨A, c, rfl, h1⟩ := hx
  have n1 := h1.1
  have H1 := Lib.hid h1
  clear h1
  have eg : ∀ args w, (callFunc 119 args).run Try.prog w = .ok (.enter 119 args) w := enters_of Try.func119 (by kernel_rfl) rfl
  cases q1 : (inB x.places 2 8 && inB x.tasks.length 1 6) with
  | false =>
    have HF : Hid (netOk x = false) := by show _ = _; rw [netOk, ← Bool.and_assoc, q1]; rfl
    go_enter Try.func41, Try.ntmps41
    go_wp2_with (go_at_call 118; refine (impl_sizesOk _ _ _).mono ?_; rintro e w' ⟨rfl, rfl⟩)
    go_ret
    exact ⟨by rw [HF.out]; rfl, by go_grown⟩
  | true =>
    have HF : Hid (netOk x = x.tasks.all fun t => taskOk t x.places x.tasks.length) := by show _ = _; rw [netOk, ← Bool.and_assoc, q1]; rfl
    have hpt := q1
    rw [Bool.and_eq_true, inB_iff, inB_iff] at hpt
    go_enter Try.func41, Try.ntmps41
    go_wp2_with fail
    refine callsAt fun W hW => ?_
    have b0 : Bk W w.heap.size 37 #[.int .i64 x.places, .slice A x.tasks.length c] := by rw [hW]; exact Bk.new rfl
    have hB : Below w.heap.size w W := by rw [hW]; go_grown
    clear hW
    have HC := Lib.hid (containsFunc_task 119 _ _ eg A c x.tasks m W (netOk_pred w.heap.size x.places A c x.tasks.length W b0 hpt.1 hpt.2) (H1.out.later hB))
    have k0 := fun i => b0.cell i
    have HB := Lib.hid hB
    clear b0 hB eg
    refine (impl_sizesOk _ _ _).mono ?_; rintro e w' ⟨rfl, rfl⟩
    go_wp2_with (go_at_call 106; refine HC.out.mono ?_; rintro e w2 ⟨rfl, hb2⟩)
    go_ret
    refine ⟨?_, HB.out.trans (hb2.mono HB.out.size)⟩
    rw [HF.out]
    simp [List.all_eq_not_any_not]
end Go.Proofs.Ytkkjljpokannkaa
