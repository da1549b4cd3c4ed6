/- Nets: how a net value reads as plain data, and whether it is ok, as plain functions. -/
import Derived.Test.YtkkjljpokannkaaAsk
namespace Go.Proofs.Ytkkjljpokannkaa
open Go.RowKit

/-- What leads out of a task. -/
structure GFlow where
  «to» : Int
  ask : GAsk
def GFlow.cells (x : GFlow) : List Value := [.int .i64 x.to, .int .i64 x.ask.op, .int .i64 x.ask.var, .int .i64 x.ask.k]
/-- A task. -/
structure GTask where
  join : Int
  split : Int
  inn : List Int
  out : List GFlow
  clear : List Int
  role : Int
  apart : Int
  all : Int
  need : Int
/-- A net. -/
structure GNet where
  places : Int
  tasks : List GTask

def flowC : Cod GFlow := flat 4 GFlow.cells fun _ => rfl

def taskC : Cod GTask :=
  { k := 9
    R := fun m w B x cs => ∃ A1 c1 A2 c2 A3 c3, cs = [.int .i64 x.join, .int .i64 x.split, .slice A1 x.inn.length c1, .slice A2 x.out.length c2, .slice A3 x.clear.length c3, .int .i64 x.role, .int .i64 x.apart, .int .i64 x.all, .int .i64 x.need] ∧
      Rows intC m w B A1 x.inn ∧ Rows flowC m w B A2 x.out ∧ Rows intC m w B A3 x.clear
    keep := fun ⟨A1, c1, A2, c2, A3, c3, h, h1, h2, h3⟩ ha => ⟨A1, c1, A2, c2, A3, c3, h, h1.keep ha, h2.keep ha, h3.keep ha⟩
    more := fun ⟨A1, c1, A2, c2, A3, c3, h, h1, h2, h3⟩ hb => ⟨A1, c1, A2, c2, A3, c3, h, h1.more hb, h2.more hb, h3.more hb⟩
    weak := fun ⟨A1, c1, A2, c2, A3, c3, h, h1, h2, h3⟩ hm => ⟨A1, c1, A2, c2, A3, c3, h, h1.weak hm, h2.weak hm, h3.weak hm⟩
    len := fun ⟨_, _, _, _, _, _, h, _⟩ => by subst h; rfl }

def netC : Cod GNet :=
  { k := 2
    R := fun m w B x cs => ∃ A c, cs = [.int .i64 x.places, .slice A x.tasks.length c] ∧ Rows taskC m w B A x.tasks
    keep := fun ⟨A, c, h, h1⟩ ha => ⟨A, c, h, h1.keep ha⟩
    more := fun ⟨A, c, h, h1⟩ hb => ⟨A, c, h, h1.more hb⟩
    weak := fun ⟨A, c, h, h1⟩ hm => ⟨A, c, h, h1.weak hm⟩
    len := fun ⟨_, _, h, _⟩ => by subst h; rfl }

section
variable {m : Option Nat} {w : World} {B : Nat} {A : Option Addr}
theorem flow_at {xs : List GFlow} (h : Rows flowC m w B A xs) {j : Nat} (hj : j < xs.length) :
    ∃ b off, A = some ⟨b, off, none⟩ ∧ b < B ∧ w.cell? ⟨b, off + j * 4, none⟩ = some (.int .i64 xs[j].to) ∧ w.cell? ⟨b, off + j * 4 + 1, none⟩ = some (.int .i64 xs[j].ask.op) ∧ w.cell? ⟨b, off + j * 4 + 2, none⟩ = some (.int .i64 xs[j].ask.var) ∧ w.cell? ⟨b, off + j * 4 + 3, none⟩ = some (.int .i64 xs[j].ask.k) := by
  obtain ⟨b, off, cs, hA, hb, hR, hc⟩ := h.at_ hj
  have hR' : cs = GFlow.cells xs[j] := hR
  subst hR'
  exact ⟨b, off, hA, hb.1, by have h0 := hc 0 _ rfl; rw [Nat.add_zero] at h0; exact h0, hc 1 _ rfl, hc 2 _ rfl, hc 3 _ rfl⟩
/-- Task j of a row of tasks: its cells, and what they stand for. -/
theorem task_at {xs : List GTask} (h : Rows taskC m w B A xs) {j : Nat} (hj : j < xs.length) :
    ∃ b off A1 c1 A2 c2 A3 c3, A = some ⟨b, off, none⟩ ∧ b < B ∧ (Rows intC m w B A1 xs[j].inn ∧ Rows flowC m w B A2 xs[j].out ∧ Rows intC m w B A3 xs[j].clear) ∧
      w.cell? ⟨b, off + j * 9, none⟩ = some (.int .i64 xs[j].join) ∧ w.cell? ⟨b, off + j * 9 + 1, none⟩ = some (.int .i64 xs[j].split) ∧
      w.cell? ⟨b, off + j * 9 + 2, none⟩ = some (.slice A1 xs[j].inn.length c1) ∧ w.cell? ⟨b, off + j * 9 + 3, none⟩ = some (.slice A2 xs[j].out.length c2) ∧ w.cell? ⟨b, off + j * 9 + 4, none⟩ = some (.slice A3 xs[j].clear.length c3) ∧
      w.cell? ⟨b, off + j * 9 + 5, none⟩ = some (.int .i64 xs[j].role) ∧ w.cell? ⟨b, off + j * 9 + 6, none⟩ = some (.int .i64 xs[j].apart) ∧ w.cell? ⟨b, off + j * 9 + 7, none⟩ = some (.int .i64 xs[j].all) ∧ w.cell? ⟨b, off + j * 9 + 8, none⟩ = some (.int .i64 xs[j].need) := by
  obtain ⟨b, off, cs, hA, hb, ⟨A1, c1, A2, c2, A3, c3, hcs, h1, h2, h3⟩, hc⟩ := h.at_ hj
  subst hcs
  exact ⟨b, off, A1, c1, A2, c2, A3, c3, hA, hb.1, ⟨h1, h2, h3⟩, by have h0 := hc 0 _ rfl; rw [Nat.add_zero] at h0; exact h0, hc 1 _ rfl, hc 2 _ rfl, hc 3 _ rfl, hc 4 _ rfl, hc 5 _ rfl, hc 6 _ rfl, hc 7 _ rfl, hc 8 _ rfl⟩
end

/-- Number i of some lies within bounds and above the one ahead of it. -/
def risesAt (lo hi : Int) (xs : List Int) (i : Nat) : Bool := inB (xs.getD i 0) lo hi && (decide (i = 0) || decide (xs.getD (i - 1) 0 < xs.getD i 0))
def rises (xs : List Int) (least most lo hi : Int) : Bool := inB xs.length least most && allTo (risesAt lo hi xs) xs.length

def flow0 : GFlow := ⟨0, ⟨0, 0, 0⟩⟩
/-- Flow i of a task is ok. -/
def flowAt (x : GTask) (places : Int) (i : Nat) : Bool :=
  inB (x.out.getD i flow0).to 1 (places - 1) && (askOk (x.out.getD i flow0).ask && (((decide (i + 1 = x.out.length) || decide (x.split = 1)) == decide ((x.out.getD i flow0).ask.op = 0)) && !(x.out.take i).any fun g => decide (g.to = (x.out.getD i flow0).to)))
def flowsOk (x : GTask) (places : Int) : Bool := inB x.out.length 1 3 && allTo (flowAt x places) x.out.length
def taskOk (x : GTask) (places tasks : Int) : Bool :=
  (inB x.join 1 3 && (inB x.split 1 3 && (rises x.inn 1 3 0 (places - 1) && (!(x.inn.any fun y => decide (y = 1)) && flowsOk x places)))) &&
    (rises x.clear 0 places 2 (places - 1) && (inB x.role 1 3 && (inB x.apart (-1) (tasks - 1) && (inB x.all 1 3 && inB x.need 1 x.all))))
def netOk (n : GNet) : Bool := inB n.places 2 8 && (inB n.tasks.length 1 6 && n.tasks.all fun t => taskOk t n.places n.tasks.length)

theorem l2Has (A : Option Addr) (c : Nat) (xs : List Int) (n : Int) (w : World) (B : Nat) (hx : Ints w B A xs) :
    Calls Try.prog 190 #[.slice A xs.length c, .int .i64 n] w fun e w' => e = .returned (.bool (xs.any fun x => decide (x = n))) ∧ w = w' := by
  have hlen := hx.1
  have HX := Lib.hid hx
  clear hx
  go_enter Try.func190, Try.ntmps190
  go_wp2
  go_loopg [5] xs.length (fun gg s5 wr => ∃ k : Nat, k ≤ xs.length ∧ xs.length - k ≤ gg ∧ s5 = .int .i64 k ∧ Aside (w = wr) ∧ Aside ((xs.take k).any (fun x => decide (x = n)) = false))
  case atStart => exact ⟨0, Nat.zero_le _, by omega, rfl, rfl, by show (xs.take 0).any _ = false; simp⟩
  case round =>
    obtain ⟨k, hk, hg, rfl, EW, AN⟩ := hrel
    obtain rfl := EW.out
    by_cases hlt : k < xs.length
    · have hltz : (k : Int) < (xs.length : Int) := by omega
      obtain ⟨b, off, rfl, hb, hc⟩ := HX.out.at_ hlt
      by_cases hq : xs[k] = n
      · have HS := Lib.hid (any_hit (fun x => decide (x = n)) xs k hlt (by simp [hq]))
        have hb1 : (xs[k] == n) = true := by simp [hq]
        generalize xs[k] = y at hc hb1
        clear hq
        go_wp2
        go_ret
        exact ⟨by rw [HS.out]; rfl, rfl⟩
      · have HS := Lib.hid (any_miss (fun x => decide (x = n)) xs k hlt AN.out (by simp [hq]))
        have hb1 : (xs[k] == n) = false := by simp [hq]
        generalize xs[k] = y at hc hb1
        clear hq
        go_wp2
        go_roundg (xs.length - (k + 1))
        case measure => omega
        case rel => exact ⟨k + 1, by omega, by omega, by go_num, rfl, HS.out⟩
    · have hltz : ¬ (k : Int) < (xs.length : Int) := by omega
      have he : k = xs.length := by omega
      have HE := Lib.hid he
      clear he
      go_wp2
      go_ret
      refine ⟨?_, rfl⟩
      have h1 := AN.out
      rw [HE.out, List.take_length] at h1
      rw [h1]; rfl


set_option maxHeartbeats 1000000 in
theorem l2Rises (A : Option Addr) (c : Nat) (xs : List Int) (least most lo hi : Int) (w : World) (hx : Ints w w.heap.size A xs) :
    Calls Try.prog 189 #[.slice A xs.length c, .int .i64 least, .int .i64 most, .int .i64 lo, .int .i64 hi] w (Says (.bool (rises xs least most lo hi)) w) := by
  have hlen := hx.1
  have HX := Lib.hid hx
  clear hx
  cases h : inB xs.length least most with
  | false =>
    have HF : Hid (rises xs least most lo hi = false) := by show _ = _; simp [rises, h]
    go_enter Try.func189, Try.ntmps189
    go_wp2_with (go_at_call 103; refine (l1In _ _ _ _).mono ?_; rintro e w' ⟨rfl, rfl⟩)
    go_ret
    exact ⟨by rw [HF.out]; rfl, Below.refl _ _⟩
  | true =>
    have HF : Hid (rises xs least most lo hi = allTo (risesAt lo hi xs) xs.length) := by show _ = _; simp [rises, h]
    go_enter Try.func189, Try.ntmps189
    go_wp2_with (go_at_call 103; refine (l1In _ _ _ _).mono ?_; rintro e w' ⟨rfl, rfl⟩)
    clear h
    go_loopg [11] xs.length (fun gg s11 wr => ∃ k : Nat, k ≤ xs.length ∧ xs.length - k ≤ gg ∧ s11 = .int .i64 k ∧ Aside (Below w.heap.size w wr) ∧ Aside (allTo (risesAt lo hi xs) k = true))
    case atStart => exact ⟨0, Nat.zero_le _, by omega, rfl, Below.refl _ _, rfl⟩
    case round =>
      obtain ⟨k, hk, hg, rfl, EW, AN⟩ := hrel
      by_cases hlt : k < xs.length
      · have hltz : (k : Int) < (xs.length : Int) := by omega
        obtain ⟨b, off, rfl, hb, hc⟩ := (HX.out.later EW.out).at_ hlt
        cases hq : inB xs[k] lo hi with
        | false =>
          have HS : Hid (allTo (risesAt lo hi xs) xs.length = false) := allTo_fail hlt (by rw [risesAt, getD_get hlt, hq]; rfl)
          generalize xs[k] = y at hc hq
          go_wp2
          go_quiet (first | (go_at_call 103; exact quiet_left (l1In _ _ _ _)))
          go_wp2
          go_ret
          exact ⟨by rw [HF.out, HS.out]; rfl, bdN EW.out _⟩
        | true =>
          by_cases hk0 : k = 0
          · subst hk0
            have HS : Hid (allTo (risesAt lo hi xs) (0 + 1) = true) := allTo_step AN.out (by rw [risesAt, getD_get hlt, hq]; rfl)
            generalize xs[0] = y at hc hq
            rw [Nat.add_zero] at hc
            go_wp2
            go_quiet (first | (go_at_call 103; exact quiet_left (l1In _ _ _ _)))
            go_wp2
            go_roundg (xs.length - (0 + 1))
            case measure => omega
            case rel => exact ⟨0 + 1, by omega, by omega, by go_num, bdN EW.out _, HS.out⟩
          · have hkp : (0 : Int) < (k : Int) := by omega
            have hd : decide (0 < k) = true := by simp; omega
            have hkn : 0 < k := by omega
            have hlt1 : k - 1 < xs.length := by omega
            obtain ⟨b1, off1, hA1, hb1, hc1⟩ := (HX.out.later EW.out).at_ hlt1
            cases hA1
            have hcast : ((k - 1 : Nat) : Int) = (k : Int) - 1 := by omega
            have hkz : ((k : Int) - 1).toNat = k - 1 := by omega
            have hkz0 : (0 : Int) ≤ (k : Int) - 1 := by omega
            have hkz1 : (k : Int) - 1 < (xs.length : Int) := by omega
            by_cases hr : xs[k - 1] < xs[k]
            · have HS : Hid (allTo (risesAt lo hi xs) (k + 1) = true) := allTo_step AN.out (by rw [risesAt, getD_get hlt, getD_get hlt1, hq]; simp [hr])
              have hr2 : ¬ xs[k] ≤ xs[k - 1] := by omega
              generalize xs[k] = y at hc hq hr hr2
              generalize xs[k - 1] = y1 at hc1 hr hr2
              go_wp2
              go_quiet (first | (go_at_call 103; exact quiet_left (l1In _ _ _ _)))
              go_wp2
              go_roundg (xs.length - (k + 1))
              case measure => omega
              case rel => exact ⟨k + 1, by omega, by omega, by go_num, bdN EW.out _, HS.out⟩
            · have HS : Hid (allTo (risesAt lo hi xs) xs.length = false) := allTo_fail hlt (by rw [risesAt, getD_get hlt, getD_get hlt1, hq]; simp [hr, hk0])
              have hr2 : xs[k] ≤ xs[k - 1] := by omega
              generalize xs[k] = y at hc hq hr hr2
              generalize xs[k - 1] = y1 at hc1 hr hr2
              go_wp2
              go_quiet (first | (go_at_call 103; exact quiet_left (l1In _ _ _ _)))
              go_wp2
              go_ret
              exact ⟨by rw [HF.out, HS.out]; rfl, bdN EW.out _⟩
      · have hltz : ¬ (k : Int) < (xs.length : Int) := by omega
        have he : k = xs.length := by omega
        have HE := Lib.hid he
        clear he
        go_wp2
        go_ret
        refine ⟨?_, EW.out⟩
        have h1 := AN.out
        rw [HE.out] at h1
        rw [HF.out, h1]; rfl
end Go.Proofs.Ytkkjljpokannkaa
