/- Who does nothing: closures over active tasks, PplFree of the program and of the reference. -/
import Derived.Test.YtkoaaagmcjjimaaGreatAny0
import Derived.Test.YtkoaaagmcjjimaaGreatGBase
namespace Go.Proofs.YtkoaaagmcjjimaaGreat
open Go.RowKit

/-- A predicate on active tasks handed over as a function value. -/
def PredItem (g : Nat) (lb : Array Value) (p : GItem → Bool) (w : World) : Prop :=
  ∀ (W : World) (x : GItem), Below w.heap.size w W → Calls Tryz.prog g (#[.agg #[.int .i64 x.task, .int .i64 x.who, .int .i64 x.did]] ++ lb) W fun e w' => e = .returned (.bool (p x)) ∧ Below W.heap.size W w'

theorem indexFunc_item (g : Nat) (lb : Array Value) (p : GItem → Bool) (eg : ∀ args w, (callFunc g args).run Tryz.prog w = .ok (.enter g args) w)
    (A : Option Addr) (c : Nat) (xs : List GItem) (m : Option Nat) (w : World) (hp : PredItem g lb p w) (hx : Rows itemC m w w.heap.size A xs) :
    Calls Tryz.prog 80 #[.slice A xs.length c, .func (.func g) #[] lb] w fun e w' => (∃ r : Int, e = .returned (.int .i64 r) ∧ (decide (0 ≤ r) = xs.any p)) ∧ Below w.heap.size w w' := by
  have hlen := hx.1
  have HX := Lib.hid hx
  have HP := Lib.hid hp
  clear hx hp
  go_enter Tryz.func80, Tryz.ntmps80
  go_wp2
  go_loopg [5, 8] xs.length (fun gg _ s8 wr => ∃ k : Nat, k ≤ xs.length ∧ xs.length - k ≤ gg ∧ s8 = .int .i64 k ∧ Aside (Below w.heap.size w wr) ∧ Aside ((xs.take k).any p = false))
  case atStart => exact ⟨0, Nat.zero_le _, by omega, rfl, Below.refl _ w, by show ((xs.take 0).any p = false); simp⟩
  case round =>
    obtain ⟨k, hk, hg, rfl, BW, AN⟩ := hrel
    by_cases hlt : k < xs.length
    · have hltz : (k : Int) < (xs.length : Int) := by omega
      obtain ⟨b, off, rfl, hb, hc0, hc1, hc2⟩ := item_at HX.out hlt
      have hd0 := (BW.out.cell (p := ⟨b, off + k * 3, none⟩) hb).trans hc0
      have hd1 := (BW.out.cell (p := ⟨b, off + k * 3 + 1, none⟩) hb).trans hc1
      have hd2 := (BW.out.cell (p := ⟨b, off + k * 3 + 2, none⟩) hb).trans hc2
      clear hc0 hc1 hc2
      have hcall := HP.out wr xs[k] BW.out
      have HS := Lib.hid (any_split p xs k hlt AN.out)
      generalize xs[k] = y at hd0 hd1 hd2 hcall HS
      cases hq : p y with
      | true =>
        rw [hq] at hcall HS
        go_wp2_with (go_at_fn g; refine hcall.mono ?_; rintro e w' ⟨rfl, hb'⟩)
        go_ret
        refine ⟨⟨_, rfl, ?_⟩, BW.out.trans (hb'.mono BW.out.size)⟩
        have h1 : xs.any p = true := by
          rw [← List.take_append_drop (k + 1) xs, List.any_append, HS.out, Bool.true_or]
        rw [h1]; simp
      | false =>
        rw [hq] at hcall HS
        go_wp2_with (go_at_fn g; refine hcall.mono ?_; rintro e w' ⟨rfl, hb'⟩)
        go_roundg (xs.length - (k + 1))
        case measure => omega
        case rel => exact ⟨k + 1, by omega, by omega, by go_num, BW.out.trans (hb'.mono BW.out.size), HS.out⟩
    · have hltz : ¬ (k : Int) < (xs.length : Int) := by omega
      have he : k = xs.length := by omega
      have HE := Lib.hid he
      clear he
      go_wp2
      go_ret
      refine ⟨⟨_, rfl, ?_⟩, BW.out⟩
      have h1 := AN.out
      rw [HE.out, List.take_length] at h1
      rw [h1]; rfl

theorem containsFunc_item (g : Nat) (lb : Array Value) (p : GItem → Bool) (eg : ∀ args w, (callFunc g args).run Tryz.prog w = .ok (.enter g args) w)
    (A : Option Addr) (c : Nat) (xs : List GItem) (m : Option Nat) (w : World) (hp : PredItem g lb p w) (hx : Rows itemC m w w.heap.size A xs) :
    Calls Tryz.prog 59 #[.slice A xs.length c, .func (.func g) #[] lb] w fun e w' => e = .returned (.bool (xs.any p)) ∧ Below w.heap.size w w' := by
  have HI := Lib.hid (indexFunc_item g lb p eg A c xs m w hp hx)
  clear hp hx
  go_enter Tryz.func59, Tryz.ntmps59
  go_wp2_with (go_at_call 80; refine HI.out.mono ?_; rintro e w' ⟨⟨r, rfl, hr⟩, hb'⟩; have HR := Lib.hid hr; clear hr)
  go_ret
  exact ⟨by rw [← HR.out]; rfl, hb'⟩

/-- Whether somebody performs one of the active tasks. -/
def doing (bs : List GItem) (who : Int) : Bool := bs.any fun b => b.who == who

end Go.Proofs.YtkoaaagmcjjimaaGreat
