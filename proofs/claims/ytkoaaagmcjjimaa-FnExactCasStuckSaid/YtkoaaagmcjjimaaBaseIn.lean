/- slices.ContainsFunc over ints, with a predicate that need answer only for the numbers that lie there. -/
import Derived.Test.YtkoaaagmcjjimaaBase
namespace Go.Proofs.Ytkoaaagmcjjimaa
open Go.RowKit

/-- A function value that in every later world answers p x for each x of a list, and leaves what lay as it was. -/
def PredIn (g : Nat) (lb : Array Value) (p : Int → Bool) (xs : List Int) (w : World) : Prop :=
  ∀ (W : World) (x : Int), x ∈ xs → Below w.heap.size w W → Calls Try.prog g (#[.int .i64 x] ++ lb) W fun e w' => e = .returned (.bool (p x)) ∧ Below W.heap.size W w'

/-- slices.IndexFunc over ints: whether the answer is at least 0. -/
theorem indexFunc_in (g : Nat) (lb : Array Value) (p : Int → Bool) (eg : ∀ args w, (callFunc g args).run Try.prog w = .ok (.enter g args) w)
    (A : Option Addr) (c : Nat) (xs : List Int) (w : World) (hp : PredIn g lb p xs w) (hx : Ints w w.heap.size A xs) :
    Calls Try.prog 218 #[.slice A xs.length c, .func (.func g) #[] lb] w fun e w' => (∃ r : Int, e = .returned (.int .i64 r) ∧ (decide (0 ≤ r) = xs.any p)) ∧ Below w.heap.size w w' := by
  have hlen := hx.1
  have HX := Lib.hid hx
  have HP := Lib.hid hp
  clear hx hp
  go_enter Try.func218, Try.ntmps218
  go_wp2
  go_loopg [5, 8] xs.length (fun gg _ s8 wr => ∃ k : Nat, k ≤ xs.length ∧ xs.length - k ≤ gg ∧ s8 = .int .i64 k ∧ Aside (Below w.heap.size w wr) ∧ Aside ((xs.take k).any p = false))
  case atStart => exact ⟨0, Nat.zero_le _, by omega, rfl, Below.refl _ w, by show ((xs.take 0).any p = false); simp⟩
  case round =>
    obtain ⟨k, hk, hg, rfl, BW, AN⟩ := hrel
    by_cases hlt : k < xs.length
    · have hltz : (k : Int) < (xs.length : Int) := by omega
      obtain ⟨b, off, rfl, hb, hc⟩ := HX.out.at_ hlt
      have hc2 := (BW.out.cell (p := ⟨b, off + k, none⟩) hb).trans hc
      clear hc
      have hcall := HP.out wr xs[k] (List.getElem_mem hlt) BW.out
      have hs := any_split p xs k hlt AN.out
      have HS := Lib.hid hs
      clear hs
      have HY : Hid (∃ y, y = xs[k]) := ⟨_, rfl⟩
      generalize xs[k] = y at hc2 hcall HS
      cases hq : p y with
      | true =>
        rw [hq] at hcall HS
        go_wp2_with (go_at_fn g; refine hcall.mono ?_; rintro e w' ⟨rfl, hb'⟩)
        go_ret
        refine ⟨⟨_, rfl, ?_⟩, BW.out.trans (hb'.mono BW.out.size)⟩
        have h1 : xs.any p = true := by
          rw [← List.take_append_drop (k + 1) xs, List.any_append, HS.out, Bool.true_or]
        rw [h1]; simp
      | false =>
        rw [hq] at hcall HS
        go_wp2_with (go_at_fn g; refine hcall.mono ?_; rintro e w' ⟨rfl, hb'⟩)
        go_roundg (xs.length - (k + 1))
        case measure => omega
        case rel => exact ⟨k + 1, by omega, by omega, by go_num, BW.out.trans (hb'.mono BW.out.size), HS.out⟩
    · have hltz : ¬ (k : Int) < (xs.length : Int) := by omega
      have he : k = xs.length := by omega
      have HE := Lib.hid he
      clear he
      go_wp2
      go_ret
      refine ⟨⟨_, rfl, ?_⟩, BW.out⟩
      have h1 := AN.out
      rw [HE.out, List.take_length] at h1
      rw [h1]; rfl

theorem containsFunc_in (g : Nat) (lb : Array Value) (p : Int → Bool) (eg : ∀ args w, (callFunc g args).run Try.prog w = .ok (.enter g args) w)
    (A : Option Addr) (c : Nat) (xs : List Int) (w : World) (hp : PredIn g lb p xs w) (hx : Ints w w.heap.size A xs) :
    Calls Try.prog 184 #[.slice A xs.length c, .func (.func g) #[] lb] w fun e w' => e = .returned (.bool (xs.any p)) ∧ Below w.heap.size w w' := by
  have hi := indexFunc_in g lb p eg A c xs w hp hx
  have HI := Lib.hid hi
  clear hi hp hx
  go_enter Try.func184, Try.ntmps184
  go_wp2_with (go_at_call 218; refine HI.out.mono ?_; rintro e w' ⟨⟨r, rfl, hr⟩, hb'⟩; have HR := Lib.hid hr; clear hr)
  go_ret
  exact ⟨by rw [← HR.out]; rfl, hb'⟩
end Go.Proofs.Ytkoaaagmcjjimaa
