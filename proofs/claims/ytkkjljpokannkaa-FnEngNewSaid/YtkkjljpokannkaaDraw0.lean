/- A reader of drawn bytes opened. -/
import Derived.Test.YtkkjljpokannkaaPick
import Derived.Test.YtkkjljpokannkaaAppRow
namespace Go.Proofs.Ytkkjljpokannkaa
open Go.RowKit

/-- What opening a reader leaves. -/
def Opened (w : World) (e : Ending) (w' : World) : Prop := e = .returned (.pointer (some ⟨w.heap.size, 0, none⟩)) ∧ RdB w' w.heap.size 0 ∧ Below w.heap.size w w'

theorem take_bytes {w : World} {B : Nat} {A : Option Addr} {xs : List Int} (h : Bytes w B A xs) (n : Nat) : Bytes w B A (xs.take n) :=
  ⟨by rw [List.length_take]; have := h.1; omega, (fun h0 => by
    obtain ⟨b, off, hA, hb, hc⟩ := h.2.1 (by rw [List.length_take] at h0; omega)
    refine ⟨b, off, hA, hb, fun j x hx => hc j x ?_⟩
    rw [List.getElem?_take] at hx
    split at hx
    · exact hx
    · cases hx), fun x hx => h.2.2 x (List.mem_of_mem_take hx)⟩

theorem l20Open (A : Option Addr) (c : Nat) (xs : List Int) (w : World) (h : Code w w.heap.size A c xs) :
    Calls Try.prog 95 #[.slice A xs.length c] w (Opened w) := by
  obtain ⟨h1, h2⟩ := h
  have hl := h1.1
  have HB := Lib.hid h1
  clear h1
  by_cases hx : 2000 < xs.length
  · have hxz : (2000 : Int) < (xs.length : Int) := by omega
    go_enter Try.func95, Try.ntmps95
    go_wp2
    go_ret
    refine ⟨rfl, ?_, by go_grown⟩
    have b0 : Bk (w.alloc (.cells #[.slice A 2000 c, .int .i64 0] 190)) w.heap.size 190 #[.slice A 2000 c, .int .i64 0] := Bk.new rfl
    have hl2 : (xs.take 2000).length = 2000 := by rw [List.length_take]; omega
    exact ⟨0, Nat.le_refl _, A, c, xs.take 2000, by omega, (take_bytes HB.out 2000).keep fun b hb => Below.heap_alloc _ _ _ hb, by rw [hl2]; exact b0.cell 0, b0.cell 1, fun i => b0.frozen i, Int.le_refl _, b0.lt⟩
  · have hxz : ¬ (2000 : Int) < (xs.length : Int) := by omega
    go_enter Try.func95, Try.ntmps95
    go_wp2
    go_ret
    refine ⟨rfl, ?_, by go_grown⟩
    have b0 : Bk (w.alloc (.cells #[.slice A xs.length c, .int .i64 0] 190)) w.heap.size 190 #[.slice A xs.length c, .int .i64 0] := Bk.new rfl
    exact ⟨0, Nat.le_refl _, A, c, xs, by omega, HB.out.keep fun b hb => Below.heap_alloc _ _ _ hb, b0.cell 0, b0.cell 1, fun i => b0.frozen i, Int.le_refl _, b0.lt⟩

/-- What drawing a slice of structs leaves: some data, no more than n, in memory of the call's own. -/
def Drawn {α : Type} (C : Cod α) (R Q n : Nat) (w : World) (e : Ending) (w' : World) : Prop :=
  ∃ A c xs, e = .returned (.slice A xs.length c) ∧ xs.length ≤ n ∧ Rows C (some w.heap.size) w' w'.heap.size A xs ∧ RdB w' R Q ∧ Turned R w w'

theorem Kept.of_turned {R base : Nat} {w w' : World} (h : Turned R w w') (hR : R < base) : Kept base w w' := ⟨h.size, fun b hb hlo => h.block b hb (by omega)⟩
end Go.Proofs.Ytkkjljpokannkaa
