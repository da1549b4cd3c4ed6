/- From a law's argument, as the statement reads it, to the lists that the walks speak of: slices of ints and of bytes. -/
import Derived.Test.YtjieilicjdoaaaaGBase
import Derived.Test.YtjieilicjdoaaaaRows
import Derived.ProofKit
import Derived.OpenShut
import Derived.ShutString
import Derived.ChangeOld
import Derived.Below
namespace Go.Proofs.Ytjieilicjdoaaaa
open Go.ChangeShapes Go.WideShapes Go.ChangeAt Go.RowKit

theorem own : ownKnob Try.prog.godebug = none := by kernel_rfl
theorem laidOut : laidOutB Try.prog = true := by kernel_rfl

/-- Bytes behind a slice's address. -/
def Bytes (w : World) (B : Nat) (A : Option Addr) (xs : List Int) : Prop :=
 xs.length ≤ 9223372036854775807 ∧ (0 < xs.length → ∃ b off, A = some ⟨b, off, none⟩ ∧ b < B ∧ ∀ j x, xs[j]? = some x → w.cell? ⟨b, off + j, none⟩ = some (.int .u8 x)) ∧ ∀ x ∈ xs, 0 ≤ x ∧ x ≤ 255

/-- Bytes behind a slice with room for c of them. -/
def Code (w : World) (B : Nat) (A : Option Addr) (c : Nat) (xs : List Int) : Prop := Bytes w B A xs ∧ xs.length ≤ c

section
variable {H : Type} {enc : TypeId × Value → H} {W : World} {d : DataW H} {p : List MemPlace} {v : Value} {base : Nat}

theorem cell_lit {a : Addr} {k : IntKind} {zs : List Int} (hcell : ∀ i, i < zs.length → W.cell? (a.add i) = some (.int k (zs.getD i 0))) (h0 : 0 < zs.length) :
  ∃ b off, a = ⟨b, off, none⟩ ∧ b < W.heap.size ∧ ∀ j x, zs[j]? = some x → W.cell? ⟨b, off + j, none⟩ = some (.int k x) := by
 obtain ⟨b, off, spot⟩ := a
 have hs : spot = none := by simpa [Addr.add] using World.cell?_spot (hcell 0 h0)
 subst hs
 have hadd : ∀ i, (⟨b, off, none⟩ : Addr).add i = ⟨b, off + i, none⟩ := by
  intro i
  unfold Addr.add
  split <;> simp_all
 refine ⟨b, off, rfl, World.block_lt_of_cell? W _ (hcell 0 h0), fun j x hx => ?_⟩
 obtain ⟨hj, hjx⟩ := List.getElem?_eq_some_iff.1 hx
 have h1 := hcell j hj
 rw [hadd, List.getD_eq_getElem?_getD, hx] at h1
 exact h1

set_option maxRecDepth 100000 in
theorem open_byteS (hv : Value.okWide Try.prog W .any base 39 v) (h : DataW.Trod enc Try.prog W 0 (fun _ => true) true 39 v d p) :
  ∃ A c xs, v = .slice A xs.length c ∧ Code W W.heap.size A c xs := by
 obtain ⟨A, len, cap, rfl⟩ := okWide_slice Try.underlying39 hv
 obtain ⟨fuel, hf⟩ := h
 rcases open_ints Try.underlying39 Try.underlying5 (by kernel_rfl) hf with ⟨hcs, _⟩ | ⟨x, l, c, zs, hcs, _, hl, hm, hz, _, hcell, hwz⟩
 ·
  simp [Value.cells] at hcs
  obtain ⟨rfl, rfl, rfl⟩ := hcs
  exact ⟨none, 0, [], rfl, ⟨by simp, by simp, by simp⟩, by simp⟩
 ·
  simp [Value.cells] at hcs
  obtain ⟨rfl, rfl, rfl⟩ := hcs
  have hz' : zs.length = cap := by simpa using hz
  have hlen : (zs.take len).length = len := by rw [List.length_take]; omega
  refine ⟨some x, cap, zs.take len, by rw [hlen], ⟨?_, fun h0 => ?_, fun y hy => ?_⟩, by rw [hlen]; exact hl⟩
  ·
   rw [hlen]; unfold maxLen at hm; omega
  ·
   obtain ⟨b, off, rfl, hb, hc⟩ := cell_lit hcell (by rw [hlen] at h0; omega)
   refine ⟨b, off, rfl, hb, fun j y hy => hc j y ?_⟩
   rw [List.getElem?_take] at hy
   split at hy
   ·
    exact hy
   ·
    cases hy
  ·
   have := hwz y (List.mem_of_mem_take hy)
   exact bounds_u8 this
end
end Go.Proofs.Ytjieilicjdoaaaa
