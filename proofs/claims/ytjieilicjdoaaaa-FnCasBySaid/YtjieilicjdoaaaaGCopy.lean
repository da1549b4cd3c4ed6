/- The reader of drawn bytes: what one pick hands back (some number within its bounds), and that it turns nothing but its own count. -/
import Derived.Test.YtjieilicjdoaaaaOpen
import Derived.Test.YtjieilicjdoaaaaGBase
import Derived.Laws.BitsAllLaws
import Derived.Laws.BitsLemmas
import Derived.StillTailTactics
namespace Go.Proofs.Ytjieilicjdoaaaa
open Go.RowKit

/-- A reader lies in block R: its bytes lie below it, and it has picked p times. -/
def Rd (w : World) (R : Nat) (p : Int) : Prop :=
 ∃ A c xs, xs.length ≤ 2000 ∧ Bytes w R A xs ∧ w.cell? ⟨R, 0, none⟩ = some (.slice A xs.length c) ∧ w.cell? ⟨R, 1, none⟩ = some (.int .i64 p) ∧ (∀ i, w.frozen? ⟨R, i, none⟩ = false) ∧ 0 ≤ p ∧ R < w.heap.size

theorem Bytes.keep {w w' : World} {B : Nat} {A : Option Addr} {xs : List Int} (h : Bytes w B A xs) (hk : ∀ b, b < B → w'.heap[b]? = w.heap[b]?) : Bytes w' B A xs :=
 ⟨h.1, fun hl => by
  obtain ⟨b, off, hA, hB, hc⟩ := h.2.1 hl
  exact ⟨b, off, hA, hB, fun j x hx => (World.cell?_of_block (a := ⟨b, off + j, none⟩) (hk b hB)).trans (hc j x hx)⟩, h.2.2⟩
theorem Bytes.at_ {w : World} {B : Nat} {A : Option Addr} {xs : List Int} (h : Bytes w B A xs) {k : Nat} (hk : k < xs.length) :
  ∃ b off, A = some ⟨b, off, none⟩ ∧ b < B ∧ w.cell? ⟨b, off + k, none⟩ = some (.int .u8 (xs[k]'hk)) ∧ 0 ≤ xs[k] ∧ xs[k] ≤ 255 := by
 obtain ⟨b, off, hA, hb, hc⟩ := h.2.1 (by omega)
 have := h.2.2 xs[k] (List.getElem_mem hk)
 exact ⟨b, off, hA, hb, hc k _ (List.getElem?_eq_getElem hk), this.1, this.2⟩
theorem Rd.grown {w w' : World} {R : Nat} {p : Int} (h : Rd w R p) (hg : Below w.heap.size w w') : Rd w' R p := by
 obtain ⟨A, c, xs, h1, h2, h3, h4, h5, h6, h7⟩ := h
 exact ⟨A, c, xs, h1, h2.keep (fun b hb => hg.block b (by omega)), (hg.cell (p := ⟨R, 0, none⟩) h7).trans h3, (hg.cell (p := ⟨R, 1, none⟩) h7).trans h4, fun i => (hg.frozen (p := ⟨R, i, none⟩) h7).trans (h5 i), h6, by have := hg.size; omega⟩
theorem Rd.picked {w : World} {R : Nat} {p q : Int} (h : Rd w R p) (hq : 0 ≤ q) : Rd (w.setCell ⟨R, 1, none⟩ (.int .i64 q)) R q := by
 obtain ⟨A, c, xs, h1, h2, h3, h4, h5, h6, h7⟩ := h
 refine ⟨A, c, xs, h1, h2.keep (fun b hb => Below.heap_setCell w ⟨R, 1, none⟩ _ b (by show b ≠ R; omega)), ?_, ?_, ?_, hq, by simpa [World.setCell] using h7⟩
 ·
  rw [World.cell?_setCell_other _ _ _ _ (by simp)]; exact h3
 ·
  obtain ⟨v', hv⟩ := cell?_setCell_some (w := w) (p := ⟨R, 1, none⟩) (x := .int .i64 q) (q := ⟨R, 1, none⟩) (v := .int .i64 p) h4
  have := World.cell?_setCell_same w ⟨R, 1, none⟩ (.int .i64 q) h4
  exact this
 ·
  intro i
  have := h5 i
  rw [World.frozen?_setCell]; exact this

/-- The world w' is w but for block R, and has perhaps more memory. -/
structure Turned (R : Nat) (w w' : World) : Prop where
 os : w'.os = w.os
 tape : w'.tape = w.tape
 output : w'.output = w.output
 size : w.heap.size ≤ w'.heap.size
 block : ∀ b, b < w.heap.size → b ≠ R → w'.heap[b]? = w.heap[b]?
theorem Turned.refl (R : Nat) (w : World) : Turned R w w := ⟨rfl, rfl, rfl, Nat.le_refl _, fun _ _ _ => rfl⟩
theorem Turned.trans {R : Nat} {a b c : World} (h : Turned R a b) (k : Turned R b c) : Turned R a c :=
 ⟨k.os.trans h.os, k.tape.trans h.tape, k.output.trans h.output, Nat.le_trans h.size k.size, fun i hi hr => (k.block i (Nat.lt_of_lt_of_le hi h.size) hr).trans (h.block i hi hr)⟩
theorem Turned.of_below {R : Nat} {w w' : World} (h : Below w.heap.size w w') : Turned R w w' := ⟨h.os, h.tape, h.output, h.size, fun b hb _ => h.block b hb⟩
theorem Turned.of_inside {R : Nat} {w w' : World} (h : Inside R (R + 1) w w') : Turned R w w' := ⟨h.os, h.tape, h.output, by rw [h.size]; exact Nat.le_refl _, fun b _ hr => h.block b (by omega)⟩
theorem Turned.below {R B : Nat} {w w' : World} (h : Turned R w w') (hB : B ≤ R) (hs : B ≤ w.heap.size) : Below B w w' := ⟨h.os, h.tape, h.output, h.size, fun k hk => h.block k (by omega) (by omega)⟩
theorem Turned.drewN {R : Nat} {a w : World} (h : Turned R a w) (n : Nat) : Turned R a (w.drewN n) := ⟨h.os, h.tape, h.output, h.size, h.block⟩
/-- What lies from block lo on, above R, is as it was. -/
theorem Turned.agree {R lo B : Nat} {w w' : World} (h : Turned R w w') (hlo : R < lo) (hB : B ≤ w.heap.size) : Agree (some lo) B w w' := fun b hb hl => h.block b (by omega) (by have := hl lo rfl; omega)
theorem OwnI.turned {w w' : World} {base R : Nat} {A : Option Addr} {xs : List Int} (h : OwnI w base A xs) (ht : Turned R w w') (hh : R < base) : OwnI w' base A xs := fun h0 => by
 obtain ⟨g, hA, hg, hw⟩ := h h0
 exact ⟨g, hA, hg, hw.keep (ht.block g hw.lt (by omega))⟩

/-- A reader that has picked no more than P times. -/
def RdB (w : World) (R P : Nat) : Prop := ∃ p : Nat, p ≤ P ∧ Rd w R p
theorem RdB.grown {w w' : World} {R P : Nat} (h : RdB w R P) (hg : Below w.heap.size w w') : RdB w' R P := by
 obtain ⟨p, hp, hr⟩ := h
 exact ⟨p, hp, hr.grown hg⟩
theorem RdB.drewN {w : World} {R P : Nat} (h : RdB w R P) (n : Nat) : RdB (w.drewN n) R P := h
theorem RdB.mono {w : World} {R P Q : Nat} (h : RdB w R P) (hq : P ≤ Q) : RdB w R Q := by
 obtain ⟨p, hp, hr⟩ := h
 exact ⟨p, by omega, hr⟩
theorem RdB.lt {w : World} {R P : Nat} (h : RdB w R P) : R < w.heap.size := by
 obtain ⟨p, hp, A, c, xs, h1, h2, h3, h4, h5, h6, h7⟩ := h
 exact h7

theorem Rd.low {w w' : World} {R B : Nat} {p : Int} (h : Rd w R p) (hg : Below B w w') (hB : R < B) : Rd w' R p := by
 obtain ⟨A, c, xs, h1, h2, h3, h4, h5, h6, h7⟩ := h
 exact ⟨A, c, xs, h1, h2.keep (fun b hb => hg.block b (by omega)), (hg.cell (p := ⟨R, 0, none⟩) hB).trans h3, (hg.cell (p := ⟨R, 1, none⟩) hB).trans h4, fun i => (hg.frozen (p := ⟨R, i, none⟩) hB).trans (h5 i), h6, by have := hg.size; omega⟩
theorem RdB.low {w w' : World} {R P B : Nat} (h : RdB w R P) (hg : Below B w w') (hB : R < B) : RdB w' R P := by
 obtain ⟨p, hp, hr⟩ := h
 exact ⟨p, hp, hr.low hg hB⟩
theorem Turned.grown {R : Nat} {a w w' : World} {row : Option Nat} (h : Turned R a w) (hg : w.grownBy w' row) (hr : ∀ k, row = some k → a.heap.size ≤ k) : Turned R a w' :=
 ⟨hg.os.trans h.os, hg.tape.trans h.tape, hg.output.trans h.output, Nat.le_trans h.size hg.size, fun b hb hne => (hg.block b (Nat.lt_of_lt_of_le hb h.size) fun he => by have := hr b he.symm; omega).trans (h.block b hb hne)⟩
theorem Turned.alloc {R : Nat} {a w : World} (h : Turned R a w) (o : Obj) : Turned R a (w.alloc o) := h.trans (Turned.of_below ((Below.refl _ _).alloc (Nat.le_refl _) o))
theorem Turned.then {R : Nat} {a b c : World} (h : Turned R a b) (k : Below b.heap.size b c) : Turned R a c := h.trans (Turned.of_below k)

theorem ofInt_i64 (a : Nat) (ha : a < 9223372036854775808) : (BitVec.ofInt 64 (a : Int)).toNat = a := by
 rw [BitVec.ofInt_natCast, BitVec.toNat_ofNat]; exact Nat.mod_eq_of_lt (by omega)
theorem i64_xor_nat (a b : Nat) (ha : a < 9223372036854775808) (hb : b < 9223372036854775808) : bits .xor .i64 (a : Int) (b : Int) = ((a ^^^ b : Nat) : Int) := by
 have hx : a ^^^ b < 2 ^ 63 := Nat.xor_lt_two_pow (by omega) (by omega)
 show IntKind.i64.wrap ((BitVec.ofInt 64 (a : Int) ^^^ BitVec.ofInt 64 (b : Int)).toNat : Int) = _
 rw [BitVec.toNat_xor, ofInt_i64 a ha, ofInt_i64 b hb, IntKind.wrap_i64]
 omega
theorem xor_nonneg (a b : Int) (ha : 0 ≤ a) (ha' : a < 9223372036854775808) (hb : 0 ≤ b) (hb' : b < 9223372036854775808) : ∃ x : Int, bits .xor .i64 a b = x ∧ 0 ≤ x ∧ x < 9223372036854775808 := by
 obtain ⟨A, rfl⟩ := Int.eq_ofNat_of_zero_le ha
 obtain ⟨B, rfl⟩ := Int.eq_ofNat_of_zero_le hb
 have h1 := Nat.xor_lt_two_pow (n := 63) (x := A) (y := B) (by omega) (by omega)
 exact ⟨_, i64_xor_nat A B (by omega) (by omega), by omega, by omega⟩

/-- What one pick leaves: some number from 0 on, below n where n is at least 1; the reader has picked once more; nothing else has turned. -/
def Picked (R P : Nat) (n : Int) (w : World) (e : Ending) (w' : World) : Prop :=
 ∃ v : Int, e = .returned (.int .i64 v) ∧ 0 ≤ v ∧ (1 ≤ n → v < n) ∧ (n < 1 → v = 0) ∧ RdB w' R (P + 1) ∧ Turned R w w'

set_option maxRecDepth 100000 in
set_option maxHeartbeats 1000000 in
theorem l20Rd_pick (R P : Nat) (n : Int) (w : World) (h : RdB w R P) (hP : P ≤ 1000000) (hn : n ≤ 4611686018427387904) :
  Calls Try.prog 47 #[.pointer (some ⟨R, 0, none⟩), .int .i64 n] w (Picked R P n w) := by
 obtain ⟨p, hp, A, c, xs, h1, h2, h3, h4, h5, h6, h7⟩ := h
 have HR := Lib.hid (Rd.picked (w := w) (R := R) (p := p) (q := (p : Int) + 1) ⟨A, c, xs, h1, h2, h3, h4, h5, h6, h7⟩ (by omega))
 have HT := Lib.hid (Turned.of_inside (Inside.setCell (lo := R) (hi := R + 1) (w := w) (p := ⟨R, 1, none⟩) (Nat.le_refl _) (Nat.lt_succ_self _) (.int .i64 ((p : Int) + 1))))
 have HE : ∀ k, Hid (RdB ((w.setCell ⟨R, 1, none⟩ (.int .i64 ((p : Int) + 1))).drewN k) R (P + 1)) := fun k => Lib.hid ⟨p + 1, by omega, HR.out⟩
 have HB := Lib.hid (h2.keep (w' := w.setCell ⟨R, 1, none⟩ (.int .i64 ((p : Int) + 1))) (fun b hb => Below.heap_setCell w ⟨R, 1, none⟩ _ b (by show b ≠ R; omega)))
 clear h2 HR
 by_cases hn1 : n < 1
 ·
  go_enter Try.func47, Try.ntmps47
  go_wp2
  go_ret
  exact ⟨0, rfl, by omega, by omega, by omega, (HE 0).out, HT.out⟩
 by_cases hx : xs.length = 0
 ·
  go_enter Try.func47, Try.ntmps47
  go_wp2
  go_ret
  exact ⟨0, rfl, by omega, by omega, by omega, (HE 0).out, HT.out⟩
 by_cases hpl : p < xs.length
 ·
  have hplz : (p : Int) < (xs.length : Int) := by omega
  obtain ⟨b, off, rfl, hb, hc, hc0, hc1⟩ := HB.out.at_ hpl
  generalize xs[p] = y at hc hc0 hc1
  go_enter Try.func47, Try.ntmps47
  go_wp2
  go_ret
  refine ⟨_, rfl, ?_, ?_, by omega, (HE 0).out, HT.out⟩
  ·
   exact Int.emod_nonneg _ (by omega)
  ·
   exact fun _ => Int.emod_lt_of_pos _ (by omega)
 ·
  have hplz : ¬ (p : Int) < (xs.length : Int) := by omega
  have hq := Nat.mod_lt p (by omega : 0 < xs.length)
  have hq' := Nat.mod_lt (p * 7 + 3) (by omega : 0 < xs.length)
  obtain ⟨b, off, rfl, hb, hc, hc0, hc1⟩ := HB.out.at_ hq
  obtain ⟨b', off', hA, hb', hc', hc0', hc1'⟩ := HB.out.at_ hq'
  cases hA
  have e1 : Int.tmod (p : Int) (xs.length : Int) = ((p % xs.length : Nat) : Int) := by rfl
  have e2 : Int.tmod ((p : Int) * 7 + 3) (xs.length : Int) = (((p * 7 + 3) % xs.length : Nat) : Int) := by rfl
  generalize xs[p % xs.length] = y at hc hc0 hc1
  generalize xs[(p * 7 + 3) % xs.length] = y' at hc' hc0' hc1'
  have e3 : Int.tdiv (p : Int) (xs.length : Int) = ((p / xs.length : Nat) : Int) := by rfl
  have hq3 := Nat.div_le_self p xs.length
  generalize p / xs.length = d at e3 hq3
  generalize p % xs.length = m1 at e1 hc hq
  generalize (p * 7 + 3) % xs.length = m2 at e2 hc' hq'
  have HZ := Lib.hid (xor_nonneg (y * 131 + y' * 1117 + ↑p * 29 + ↑d * 53) ((y * 131 + y' * 1117 + ↑p * 29 + ↑d * 53) / 64) (by omega) (by omega) (by omega) (by omega))
  go_enter Try.func47, Try.ntmps47
  go_wp2
  go_quiet (fail)
  go_wp2
  go_ret
  refine ⟨_, rfl, ?_, ?_, by omega, (HE _).out, HT.out.drewN _⟩
  ·
   obtain ⟨z, hz, hz0, hz1⟩ := HZ.out
   rw [hz]; exact Int.tmod_nonneg _ hz0
  ·
   obtain ⟨z, hz, hz0, hz1⟩ := HZ.out
   intro _; rw [hz]; exact Int.tmod_lt_of_pos _ (by omega)
end Go.Proofs.Ytjieilicjdoaaaa

/- Slices of records copied and compared: what the copies read as, and that equal slices are found equal. -/
namespace Go.Proofs.Ytjieilicjdoaaaa
open Go.RowKit

theorem setCells_put (cs : List Value) : ∀ (w : World) (g o : Nat), w.setCells g o cs = putCells w g o cs := by
 induction cs with
 | nil => intro w g o; rfl
 | cons c cs ih => intro w g o; exact ih _ g (o + 1)

/-- A struct stored into a row, told at the operation: its cells are put one behind the other. -/
theorem wpList_store_agg {ops : Array Oper} {rest : List Oper} {o : Oper} {a : Act} {w : World} {Q : Exit → Act → World → Prop} (hg : o.guard = none) (ty : TypeId) (x y : Operand) (ho : o.op = .store ty x y)
  (b off : Nat) (cs : List Value) (hx : a.eval x = .pointer (some ⟨b, off, none⟩)) (hy : a.eval y = .agg cs.toArray) (hi : (Try.prog.info? ty).map (·.size) = some cs.length)
  (hc : ∀ j, j < cs.length → (w.cell? ⟨b, off + j, none⟩).isSome = true) (hf : ∀ j, w.frozen? ⟨b, j, none⟩ = false) (h1 : ∀ v ∈ cs, v.oneCell' = true)
  (h : wpList Try.prog ops Q rest (a.put o.dst undef) (putCells w b off cs)) : wpList Try.prog ops Q (o :: rest) a w := by
 refine wpList_plain hg fun K hK => ?_
 have hs := run_storeCells_cells (P := Try.prog) b off cs 0 w (by simpa using hc) (fun j _ => hf _) h1
 unfold Oper.wp execOp
 cases hq : Try.prog.info? ty with
 | none => simp [hq] at hi
 | some i =>
  have hsz : i.size = cs.length := by simpa [hq] using hi
  simp only [ho, hx, hy, Instr.storeAt, Instr.sureAddr, Sem.run_bind, Sem.run_pure, Result.andThen_ok]
  simp [storeVar, sizeOf, typeInfo, hq, Value.cells, hsz, hs, setCells_put]
  exact hK _ _ h

end Go.Proofs.Ytjieilicjdoaaaa

/- Slices of CasItem records copied and compared: what the copies read as, and that equal slices are found equal. -/
namespace Go.Proofs.Ytjieilicjdoaaaa
open Go.RowKit

theorem info_Item : (Try.prog.info? 111).map (fun i => (i.zero, i.size, i.bytes)) = some (some (.agg #[.int .i64 0, .int .i64 0, .int .i64 0]), 3, 24) := by kernel_rfl

end Go.Proofs.Ytjieilicjdoaaaa

/- Slices of CasDid records copied and compared: what the copies read as, and that equal slices are found equal. -/
namespace Go.Proofs.Ytjieilicjdoaaaa
open Go.RowKit

end Go.Proofs.Ytjieilicjdoaaaa

/- CasCase: how its struct reads, its copies, its comparison. -/
namespace Go.Proofs.Ytjieilicjdoaaaa
open Go.RowKit

structure GCase where
 state : Int
 marks : List Int
 busy : List GItem
 data : List Int
 did : List GDid

end Go.Proofs.Ytjieilicjdoaaaa

/- A reader of drawn bytes opened. -/
namespace Go.Proofs.Ytjieilicjdoaaaa
open Go.RowKit

/-- What opening a reader leaves. -/
def Opened (w : World) (e : Ending) (w' : World) : Prop := e = .returned (.pointer (some ⟨w.heap.size, 0, none⟩)) ∧ RdB w' w.heap.size 0 ∧ Below w.heap.size w w'

theorem take_bytes {w : World} {B : Nat} {A : Option Addr} {xs : List Int} (h : Bytes w B A xs) (n : Nat) : Bytes w B A (xs.take n) :=
 ⟨by rw [List.length_take]; have := h.1; omega, (fun h0 => by
  obtain ⟨b, off, hA, hb, hc⟩ := h.2.1 (by rw [List.length_take] at h0; omega)
  refine ⟨b, off, hA, hb, fun j x hx => hc j x ?_⟩
  rw [List.getElem?_take] at hx
  split at hx
  ·
   exact hx
  ·
   cases hx), fun x hx => h.2.2 x (List.mem_of_mem_take hx)⟩

theorem l20Open (A : Option Addr) (c : Nat) (xs : List Int) (w : World) (h : Code w w.heap.size A c xs) :
  Calls Try.prog 46 #[.slice A xs.length c] w (Opened w) := by
 obtain ⟨h1, h2⟩ := h
 have hl := h1.1
 have HB := Lib.hid h1
 clear h1
 by_cases hx : 2000 < xs.length
 ·
  have hxz : (2000 : Int) < (xs.length : Int) := by omega
  go_enter Try.func46, Try.ntmps46
  go_wp2
  go_ret
  refine ⟨rfl, ?_, by go_grown⟩
  have b0 : Bk (w.alloc (.cells #[.slice A 2000 c, .int .i64 0] 94)) w.heap.size 94 #[.slice A 2000 c, .int .i64 0] := Bk.new rfl
  have hl2 : (xs.take 2000).length = 2000 := by rw [List.length_take]; omega
  exact ⟨0, Nat.le_refl _, A, c, xs.take 2000, by omega, (take_bytes HB.out 2000).keep fun b hb => Below.heap_alloc _ _ _ hb, by rw [hl2]; exact b0.cell 0, b0.cell 1, fun i => b0.frozen i, Int.le_refl _, b0.lt⟩
 ·
  have hxz : ¬ (2000 : Int) < (xs.length : Int) := by omega
  go_enter Try.func46, Try.ntmps46
  go_wp2
  go_ret
  refine ⟨rfl, ?_, by go_grown⟩
  have b0 : Bk (w.alloc (.cells #[.slice A xs.length c, .int .i64 0] 94)) w.heap.size 94 #[.slice A xs.length c, .int .i64 0] := Bk.new rfl
  exact ⟨0, Nat.le_refl _, A, c, xs, by omega, HB.out.keep fun b hb => Below.heap_alloc _ _ _ hb, b0.cell 0, b0.cell 1, fun i => b0.frozen i, Int.le_refl _, b0.lt⟩

/-- What drawing a slice of structs leaves: some data, no more than n, in memory of the call's own. -/
def Drawn {α : Type} (C : Cod α) (R Q n : Nat) (w : World) (e : Ending) (w' : World) : Prop :=
 ∃ A c xs, e = .returned (.slice A xs.length c) ∧ xs.length ≤ n ∧ Rows C (some w.heap.size) w' w'.heap.size A xs ∧ RdB w' R Q ∧ Turned R w w'

theorem Kept.of_turned {R base : Nat} {w w' : World} (h : Turned R w w') (hR : R < base) : Kept base w w' := ⟨h.size, fun b hb hlo => h.block b hb (by omega)⟩
end Go.Proofs.Ytjieilicjdoaaaa

/- What was done, drawn: l20Did, alone. -/
namespace Go.Proofs.Ytjieilicjdoaaaa
open Go.RowKit

theorem info_did : (Try.prog.info? 53).map (fun i => (i.zero, i.size, i.bytes)) = some (some (.agg #[.int .i64 0, .int .i64 0]), 2, 16) := by kernel_rfl

end Go.Proofs.Ytjieilicjdoaaaa

/- Rows of ints while a reader draws. -/
namespace Go.Proofs.Ytjieilicjdoaaaa
open Go.RowKit

theorem append_ints {ops : Array Oper} {rest : List Oper} {o : Oper} {a : Act} {w : World} {Q : Exit → Act → World → Prop} (hgd : o.guard = none) (s x : Operand)
  (ho : o.op = .call { callee := .builtin .append, args := #[s, x], argTypes := #[23, 23] })
  (base : Nat) (v : Value) (xs : List Int) (hs : a.eval s = v) (hown : OwnV w base v xs)
  (g c : Nat) (ys : List Int) (hx : a.eval x = .slice (some ⟨g, 0, none⟩) ys.length c) (hnew : ∀ j y, ys[j]? = some y → w.cell? ⟨g, j, none⟩ = some (.int .i64 y)) (hn : xs.length + ys.length ≤ 16777217) (hbase : base ≤ w.heap.size)
  (h : ∀ v' w', OwnV w' base v' (xs ++ ys) → w.grownBy w' v.ownBlock → Below base w w' → wpList Try.prog ops Q rest (a.put o.dst v') w') : wpList Try.prog ops Q (o :: rest) a w := by
 obtain ⟨i, hi, hz, hsize, hbytes⟩ := info_parts info_int
 refine wpList_append_own w hgd s x 23 ho base 3 i (.int .i64 0) 1 8 Try.underlying23 hi hz hsize hbytes rfl (by decide) v xs.length (iv xs) hs hown ⟨g, 0, none⟩ ys.length c (iv ys) hx (by rw [iv_len]; omega) (fun j u hu => ?_) (fun u hu => ?_) (by unfold maxLen; omega) (by omega) hbase fun v' w' h2 h3 _ => ?_
 ·
  have hadd : (⟨g, 0, none⟩ : Addr).add j = ⟨g, j, none⟩ := by unfold Addr.add; split <;> simp_all
  rw [hadd]
  simp only [iv, List.getElem?_map, Option.map_eq_some_iff] at hu
  obtain ⟨y, hy, rfl⟩ := hu
  exact hnew j y hy
 ·
  simp only [iv, List.mem_map] at hu
  obtain ⟨y, _, rfl⟩ := hu
  rfl
 ·
  exact h v' w' (by unfold OwnV; rw [iv_append, List.length_append]; exact h2) h3 ((Below.refl _ _).grown h3 hbase fun k hk => (hown.lt k hk).1)

theorem OwnV.kept {w w' : World} {base : Nat} {v : Value} {xs : List Int} (h : OwnV w base v xs) (hk : Kept base w w') : OwnV w' base v xs := by
 refine ⟨h.1, ?_⟩
 rcases h.2 with hn | ⟨g, cap, cur, hv, hb, hgg, rest⟩
 ·
  exact .inl hn
 ·
  exact .inr ⟨g, cap, cur, hv, hb, (hk.2 g (Array.getElem?_eq_some_iff.1 hgg).1 hb).trans hgg, rest⟩
theorem OwnV.form' {w : World} {base : Nat} {v : Value} {xs : List Int} (h : OwnV w base v xs) : ∃ A c, v = .slice A xs.length c ∧ xs.length ≤ c ∧ (0 < xs.length → ∃ g, A = some ⟨g, 0, none⟩ ∧ base ≤ g ∧ Wr w g 3 (iv xs)) := by
 rcases h.2 with ⟨h1, h2⟩ | ⟨g, cap, cur, hv, hb, hh, hcap, _, _, ht⟩
 ·
  exact ⟨none, 0, by rw [h1, h2], by omega, fun h0 => by omega⟩
 ·
  exact ⟨some ⟨g, 0, none⟩, cap, hv, hcap, fun _ => ⟨g, rfl, hb, cur, hh, by rw [iv_len]; simpa using ht⟩⟩
theorem OwnV.made {w : World} {base : Nat} (hb : base ≤ w.heap.size) (cap : Nat) (cur : Array Value) (hm : cap ≤ maxLen) (hs : cur.size = cap) : OwnV (w.alloc (.cells cur 3)) base (.slice (some ⟨w.heap.size, 0, none⟩) 0 cap) [] :=
 World.ownsRow_made w cur cap hb hm (by omega)
theorem OwnI.kept {w w' : World} {base : Nat} {A : Option Addr} {xs : List Int} (h : OwnI w base A xs) (hk : Kept base w w') : OwnI w' base A xs := fun h0 => by
 obtain ⟨g, hA, hg, hw⟩ := h h0
 exact ⟨g, hA, hg, hw.keep (hk.2 g hw.lt hg)⟩
theorem Bk.turned {w w' : World} {g R : Nat} {t : TypeId} {cs : Array Value} (h : Bk w g t cs) (ht : Turned R w w') (hg : g ≠ R) : Bk w' g t cs := (ht.block g h.lt hg).trans h

theorem iv_put (xs : List Int) (i : Nat) (z : Int) : (iv xs).set i (.int .i64 z) = iv (xs.set i z) := by simp [iv, List.map_set]
/-- What is turned in memory of the call's own counts for nothing. -/
theorem Turned.trans' {R : Nat} {a b c : World} (h : Turned R a b) (k : Below a.heap.size b c) : Turned R a c :=
 ⟨k.os.trans h.os, k.tape.trans h.tape, k.output.trans h.output, Nat.le_trans h.size k.size, fun i hi hr => (k.block i hi).trans (h.block i hi hr)⟩

/-- What drawing a slice of ints leaves: some numbers, no more than n, in memory of the call's own. -/
def DrawnI (R Q n : Nat) (w : World) (e : Ending) (w' : World) : Prop :=
 ∃ A c xs, e = .returned (.slice A xs.length c) ∧ xs.length ≤ n ∧ xs.length ≤ c ∧ OwnI w' w.heap.size A xs ∧ RdB w' R Q ∧ Turned R w w'

end Go.Proofs.Ytjieilicjdoaaaa

