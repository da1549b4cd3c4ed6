/- A house of nets and people, as the reference makes it. -/
import Derived.Test.YtkkjljpokannkaaCopyNetS
import Derived.Test.YtkkjljpokannkaaPpl0
import Derived.Test.YtkkjljpokannkaaNetSpec
import Derived.Test.YtkkjljpokannkaaStep6
import Derived.Test.YtkkjljpokannkaaDrawEng
import Derived.Deep.RegionHeld3
namespace Go.Proofs.Ytkkjljpokannkaa
open Go.RowKit
set_option linter.unusedSimpArgs false
set_option linter.unusedVariables false

/-- The world V is w but for block g, which holds the cells cs. -/
structure PutW (w V : World) (g : Nat) (t : TypeId) (cs : Array Value) : Prop where
  bk : Bk V g t cs
  block : ∀ b, b ≠ g → V.heap[b]? = w.heap[b]?
  size : V.heap.size = w.heap.size
  os : V.os = w.os
  tape : V.tape = w.tape
  output : V.output = w.output
theorem PutW.refl {w : World} {g : Nat} {t : TypeId} {cs : Array Value} (h : Bk w g t cs) : PutW w w g t cs := ⟨h, fun _ _ => rfl, rfl, rfl, rfl, rfl⟩
theorem PutW.set {w V : World} {g : Nat} {t : TypeId} {cs cs' : Array Value} (h : PutW w V g t cs) (i : Nat) (u : Value) (hc : cs.setIfInBounds i u = cs') : PutW w (V.setCell ⟨g, i, none⟩ u) g t cs' :=
  ⟨by rw [← hc]; exact h.bk.set i u, fun b hb => (Below.heap_setCell V ⟨g, i, none⟩ u b hb).trans (h.block b hb), by rw [← h.size]; simp [World.setCell], h.os, h.tape, h.output⟩
theorem PutW.below {w V : World} {g B : Nat} {t : TypeId} {cs : Array Value} {a : World} (h : PutW w V g t cs) (hb : Below B a w) (hg : B ≤ g) : Below B a V := ⟨h.os.trans hb.os, h.tape.trans hb.tape, h.output.trans hb.output, by rw [h.size]; exact hb.size, fun q hq => (h.block q (by omega)).trans (hb.block q hq)⟩
theorem house_put {w : World} {g : Nat} {t : TypeId} {a0 a1 a2 a3 b0 b1 b2 b3 : Value} (h : Bk w g t #[a0, a1, a2, a3]) :
    PutW w ((((w.setCell ⟨g, 0, none⟩ b0).setCell ⟨g, 1, none⟩ b1).setCell ⟨g, 2, none⟩ b2).setCell ⟨g, 3, none⟩ b3) g t #[b0, b1, b2, b3] := by
  have h0 : PutW w (w.setCell ⟨g, 0, none⟩ b0) g t #[b0, a1, a2, a3] := PutW.set (PutW.refl h) 0 b0 rfl
  have h1 : PutW w ((w.setCell ⟨g, 0, none⟩ b0).setCell ⟨g, 1, none⟩ b1) g t #[b0, b1, a2, a3] := PutW.set h0 1 b1 rfl
  have h2 : PutW w (((w.setCell ⟨g, 0, none⟩ b0).setCell ⟨g, 1, none⟩ b1).setCell ⟨g, 2, none⟩ b2) g t #[b0, b1, b2, a3] := PutW.set h1 2 b2 rfl
  exact PutW.set h2 3 b3 rfl

theorem net_at {m : Option Nat} {w : World} {B : Nat} {A : Option Addr} {ns : List GNet} (h : Rows netC m w B A ns) {j : Nat} (hj : j < ns.length) :
    ∃ b off A1 c1, A = some ⟨b, off, none⟩ ∧ b < B ∧ Rows taskC m w B A1 ns[j].tasks ∧ w.cell? ⟨b, off + j * 2, none⟩ = some (.int .i64 ns[j].places) ∧ w.cell? ⟨b, off + j * 2 + 1, none⟩ = some (.slice A1 ns[j].tasks.length c1) := by
  obtain ⟨b, off, cs, hA, hb, ⟨A1, c1, hcs, h1⟩, hc⟩ := h.at_ hj
  subst hcs
  exact ⟨b, off, A1, c1, hA, hb.1, h1, hc 0 _ rfl, hc 1 _ rfl⟩
def netsOk (ns : List GNet) : Bool := inB ns.length 1 3 && ns.all netOk
theorem netsOk_few {ns : List GNet} (h : netsOk ns = true) : ns.length ≤ 3 ∧ ∀ x ∈ ns, x.tasks.length ≤ 1000 ∧ ∀ t ∈ x.tasks, taskFew t := by
  unfold netsOk at h
  simp only [Bool.and_eq_true, inB_iff, List.all_eq_true] at h
  refine ⟨by omega, fun x hx => ?_⟩
  obtain ⟨h1, h2⟩ := netOk_any (h.2 x hx)
  refine ⟨by have := h1.2.1; omega, fun t ht => ?_⟩
  obtain ⟨a, b, c, _⟩ := h2 t ht
  exact ⟨by omega, by omega, by omega⟩
theorem alln_step {ns : List GNet} {k : Nat} (hk : k < ns.length) : (ns.take (k + 1)).all netOk = ((ns.take k).all netOk && netOk ns[k]) := by
  rw [List.take_succ_eq_append_getElem hk, List.all_append]; simp
theorem alln_fail {ns : List GNet} {k : Nat} (hk : k < ns.length) (h : netOk ns[k] = false) : ns.all netOk = false := by
  rw [List.all_eq_false]
  exact ⟨_, List.getElem_mem hk, by simp [h]⟩

set_option maxHeartbeats 2000000 in
theorem spec_l9Nets (A : Option Addr) (c : Nat) (ns : List GNet) (m : Option Nat) (w : World) (h : Rows netC m w w.heap.size A ns) :
    Calls Try.prog 157 #[.slice A ns.length c] w (Says (.bool (netsOk ns)) w) := by
  have nn := h.1
  have H := Lib.hid h
  clear h
  cases hq : inB ns.length 1 3 with
  | false =>
    have HF : Hid (netsOk ns = false) := by show _ = _; rw [netsOk, hq]; rfl
    go_enter Try.func157, Try.ntmps157
    go_wp2_with (go_at_call 103; refine (l1In _ _ _ _).mono ?_; rintro e w' ⟨rfl, rfl⟩)
    go_ret
    exact ⟨by rw [HF.out]; rfl, Below.refl _ _⟩
  | true =>
  have HF : Hid (netsOk ns = ns.all netOk) := by show _ = _; rw [netsOk, hq]; rfl
  go_enter Try.func157, Try.ntmps157
  go_wp2_with (go_at_call 103; refine (l1In _ _ _ _).mono ?_; rintro e w' ⟨rfl, rfl⟩)
  clear hq
  go_loopg [3] ns.length (fun gg s3 wr => ∃ k : Nat, k ≤ ns.length ∧ ns.length - k ≤ gg ∧ s3 = .int .i64 k ∧ Aside (Below w.heap.size w wr) ∧ Aside ((ns.take k).all netOk = true))
  case atStart => exact ⟨0, Nat.zero_le _, by omega, rfl, Below.refl _ _, by show (ns.take 0).all netOk = true; simp⟩
  case round =>
    obtain ⟨k, hk, hg, rfl, BW, AL⟩ := hrel
    by_cases hlt : k < ns.length
    · have hltz : (k : Int) < (ns.length : Int) := by omega
      obtain ⟨b, off, A1, c1, rfl, hb, hr, t0, t1⟩ := net_at (H.out.later BW.out) hlt
      have HR := Lib.hid hr
      have HS := Lib.hid (alln_step hlt)
      have HX : Hid (netOk ns[k] = false → ns.all netOk = false) := alln_fail hlt
      clear hr
      generalize ns[k] = x at HR t0 t1 HS HX
      go_wp2_with fail
      refine (spec_NetOk x _ _ _ ⟨A1, c1, rfl, HR.out⟩).mono ?_
      rintro e w1 ⟨rfl, hb1⟩
      have B1 := Lib.hid (BW.out.trans (hb1.mono BW.out.size))
      clear hb1
      cases hok : netOk x with
      | false =>
        have HZ := Lib.hid (HX.out hok)
        clear hok
        go_wp2
        go_ret
        exact ⟨by rw [HF.out, HZ.out]; rfl, B1.out⟩
      | true =>
        have HZ : Hid ((ns.take (k + 1)).all netOk = true) := by show _ = _; rw [HS.out, AL.out, hok]; rfl
        clear hok
        go_wp2
        go_roundg (ns.length - (k + 1))
        case measure => omega
        case rel => exact ⟨k + 1, by omega, by omega, by go_num, B1.out, HZ.out⟩
    · have hltz : ¬ (k : Int) < (ns.length : Int) := by omega
      have he : k = ns.length := by omega
      have HA : Hid (ns.all netOk = true) := by show _ = _; have h1 := AL.out; rw [he, List.take_length] at h1; exact h1
      clear he
      go_wp2
      go_ret
      exact ⟨by rw [HF.out, HA.out]; rfl, BW.out⟩

/-- What making a house leaves. -/
def GivesH (hn : List GNet) (hp : List Int) (w : World) (e : Ending) (w' : World) : Prop :=
  ∃ A c AP cP, e = .returned (.agg #[.slice A (List.length (α := GNet) hn) c, .slice AP (List.length (α := Int) hp) cP, .slice none 0 0, .slice none 0 0]) ∧ Rows netC (some w.heap.size) w' w'.heap.size A hn ∧ Rows intC (some w.heap.size) w' w'.heap.size AP hp ∧ Below w.heap.size w w'
def engOk (ns : List GNet) (ps : List Int) : Bool := netsOk ns && pplOk ps
def engNets (ns : List GNet) (ps : List Int) : List GNet := if engOk ns ps = true then ns else []
def engPpl (ns : List GNet) (ps : List Int) : List Int := if engOk ns ps = true then ps else []
theorem eng_no {ns : List GNet} {ps : List Int} (h : engOk ns ps = false) : engNets ns ps = [] ∧ engPpl ns ps = [] := by unfold engNets engPpl; rw [h]; exact ⟨rfl, rfl⟩
theorem eng_yes {ns : List GNet} {ps : List Int} (h : engOk ns ps = true) : engNets ns ps = ns ∧ engPpl ns ps = ps := by unfold engNets engPpl; rw [h]; exact ⟨rfl, rfl⟩

set_option maxRecDepth 100000 in
set_option maxHeartbeats 4000000 in
theorem spec_EngNew (A : Option Addr) (c : Nat) (ns : List GNet) (AP : Option Addr) (cP : Nat) (ps : List Int) (m : Option Nat) (w : World) (h : Rows netC m w w.heap.size A ns) (hp : Ints w w.heap.size AP ps) :
    Calls Try.prog 80 #[.slice A ns.length c, .slice AP ps.length cP] w (GivesH (engNets ns ps) (engPpl ns ps) w) := by
  have nn := h.1
  have H := Lib.hid h
  have HP := Lib.hid hp
  clear h hp
  go_enter Try.func80, Try.ntmps80
  go_wp2_with fail
  refine callsAt fun W hW => ?_
  have Z : Hid (Bk W w.heap.size 102 #[.slice none 0 0, .slice none 0 0, .slice none 0 0, .slice none 0 0]) := by show Bk _ _ _ _; rw [hW]; exact Bk.new rfl
  have B : Hid (Below w.heap.size w W) := by show Below _ _ _; rw [hW]; go_grown
  clear hW
  refine (spec_l9Nets A c ns m W (H.out.later B.out)).mono ?_
  rintro e w1 ⟨rfl, hb⟩
  have Z := Lib.hid (Z.out.later hb)
  have B := Lib.hid (B.out.trans (hb.mono B.out.size))
  clear hb
  have fin : ∀ (w' : World), Bk w' w.heap.size 102 #[.slice none 0 0, .slice none 0 0, .slice none 0 0, .slice none 0 0] → Below w.heap.size w w' → engOk ns ps = false → True := fun _ _ _ _ => trivial
  clear fin
  cases hnk : netsOk ns with
  | false =>
    have HE := Lib.hid (eng_no (ns := ns) (ps := ps) (by rw [engOk, hnk]; rfl))
    clear hnk
    have kZ := fun i => Z.out.cell i
    have fZ := fun i => Z.out.frozen i
    go_wp2
    have hput := house_put Z.out (b0 := .slice none 0 0) (b1 := .slice none 0 0) (b2 := .slice none 0 0) (b3 := .slice none 0 0)
    generalize hV : World.setCell (World.setCell (World.setCell (World.setCell w1 _ _) _ _) _ _) _ _ = V at hput ⊢
    have ZV := hput.bk
    have tV : Below w.heap.size w V := hput.below B.out (Nat.le_refl _)
    clear hV kZ fZ hput
    have k1 := fun j => ZV.cell j
    refine bodyPost_ret (v := .agg #[.slice none 0 0, .slice none 0 0, .slice none 0 0, .slice none 0 0]) (by simp [results, Try.results80, go_sem, k1]) rfl ?_
    exact ⟨none, 0, none, 0, by rw [HE.out.1, HE.out.2]; rfl, by rw [HE.out.1]; exact Rows.nil, by rw [HE.out.2]; exact Rows.nil, tV⟩
  | true =>
  go_wp2_with fail
  refine (spec_PplOk AP cP ps w1 w1.heap.size (HP.out.later B.out)).mono ?_
  rintro e w2 ⟨rfl, hb⟩
  obtain rfl := hb
  cases hpk : pplOk ps with
  | false =>
    have HE := Lib.hid (eng_no (ns := ns) (ps := ps) (by rw [engOk, hnk, hpk]; rfl))
    clear hnk hpk
    have kZ := fun i => Z.out.cell i
    have fZ := fun i => Z.out.frozen i
    go_wp2
    have hput := house_put Z.out (b0 := .slice none 0 0) (b1 := .slice none 0 0) (b2 := .slice none 0 0) (b3 := .slice none 0 0)
    generalize hV : World.setCell (World.setCell (World.setCell (World.setCell w1 _ _) _ _) _ _) _ _ = V at hput ⊢
    have ZV := hput.bk
    have tV : Below w.heap.size w V := hput.below B.out (Nat.le_refl _)
    clear hV kZ fZ hput
    have k1 := fun j => ZV.cell j
    refine bodyPost_ret (v := .agg #[.slice none 0 0, .slice none 0 0, .slice none 0 0, .slice none 0 0]) (by simp [results, Try.results80, go_sem, k1]) rfl ?_
    exact ⟨none, 0, none, 0, by rw [HE.out.1, HE.out.2]; rfl, by rw [HE.out.1]; exact Rows.nil, by rw [HE.out.2]; exact Rows.nil, tV⟩
  | true =>
  have HE := Lib.hid (eng_yes (ns := ns) (ps := ps) (by rw [engOk, hnk, hpk]; rfl))
  obtain ⟨hn3, hfew⟩ := netsOk_few hnk
  have HFEW := Lib.hid hfew
  have hp4 := (pplOk_bounds hpk).2.1
  clear hnk hpk hfew
  go_upto_region 4 with (at_builtin; refine append_intsA rfl (.tmp 16) (.tmp 17) rfl w1.heap.size _ [] rfl (OwnV.made' (Nat.le_refl _)) AP cP _ ps rfl ((HP.out.later B.out).later ((Below.refl _ _).alloc (Nat.le_refl _) _)) (by simp; omega) (by simp) ?_; intro v1 w3 hown2 hg2 hb2; rw [List.nil_append] at hown2; obtain ⟨D1, j1, rfl, hD1⟩ := hown2.form; have OX := Lib.hid hown2; have BX := Lib.hid hb2; clear hown2 hg2 hb2 hD1)
  generalize hV : World.alloc w3 _ = W4
  have hb : Below w3.heap.size w3 W4 := by rw [← hV]; exact (Below.refl _ _).alloc (Nat.le_refl _) _
  have HH : Hid (Bk W4 w3.heap.size 102 #[.slice none 0 0, .slice D1 ps.length j1, .slice none 0 0, .slice none 0 0]) := by show Bk _ _ _ _; rw [← hV]; exact Bk.new rfl
  have hba : Below w1.heap.size w1 (w1.alloc (.cells #[] 3)) := (Below.refl _ _).alloc (Nat.le_refl _) _
  have hb13 : Below w1.heap.size w1 w3 := hba.trans BX.out
  have zW0 := Z.out.lt
  have z13 := hb13.size
  have B3 := Lib.hid (B.out.trans (hb13.mono B.out.size))
  have Z4 := Lib.hid ((Z.out.later hb13).later hb)
  have PK : Hid (∀ V : World, (∀ q, q < w3.heap.size → q ≠ w.heap.size → V.heap[q]? = w3.heap[q]?) → w3.heap.size ≤ V.heap.size → Rows intC (some w.heap.size) V V.heap.size D1 ps) := by
    intro V hq hs
    obtain ⟨A8, c8, hv8, hr8⟩ := OX.out.rows (by omega)
    simp only [Value.slice.injEq] at hv8
    obtain ⟨rfl, _, _⟩ := hv8
    exact ((hr8.keep fun q h1 h2 => hq q h1 (by have := h2 _ rfl; omega)).more hs).weak (Weaker.some (by omega))
  have BV := Lib.hid hb
  clear hV hb hba hb13 Z OX BX
  go_wp2
  go_loopg [6] ns.length (fun gg s6 wr => ∃ (i : Nat) (v : Value), i ≤ ns.length ∧ ns.length - i ≤ gg ∧ s6 = .int .i64 i ∧ Aside (Bk wr w3.heap.size 102 #[v, .slice D1 ps.length j1, .slice none 0 0, .slice none 0 0]) ∧ Aside (Bk wr w.heap.size 102 #[.slice none 0 0, .slice none 0 0, .slice none 0 0, .slice none 0 0]) ∧ Aside (Below w3.heap.size w3 wr) ∧ Aside (OwnC netC 37 wr (w3.heap.size + 1) v (ns.take i)))
  case atStart => exact ⟨0, _, Nat.zero_le _, by omega, rfl, HH.out, Z4.out, BV.out, OwnC.nil _ _⟩
  case round =>
    obtain ⟨i, v, hi, hg, rfl, HHa, ZWa, BVa, OWa⟩ := hrel
    have HH := Lib.hid HHa.out
    have ZW := Lib.hid ZWa.out
    have BV := Lib.hid BVa.out
    have OW := Lib.hid OWa.out
    clear HHa ZWa BVa OWa
    have zH := HH.out.lt
    obtain ⟨A9, c9, hv9, hrow9⟩ := OW.out.rows (by simp; omega)
    by_cases hlt : i < ns.length
    · have hltz : (i : Int) < (ns.length : Int) := by omega
      have hv : v = .slice A9 i c9 := by rw [hv9, List.length_take, Nat.min_eq_left (by omega)]
      clear hrow9 hv9
      subst hv
      have BW : Hid (Below w.heap.size w wr) := B3.out.trans (BV.out.mono B3.out.size)
      obtain ⟨b, off, A1, c1, rfl, hbl, hr, t0', t1'⟩ := net_at H.out hlt
      have HT : Hid (ns.take (i + 1) = ns.take i ++ [ns[i]]) := List.take_succ_eq_append_getElem hlt
      have HL8 : Hid ((ns.take i ++ [ns[i]]).length = i + 1) := by show _ = _; rw [List.length_append, List.length_take, Nat.min_eq_left (by omega)]; rfl
      have hx := HFEW.out _ (List.getElem_mem hlt)
      have t0 : wr.cell? ⟨b, off + i * 2, none⟩ = some (.int .i64 ns[i].places) := (BW.out.cell (p := ⟨b, off + i * 2, none⟩) hbl).trans t0'
      have t1 : wr.cell? ⟨b, off + i * 2 + 1, none⟩ = some (.slice A1 ns[i].tasks.length c1) := (BW.out.cell (p := ⟨b, off + i * 2 + 1, none⟩) hbl).trans t1'
      have XR := Lib.hid (hr.later BW.out)
      have HX := Lib.hid hx
      clear hr t0' t1' hx
      generalize ns[i] = x at t0 t1 XR HT HL8 HX
      have SB : Hid (wr.heap.size ≤ wr.heap.size) := Nat.le_refl _
      have HMS : Hid (ns.length - (i + 1) < ns.length - i) := by show _ < _; omega
      have HG := Lib.hid hg
      go_wp2
      have hbd : Below wr.heap.size wr wr.drew := (Below.refl _ _).drew
      refine wp_region_held_drew (S := (fun V : World => V.cell? ⟨b, off + i * 2, none⟩ = some (.int .i64 x.places) ∧ V.cell? ⟨b, off + i * 2 + 1, none⟩ = some (.slice A1 x.tasks.length c1))) (by kernel_rfl) ⟨t0, t1⟩ (fun hHeld => ?_)
      have TC : Hid (wr.drew.cell? ⟨b, off + i * 2, none⟩ = some (.int .i64 x.places) ∧ wr.drew.cell? ⟨b, off + i * 2 + 1, none⟩ = some (.slice A1 x.tasks.length c1)) := hHeld
      have HH := Lib.hid (HH.out.later hbd)
      have ZW := Lib.hid (ZW.out.later hbd)
      have OW := Lib.hid (OW.out.later hbd)
      have XR := Lib.hid (XR.out.later hbd)
      have BV := Lib.hid (BV.out.trans (hbd.mono BV.out.size))
      have SB : Hid (wr.heap.size ≤ wr.drew.heap.size) := (SB.out : wr.heap.size ≤ wr.heap.size)
      have HLT : Hid (∀ g, (Value.slice A9 i c9).ownBlock = some g → w3.heap.size + 1 ≤ g ∧ g < wr.heap.size) := fun g hg => OW.out.lt g hg
      generalize wr.drew = wd at TC HH ZW OW XR BV SB hHeld ⊢
      clear hbd
      refine wpAnyH_take (i := 0) (v := ?_) rfl (by kernel_rfl) (by kernel_rfl) (by kernel_rfl) (fun _ _ _ h => h) (Or.inl ⟨by rfl, ?_⟩) (by assumption) ?_
      rotate_left
      · intro V hSw
        (try dsimp only at hSw)
        go_simp
        (try with_reducible rfl)
      simp only [List.getElem_toArray, List.getElem_cons_succ, List.getElem_cons_zero, Act.put, List.setIfInBounds_toArray, List.set_cons_zero, List.set_cons_succ]
      refine wpAnyH_take (i := 2) (v := ?_) rfl (by kernel_rfl) (by kernel_rfl) (by kernel_rfl) (fun _ _ _ h => h) (Or.inl ⟨by rfl, ?_⟩) (by assumption) ?_
      rotate_left
      · intro V hSw
        (try dsimp only at hSw)
        go_simp
        (try with_reducible rfl)
      simp only [List.getElem_toArray, List.getElem_cons_succ, List.getElem_cons_zero, Act.put, List.setIfInBounds_toArray, List.set_cons_zero, List.set_cons_succ]
      refine wpAnyH_take (i := 3) (v := ?_) rfl (by kernel_rfl) (by kernel_rfl) (by kernel_rfl) (fun _ _ _ h => h) (Or.inl ⟨by rfl, ?_⟩) (by assumption) ?_
      rotate_left
      · intro V hSw
        (try dsimp only at hSw)
        go_simp
        (try with_reducible rfl)
      simp only [List.getElem_toArray, List.getElem_cons_succ, List.getElem_cons_zero, Act.put, List.setIfInBounds_toArray, List.set_cons_zero, List.set_cons_succ]
      refine wpAnyH_take (i := 4) (v := ?_) rfl (by kernel_rfl) (by kernel_rfl) (by kernel_rfl) (fun _ _ _ h => h) (Or.inl ⟨by rfl, ?_⟩) (by assumption) ?_
      rotate_left
      · intro V hSw
        (try dsimp only at hSw)
        go_simp
        (try with_reducible rfl)
      simp only [List.getElem_toArray, List.getElem_cons_succ, List.getElem_cons_zero, Act.put, List.setIfInBounds_toArray, List.set_cons_zero, List.set_cons_succ]
      refine wpAnyH_take (i := 5) (v := ?_) rfl (by kernel_rfl) (by kernel_rfl) (by kernel_rfl) (fun _ _ _ h => h) (Or.inl ⟨by rfl, ?_⟩) (by assumption) ?_
      rotate_left
      · intro V hSw
        (try dsimp only at hSw)
        go_simp
        (try with_reducible rfl)
      simp only [List.getElem_toArray, List.getElem_cons_succ, List.getElem_cons_zero, Act.put, List.setIfInBounds_toArray, List.set_cons_zero, List.set_cons_succ]
      refine wpAnyH_ready (rs := [1, 6]) (by kernel_rfl) (by simp) ?_
      refine AllReadyH.cons rfl (fun K hK => ?_) (AllReadyH.cons rfl (fun K hK => ?_) AllReadyH.nil)
      · have kH := fun i => HH.out.cell i
        go_simp
        clear kH
        refine hK.out _ _ TC.out (fun hHeld => ?_)
        clear hK K
        refine wpAnyH_ready (rs := [6]) (by kernel_rfl) (by simp) ?_
        refine AllReadyH.cons rfl (fun K hK => ?_) AllReadyH.nil
        · go_simp
          go_wp2_with (go_at_call 158; refine (spec_l9CopyNet x A1 c1 m wd XR.out HX.out.1 HX.out.2).mono ?_; rintro e wc ⟨cs, rfl, ⟨A6, c6, rfl, hr6⟩, hb⟩)
          have R6 := Lib.hid (hr6.weak (Weaker.some SB.out))
          clear hr6
          have TC : Hid (wc.cell? ⟨b, off + i * 2, none⟩ = some (.int .i64 x.places) ∧ wc.cell? ⟨b, off + i * 2 + 1, none⟩ = some (.slice A1 x.tasks.length c1)) := ⟨(hb.cell (p := ⟨b, off + i * 2, none⟩) (show b < _ by have := SB.out; omega)).trans TC.out.1, (hb.cell (p := ⟨b, off + i * 2 + 1, none⟩) (show b < _ by have := SB.out; omega)).trans TC.out.2⟩
          have HH := Lib.hid (HH.out.later hb)
          have ZW := Lib.hid (ZW.out.later hb)
          have OW := Lib.hid (OW.out.later hb)
          have XR := Lib.hid (XR.out.later hb)
          have BV := Lib.hid (BV.out.trans (hb.mono BV.out.size))
          have SB := Lib.hid (Nat.le_trans SB.out hb.size)
          clear hb
          refine hK.out _ _ TC.out (fun hHeld => ?_)
          clear hK K
          refine wpAnyH_ready (rs := [7]) (by kernel_rfl) (by simp) ?_
          refine AllReadyH.cons rfl (fun K hK => ?_) AllReadyH.nil
          · go_simp
            obtain ⟨wb, hV⟩ : ∃ V, V = World.alloc wc (.cells #[.int .i64 x.places, .slice A6 x.tasks.length c6] 37) := ⟨_, rfl⟩
            have hb : Below wc.heap.size wc wb := by rw [hV]; exact (Below.refl _ _).alloc (Nat.le_refl _) _
            obtain ⟨gl, hgl⟩ : ∃ g, g = wc.heap.size := ⟨_, rfl⟩
            have LT : Hid (Bk wb gl 37 #[.int .i64 x.places, .slice A6 x.tasks.length c6]) := by show Bk _ _ _ _; rw [hV, hgl]; exact Bk.new rfl
            rw [← hV, ← hgl]
            clear hV hgl
            have TC : Hid (wb.cell? ⟨b, off + i * 2, none⟩ = some (.int .i64 x.places) ∧ wb.cell? ⟨b, off + i * 2 + 1, none⟩ = some (.slice A1 x.tasks.length c1)) := ⟨(hb.cell (p := ⟨b, off + i * 2, none⟩) (show b < _ by have := SB.out; omega)).trans TC.out.1, (hb.cell (p := ⟨b, off + i * 2 + 1, none⟩) (show b < _ by have := SB.out; omega)).trans TC.out.2⟩
            have HH := Lib.hid (HH.out.later hb)
            have ZW := Lib.hid (ZW.out.later hb)
            have OW := Lib.hid (OW.out.later hb)
            have XR := Lib.hid (XR.out.later hb)
            have BV := Lib.hid (BV.out.trans (hb.mono BV.out.size))
            have SB := Lib.hid (Nat.le_trans SB.out hb.size)
            have R6 := Lib.hid (R6.out.later hb)
            clear hb
            refine hK.out _ _ TC.out (fun hHeld => ?_)
            clear hK K
            refine wpAnyH_ready (rs := [8]) (by kernel_rfl) (by simp) ?_
            refine AllReadyH.cons rfl (fun K hK => ?_) AllReadyH.nil
            · refine step_C6 rfl (.tmp 27) (.tmp 33) 96 rfl netC 37 _ 32 Try.underlying96 info_Net rfl (by decide) (by decide) (w3.heap.size + 1) _ (ns.take i) rfl OW.out x _ wr.heap.size wb.heap.size ⟨A6, c6, rfl, R6.out⟩ (by omega) (Nat.le_refl _) (fun g hg => .inl (HLT.out g hg).2) gl rfl (fun j u hu => by rw [LT.out.cell]; simpa using hu) (by simp [Value.oneCell']) (Nat.le_trans (List.length_take_le _ _) (by omega)) (by have := SB.out; omega) ?_
              intro v7 w7 hown7 hg7 hb7 h57
              have O7 := Lib.hid hown7
              have B7 := Lib.hid hb7
              have TC : Hid (w7.cell? ⟨b, off + i * 2, none⟩ = some (.int .i64 x.places) ∧ w7.cell? ⟨b, off + i * 2 + 1, none⟩ = some (.slice A1 x.tasks.length c1)) := ⟨(World.cell?_of_block (a := ⟨b, off + i * 2, none⟩) (hg7.block b (by have := SB.out; omega) (fun he => by have := HLT.out _ he.symm; omega))).trans TC.out.1, (World.cell?_of_block (a := ⟨b, off + i * 2 + 1, none⟩) (hg7.block b (by have := SB.out; omega) (fun he => by have := HLT.out _ he.symm; omega))).trans TC.out.2⟩
              have HH : Hid (Bk w7 w3.heap.size 102 #[.slice A9 i c9, .slice D1 ps.length j1, .slice none 0 0, .slice none 0 0]) := (hb7.block _ (by omega)).trans HH.out
              have ZW : Hid (Bk w7 w.heap.size 102 #[.slice none 0 0, .slice none 0 0, .slice none 0 0, .slice none 0 0]) := (hb7.block _ (by omega)).trans ZW.out
              have BV := Lib.hid (BV.out.trans (hb7.mono (by omega)))
              obtain ⟨A7, c7, hv7, hz7⟩ := hown7.rows (by rw [HL8.out]; omega)
              have hv8 : v7 = .slice A7 (i + 1) c7 := hv7.trans (congrArg (fun n => Value.slice A7 n c7) HL8.out)
              clear hv7 hz7
              subst hv8
              clear hown7 hg7 hb7 h57
              refine hK.out _ _ TC.out (fun hHeld => ?_)
              clear hK K
              refine wpAnyH_take (i := 9) (v := ?_) rfl (by kernel_rfl) (by kernel_rfl) (by kernel_rfl) (fun _ _ _ h => h) (Or.inl ⟨by rfl, ?_⟩) (by assumption) ?_
              rotate_left
              · intro V hSw
                (try dsimp only at hSw)
                go_simp
                (try with_reducible rfl)
              simp only [List.getElem_toArray, List.getElem_cons_succ, List.getElem_cons_zero, Act.put, List.setIfInBounds_toArray, List.set_cons_zero, List.set_cons_succ]
              refine wpAnyH_ready (rs := [10]) (by kernel_rfl) (by simp) ?_
              refine AllReadyH.cons rfl (fun K hK => ?_) AllReadyH.nil
              · have kH := fun i => HH.out.cell i
                have fH := fun i => HH.out.frozen i
                go_simp
                clear kH fH
                generalize hV : World.setCell w7 _ _ = w8
                have hk : ∀ q, q ≠ w3.heap.size → w8.heap[q]? = w7.heap[q]? := fun q hq => by rw [← hV]; exact Below.heap_setCell _ ⟨w3.heap.size, 0, none⟩ _ q hq
                have H8 : Hid (Bk w8 w3.heap.size 102 #[.slice A7 (i + 1) c7, .slice D1 ps.length j1, .slice none 0 0, .slice none 0 0]) := by show Bk _ _ _ _; rw [← hV]; exact HH.out.set 0 _
                have hsz : w8.heap.size = w7.heap.size := by rw [← hV]; simp [World.setCell]
                have BV : Hid (Below w3.heap.size w3 w8) := by show Below _ _ _; rw [← hV]; exact BV.out.setCell (p := ⟨w3.heap.size, 0, none⟩) (by show w3.heap.size ≤ w3.heap.size; omega) _
                have O8 := Lib.hid (O7.out.kept (w' := w8) ⟨Nat.le_of_eq hsz.symm, fun q _ hq => hk q (by omega)⟩)
                have TC : Hid (w8.cell? ⟨b, off + i * 2, none⟩ = some (.int .i64 x.places) ∧ w8.cell? ⟨b, off + i * 2 + 1, none⟩ = some (.slice A1 x.tasks.length c1)) := ⟨(World.cell?_of_block (a := ⟨b, off + i * 2, none⟩) (hk b (by have := SB.out; omega))).trans TC.out.1, (World.cell?_of_block (a := ⟨b, off + i * 2 + 1, none⟩) (hk b (by have := SB.out; omega))).trans TC.out.2⟩
                have ZW : Hid (Bk w8 w.heap.size 102 #[.slice none 0 0, .slice none 0 0, .slice none 0 0, .slice none 0 0]) := (hk _ (by omega)).trans ZW.out
                clear hV hk hsz
                refine hK.out _ _ TC.out (fun hHeld => ?_)
                clear hK K
                refine wpAnyH_done (by kernel_rfl) ?_ _
                clear hHeld TC
                go_wp2
                go_roundg (ns.length - (i + 1))
                case measure => exact Nat.lt_of_lt_of_le HMS.out HG.out
                case rel => exact ⟨i + 1, _, hlt, Nat.le_refl _, by go_num, H8.out, ZW.out, BV.out, by show OwnC _ _ _ _ _ _; rw [HT.out]; exact O8.out⟩
      · go_simp
        go_wp2_with (go_at_call 158; refine (spec_l9CopyNet x A1 c1 m wd XR.out HX.out.1 HX.out.2).mono ?_; rintro e wc ⟨cs, rfl, ⟨A6, c6, rfl, hr6⟩, hb⟩)
        have R6 := Lib.hid (hr6.weak (Weaker.some SB.out))
        clear hr6
        have TC : Hid (wc.cell? ⟨b, off + i * 2, none⟩ = some (.int .i64 x.places) ∧ wc.cell? ⟨b, off + i * 2 + 1, none⟩ = some (.slice A1 x.tasks.length c1)) := ⟨(hb.cell (p := ⟨b, off + i * 2, none⟩) (show b < _ by have := SB.out; omega)).trans TC.out.1, (hb.cell (p := ⟨b, off + i * 2 + 1, none⟩) (show b < _ by have := SB.out; omega)).trans TC.out.2⟩
        have HH := Lib.hid (HH.out.later hb)
        have ZW := Lib.hid (ZW.out.later hb)
        have OW := Lib.hid (OW.out.later hb)
        have XR := Lib.hid (XR.out.later hb)
        have BV := Lib.hid (BV.out.trans (hb.mono BV.out.size))
        have SB := Lib.hid (Nat.le_trans SB.out hb.size)
        clear hb
        refine hK.out _ _ TC.out (fun hHeld => ?_)
        clear hK K
        refine wpAnyH_ready (rs := [1, 7]) (by kernel_rfl) (by simp) ?_
        refine AllReadyH.cons rfl (fun K hK => ?_) (AllReadyH.cons rfl (fun K hK => ?_) AllReadyH.nil)
        · have kH := fun i => HH.out.cell i
          go_simp
          clear kH
          refine hK.out _ _ TC.out (fun hHeld => ?_)
          clear hK K
          refine wpAnyH_ready (rs := [7]) (by kernel_rfl) (by simp) ?_
          refine AllReadyH.cons rfl (fun K hK => ?_) AllReadyH.nil
          · go_simp
            obtain ⟨wb, hV⟩ : ∃ V, V = World.alloc wc (.cells #[.int .i64 x.places, .slice A6 x.tasks.length c6] 37) := ⟨_, rfl⟩
            have hb : Below wc.heap.size wc wb := by rw [hV]; exact (Below.refl _ _).alloc (Nat.le_refl _) _
            obtain ⟨gl, hgl⟩ : ∃ g, g = wc.heap.size := ⟨_, rfl⟩
            have LT : Hid (Bk wb gl 37 #[.int .i64 x.places, .slice A6 x.tasks.length c6]) := by show Bk _ _ _ _; rw [hV, hgl]; exact Bk.new rfl
            rw [← hV, ← hgl]
            clear hV hgl
            have TC : Hid (wb.cell? ⟨b, off + i * 2, none⟩ = some (.int .i64 x.places) ∧ wb.cell? ⟨b, off + i * 2 + 1, none⟩ = some (.slice A1 x.tasks.length c1)) := ⟨(hb.cell (p := ⟨b, off + i * 2, none⟩) (show b < _ by have := SB.out; omega)).trans TC.out.1, (hb.cell (p := ⟨b, off + i * 2 + 1, none⟩) (show b < _ by have := SB.out; omega)).trans TC.out.2⟩
            have HH := Lib.hid (HH.out.later hb)
            have ZW := Lib.hid (ZW.out.later hb)
            have OW := Lib.hid (OW.out.later hb)
            have XR := Lib.hid (XR.out.later hb)
            have BV := Lib.hid (BV.out.trans (hb.mono BV.out.size))
            have SB := Lib.hid (Nat.le_trans SB.out hb.size)
            have R6 := Lib.hid (R6.out.later hb)
            clear hb
            refine hK.out _ _ TC.out (fun hHeld => ?_)
            clear hK K
            refine wpAnyH_ready (rs := [8]) (by kernel_rfl) (by simp) ?_
            refine AllReadyH.cons rfl (fun K hK => ?_) AllReadyH.nil
            · refine step_C6 rfl (.tmp 27) (.tmp 33) 96 rfl netC 37 _ 32 Try.underlying96 info_Net rfl (by decide) (by decide) (w3.heap.size + 1) _ (ns.take i) rfl OW.out x _ wr.heap.size wb.heap.size ⟨A6, c6, rfl, R6.out⟩ (by omega) (Nat.le_refl _) (fun g hg => .inl (HLT.out g hg).2) gl rfl (fun j u hu => by rw [LT.out.cell]; simpa using hu) (by simp [Value.oneCell']) (Nat.le_trans (List.length_take_le _ _) (by omega)) (by have := SB.out; omega) ?_
              intro v7 w7 hown7 hg7 hb7 h57
              have O7 := Lib.hid hown7
              have B7 := Lib.hid hb7
              have TC : Hid (w7.cell? ⟨b, off + i * 2, none⟩ = some (.int .i64 x.places) ∧ w7.cell? ⟨b, off + i * 2 + 1, none⟩ = some (.slice A1 x.tasks.length c1)) := ⟨(World.cell?_of_block (a := ⟨b, off + i * 2, none⟩) (hg7.block b (by have := SB.out; omega) (fun he => by have := HLT.out _ he.symm; omega))).trans TC.out.1, (World.cell?_of_block (a := ⟨b, off + i * 2 + 1, none⟩) (hg7.block b (by have := SB.out; omega) (fun he => by have := HLT.out _ he.symm; omega))).trans TC.out.2⟩
              have HH : Hid (Bk w7 w3.heap.size 102 #[.slice A9 i c9, .slice D1 ps.length j1, .slice none 0 0, .slice none 0 0]) := (hb7.block _ (by omega)).trans HH.out
              have ZW : Hid (Bk w7 w.heap.size 102 #[.slice none 0 0, .slice none 0 0, .slice none 0 0, .slice none 0 0]) := (hb7.block _ (by omega)).trans ZW.out
              have BV := Lib.hid (BV.out.trans (hb7.mono (by omega)))
              obtain ⟨A7, c7, hv7, hz7⟩ := hown7.rows (by rw [HL8.out]; omega)
              have hv8 : v7 = .slice A7 (i + 1) c7 := hv7.trans (congrArg (fun n => Value.slice A7 n c7) HL8.out)
              clear hv7 hz7
              subst hv8
              clear hown7 hg7 hb7 h57
              refine hK.out _ _ TC.out (fun hHeld => ?_)
              clear hK K
              refine wpAnyH_take (i := 9) (v := ?_) rfl (by kernel_rfl) (by kernel_rfl) (by kernel_rfl) (fun _ _ _ h => h) (Or.inl ⟨by rfl, ?_⟩) (by assumption) ?_
              rotate_left
              · intro V hSw
                (try dsimp only at hSw)
                go_simp
                (try with_reducible rfl)
              simp only [List.getElem_toArray, List.getElem_cons_succ, List.getElem_cons_zero, Act.put, List.setIfInBounds_toArray, List.set_cons_zero, List.set_cons_succ]
              refine wpAnyH_ready (rs := [10]) (by kernel_rfl) (by simp) ?_
              refine AllReadyH.cons rfl (fun K hK => ?_) AllReadyH.nil
              · have kH := fun i => HH.out.cell i
                have fH := fun i => HH.out.frozen i
                go_simp
                clear kH fH
                generalize hV : World.setCell w7 _ _ = w8
                have hk : ∀ q, q ≠ w3.heap.size → w8.heap[q]? = w7.heap[q]? := fun q hq => by rw [← hV]; exact Below.heap_setCell _ ⟨w3.heap.size, 0, none⟩ _ q hq
                have H8 : Hid (Bk w8 w3.heap.size 102 #[.slice A7 (i + 1) c7, .slice D1 ps.length j1, .slice none 0 0, .slice none 0 0]) := by show Bk _ _ _ _; rw [← hV]; exact HH.out.set 0 _
                have hsz : w8.heap.size = w7.heap.size := by rw [← hV]; simp [World.setCell]
                have BV : Hid (Below w3.heap.size w3 w8) := by show Below _ _ _; rw [← hV]; exact BV.out.setCell (p := ⟨w3.heap.size, 0, none⟩) (by show w3.heap.size ≤ w3.heap.size; omega) _
                have O8 := Lib.hid (O7.out.kept (w' := w8) ⟨Nat.le_of_eq hsz.symm, fun q _ hq => hk q (by omega)⟩)
                have TC : Hid (w8.cell? ⟨b, off + i * 2, none⟩ = some (.int .i64 x.places) ∧ w8.cell? ⟨b, off + i * 2 + 1, none⟩ = some (.slice A1 x.tasks.length c1)) := ⟨(World.cell?_of_block (a := ⟨b, off + i * 2, none⟩) (hk b (by have := SB.out; omega))).trans TC.out.1, (World.cell?_of_block (a := ⟨b, off + i * 2 + 1, none⟩) (hk b (by have := SB.out; omega))).trans TC.out.2⟩
                have ZW : Hid (Bk w8 w.heap.size 102 #[.slice none 0 0, .slice none 0 0, .slice none 0 0, .slice none 0 0]) := (hk _ (by omega)).trans ZW.out
                clear hV hk hsz
                refine hK.out _ _ TC.out (fun hHeld => ?_)
                clear hK K
                refine wpAnyH_done (by kernel_rfl) ?_ _
                clear hHeld TC
                go_wp2
                go_roundg (ns.length - (i + 1))
                case measure => exact Nat.lt_of_lt_of_le HMS.out HG.out
                case rel => exact ⟨i + 1, _, hlt, Nat.le_refl _, by go_num, H8.out, ZW.out, BV.out, by show OwnC _ _ _ _ _ _; rw [HT.out]; exact O8.out⟩
        · go_simp
          obtain ⟨wb, hV⟩ : ∃ V, V = World.alloc wc (.cells #[.int .i64 x.places, .slice A6 x.tasks.length c6] 37) := ⟨_, rfl⟩
          have hb : Below wc.heap.size wc wb := by rw [hV]; exact (Below.refl _ _).alloc (Nat.le_refl _) _
          obtain ⟨gl, hgl⟩ : ∃ g, g = wc.heap.size := ⟨_, rfl⟩
          have LT : Hid (Bk wb gl 37 #[.int .i64 x.places, .slice A6 x.tasks.length c6]) := by show Bk _ _ _ _; rw [hV, hgl]; exact Bk.new rfl
          rw [← hV, ← hgl]
          clear hV hgl
          have TC : Hid (wb.cell? ⟨b, off + i * 2, none⟩ = some (.int .i64 x.places) ∧ wb.cell? ⟨b, off + i * 2 + 1, none⟩ = some (.slice A1 x.tasks.length c1)) := ⟨(hb.cell (p := ⟨b, off + i * 2, none⟩) (show b < _ by have := SB.out; omega)).trans TC.out.1, (hb.cell (p := ⟨b, off + i * 2 + 1, none⟩) (show b < _ by have := SB.out; omega)).trans TC.out.2⟩
          have HH := Lib.hid (HH.out.later hb)
          have ZW := Lib.hid (ZW.out.later hb)
          have OW := Lib.hid (OW.out.later hb)
          have XR := Lib.hid (XR.out.later hb)
          have BV := Lib.hid (BV.out.trans (hb.mono BV.out.size))
          have SB := Lib.hid (Nat.le_trans SB.out hb.size)
          have R6 := Lib.hid (R6.out.later hb)
          clear hb
          refine hK.out _ _ TC.out (fun hHeld => ?_)
          clear hK K
          refine wpAnyH_ready (rs := [1]) (by kernel_rfl) (by simp) ?_
          refine AllReadyH.cons rfl (fun K hK => ?_) AllReadyH.nil
          · have kH := fun i => HH.out.cell i
            go_simp
            clear kH
            refine hK.out _ _ TC.out (fun hHeld => ?_)
            clear hK K
            refine wpAnyH_ready (rs := [8]) (by kernel_rfl) (by simp) ?_
            refine AllReadyH.cons rfl (fun K hK => ?_) AllReadyH.nil
            · refine step_C6 rfl (.tmp 27) (.tmp 33) 96 rfl netC 37 _ 32 Try.underlying96 info_Net rfl (by decide) (by decide) (w3.heap.size + 1) _ (ns.take i) rfl OW.out x _ wr.heap.size wb.heap.size ⟨A6, c6, rfl, R6.out⟩ (by omega) (Nat.le_refl _) (fun g hg => .inl (HLT.out g hg).2) gl rfl (fun j u hu => by rw [LT.out.cell]; simpa using hu) (by simp [Value.oneCell']) (Nat.le_trans (List.length_take_le _ _) (by omega)) (by have := SB.out; omega) ?_
              intro v7 w7 hown7 hg7 hb7 h57
              have O7 := Lib.hid hown7
              have B7 := Lib.hid hb7
              have TC : Hid (w7.cell? ⟨b, off + i * 2, none⟩ = some (.int .i64 x.places) ∧ w7.cell? ⟨b, off + i * 2 + 1, none⟩ = some (.slice A1 x.tasks.length c1)) := ⟨(World.cell?_of_block (a := ⟨b, off + i * 2, none⟩) (hg7.block b (by have := SB.out; omega) (fun he => by have := HLT.out _ he.symm; omega))).trans TC.out.1, (World.cell?_of_block (a := ⟨b, off + i * 2 + 1, none⟩) (hg7.block b (by have := SB.out; omega) (fun he => by have := HLT.out _ he.symm; omega))).trans TC.out.2⟩
              have HH : Hid (Bk w7 w3.heap.size 102 #[.slice A9 i c9, .slice D1 ps.length j1, .slice none 0 0, .slice none 0 0]) := (hb7.block _ (by omega)).trans HH.out
              have ZW : Hid (Bk w7 w.heap.size 102 #[.slice none 0 0, .slice none 0 0, .slice none 0 0, .slice none 0 0]) := (hb7.block _ (by omega)).trans ZW.out
              have BV := Lib.hid (BV.out.trans (hb7.mono (by omega)))
              obtain ⟨A7, c7, hv7, hz7⟩ := hown7.rows (by rw [HL8.out]; omega)
              have hv8 : v7 = .slice A7 (i + 1) c7 := hv7.trans (congrArg (fun n => Value.slice A7 n c7) HL8.out)
              clear hv7 hz7
              subst hv8
              clear hown7 hg7 hb7 h57
              refine hK.out _ _ TC.out (fun hHeld => ?_)
              clear hK K
              refine wpAnyH_take (i := 9) (v := ?_) rfl (by kernel_rfl) (by kernel_rfl) (by kernel_rfl) (fun _ _ _ h => h) (Or.inl ⟨by rfl, ?_⟩) (by assumption) ?_
              rotate_left
              · intro V hSw
                (try dsimp only at hSw)
                go_simp
                (try with_reducible rfl)
              simp only [List.getElem_toArray, List.getElem_cons_succ, List.getElem_cons_zero, Act.put, List.setIfInBounds_toArray, List.set_cons_zero, List.set_cons_succ]
              refine wpAnyH_ready (rs := [10]) (by kernel_rfl) (by simp) ?_
              refine AllReadyH.cons rfl (fun K hK => ?_) AllReadyH.nil
              · have kH := fun i => HH.out.cell i
                have fH := fun i => HH.out.frozen i
                go_simp
                clear kH fH
                generalize hV : World.setCell w7 _ _ = w8
                have hk : ∀ q, q ≠ w3.heap.size → w8.heap[q]? = w7.heap[q]? := fun q hq => by rw [← hV]; exact Below.heap_setCell _ ⟨w3.heap.size, 0, none⟩ _ q hq
                have H8 : Hid (Bk w8 w3.heap.size 102 #[.slice A7 (i + 1) c7, .slice D1 ps.length j1, .slice none 0 0, .slice none 0 0]) := by show Bk _ _ _ _; rw [← hV]; exact HH.out.set 0 _
                have hsz : w8.heap.size = w7.heap.size := by rw [← hV]; simp [World.setCell]
                have BV : Hid (Below w3.heap.size w3 w8) := by show Below _ _ _; rw [← hV]; exact BV.out.setCell (p := ⟨w3.heap.size, 0, none⟩) (by show w3.heap.size ≤ w3.heap.size; omega) _
                have O8 := Lib.hid (O7.out.kept (w' := w8) ⟨Nat.le_of_eq hsz.symm, fun q _ hq => hk q (by omega)⟩)
                have TC : Hid (w8.cell? ⟨b, off + i * 2, none⟩ = some (.int .i64 x.places) ∧ w8.cell? ⟨b, off + i * 2 + 1, none⟩ = some (.slice A1 x.tasks.length c1)) := ⟨(World.cell?_of_block (a := ⟨b, off + i * 2, none⟩) (hk b (by have := SB.out; omega))).trans TC.out.1, (World.cell?_of_block (a := ⟨b, off + i * 2 + 1, none⟩) (hk b (by have := SB.out; omega))).trans TC.out.2⟩
                have ZW : Hid (Bk w8 w.heap.size 102 #[.slice none 0 0, .slice none 0 0, .slice none 0 0, .slice none 0 0]) := (hk _ (by omega)).trans ZW.out
                clear hV hk hsz
                refine hK.out _ _ TC.out (fun hHeld => ?_)
                clear hK K
                refine wpAnyH_done (by kernel_rfl) ?_ _
                clear hHeld TC
                go_wp2
                go_roundg (ns.length - (i + 1))
                case measure => exact Nat.lt_of_lt_of_le HMS.out HG.out
                case rel => exact ⟨i + 1, _, hlt, Nat.le_refl _, by go_num, H8.out, ZW.out, BV.out, by show OwnC _ _ _ _ _ _; rw [HT.out]; exact O8.out⟩
    · have hltz : ¬ (i : Int) < (ns.length : Int) := by omega
      have he : i = ns.length := by omega
      subst he
      rw [List.take_length] at hv9 hrow9 OW
      subst hv9
      have HR9 := Lib.hid hrow9
      clear hrow9
      have kH := fun j => HH.out.cell j
      have kZ := fun j => ZW.out.cell j
      have fZ := fun j => ZW.out.frozen j
      go_wp2
      have hput := house_put ZW.out (b0 := .slice A9 ns.length c9) (b1 := .slice D1 ps.length j1) (b2 := .slice none 0 0) (b3 := .slice none 0 0)
      generalize hV : World.setCell (World.setCell (World.setCell (World.setCell wr _ _) _ _) _ _) _ _ = V at hput ⊢
      have ZV := hput.bk
      have B9 : Below w.heap.size w wr := B3.out.trans (BV.out.mono B3.out.size)
      have tV : Below w.heap.size w V := hput.below B9 (Nat.le_refl _)
      have hbl := hput.block
      have hsz := hput.size
      clear hV kH kZ fZ hput
      have k1 := fun j => ZV.cell j
      refine bodyPost_ret (v := .agg #[.slice A9 ns.length c9, .slice D1 ps.length j1, .slice none 0 0, .slice none 0 0]) (by simp [results, Try.results80, go_sem, k1]) rfl ?_
      refine ⟨A9, c9, D1, j1, by rw [HE.out.1, HE.out.2], by rw [HE.out.1]; exact ((HR9.out.keep fun q _ hq => hbl q (by have := hq _ rfl; omega)).more (by omega)).weak (Weaker.some (by omega)), ?_, tV⟩
      rw [HE.out.2]
      have hq : ∀ q, q < w3.heap.size → q ≠ w.heap.size → V.heap[q]? = w3.heap[q]? := fun q h1 h2 => (hbl q h2).trans (BV.out.block q h1)
      exact PK.out V hq (by omega)
end Go.Proofs.Ytkkjljpokannkaa
