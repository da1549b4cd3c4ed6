/- The law FnCasLeft holds: for every input it returns true, and each argument reads afterwards as it did; no condition. -/
import Derived.Test.YtjieilicjdoaaaaOpen
import Derived.Test.YtjieilicjdoaaaaFacts
import Derived.Test.YtjieilicjdoaaaaWFnCasLeft
namespace Go.Proofs.Ytjieilicjdoaaaa.fnCasLeft
open Go.ChangeShapes Go.WideShapes Go.ChangeAt Go.RowKit
set_option linter.unusedVariables false

set_option maxRecDepth 100000 in
theorem lifted (os : Os) (started : os.Started) (H : Type) (enc : TypeId × Value → H) :
  ReturnsInHanded {} Try.checked os 4 .any (Rows.fnCasLeftSpec.pre6 enc Try.prog Try.f4 Rows.fnCasLeftRow.domain false) (Rows.fnCasLeftSpec.post enc Try.prog Try.f4 false true false false) := by
 refine returnsInHanded_of_change (C := Try.checked) own started (by kernel_rfl) Try.func4
  (ChangeSpec.witness6 (enc := enc) (C := Try.checked) false ⟨#[], #[.slice none 0 0], []⟩ 8 (by kernel_rfl) (by kernel_rfl) (by kernel_rfl) (by kernel_rfl)) ?_
 intro W base args ds gs before hval0 hW hcnd _
 have hval : ∀ (j : Nat) t v, Try.f4.params[j]? = some t → args[j]? = some v → Value.okWide Try.prog W .any base t v := hval0
 have hW' := hW
 obtain ⟨p, q, hA0, hV, rfl, hfz, hnd⟩ := hW
 have hA : DataW.TrodAll enc Try.prog W 0 (fun _ => true) true Try.f4.params.toList args.toList ds p := hA0
 rw [Try.params4] at hA hval
 obtain ⟨v0, vs0, d0, ds0, p0, q0, hargs, rfl, rfl, h0, r0⟩ := trodAll_cons hA
 obtain ⟨rfl, rfl, rfl⟩ := trodAll_nil r0
 obtain rfl : args = #[v0] := by cases args; simp_all
 obtain ⟨rfl, rfl⟩ := trodVars_none hV
 have k0 := h0
 have lt0 : ∀ x ∈ p0, x.block < W.heap.size := by obtain ⟨m, hm⟩ := k0; exact DataW.trod_lt m _ _ _ hm
 obtain ⟨A0, c0, x0, rfl, w0⟩ := open_byteS (hval 0 39 v0 rfl rfl) h0
 clear hA0 hval0
 refine (walk_FnCasLeft A0 c0 x0 W w0).mono fun e W' ⟨he, bel⟩ => ?_
 subst he
 exact ⟨_, rfl, _, _, _, [], _, [], hW', trodAll_mk1 (shut_bool Try.underlying4 _), (trodAll_cons_mk (Below.trod laidOut (by kernel_rfl) (of_decide_eq_true (by kernel_rfl)) k0 bel lt0) trodAll_mk0), rfl, bel.frame _, fun h => by cases h⟩

set_option maxRecDepth 100000 in
set_option maxHeartbeats 2000000 in
theorem closed : joinedFacts Try.prog 4 Try.f4 Rows.fnCasLeftSpec Rows.fnCasLeftRow = true := by
 unfold joinedFacts
 refine (andT (andT (andT (andT (andT (andT (andT (andT (andT (andT (andT (andT (andT (andT (andT (andT (andT (andT (andT (andT (andT (andT (andT (andT (andT (andT (andT (andT (andT (andT (andT ?_ ?_) ?_) ?_) ?_) ?_) ?_) ?_) ?_) ?_) ?_) ?_) ?_) ?_) ?_) ?_) ?_) ?_) ?_) ?_) ?_) ?_) ?_) ?_) ?_) ?_) ?_) ?_) ?_) ?_) ?_) ?_)
 ·
  as_aux_lemma => kernel_rfl
 ·
  exact fact_laid
 ·
  exact fact_rowed
 ·
  as_aux_lemma => kernel_rfl
 ·
  as_aux_lemma => kernel_rfl
 ·
  as_aux_lemma => kernel_rfl
 ·
  as_aux_lemma => kernel_rfl
 ·
  as_aux_lemma => kernel_rfl
 ·
  as_aux_lemma => kernel_rfl
 ·
  as_aux_lemma => kernel_rfl
 ·
  as_aux_lemma => kernel_rfl
 ·
  as_aux_lemma => kernel_rfl
 ·
  as_aux_lemma => kernel_rfl
 ·
  as_aux_lemma => kernel_rfl
 ·
  as_aux_lemma => kernel_rfl
 ·
  as_aux_lemma => kernel_rfl
 ·
  as_aux_lemma => kernel_rfl
 ·
  as_aux_lemma => kernel_rfl
 ·
  as_aux_lemma => kernel_rfl
 ·
  as_aux_lemma => kernel_rfl
 ·
  as_aux_lemma => kernel_rfl
 ·
  as_aux_lemma => kernel_rfl
 ·
  rw [show Rows.fnCasLeftRow.plainKeys = Rows.fnCasLeftRow.plainKeys from by kernel_rfl]; exact fact_keys
 ·
  as_aux_lemma => kernel_rfl
 ·
  exact fact_heard
 ·
  exact fact_enter
 ·
  rw [show Rows.fnCasLeftRow.lifted = Rows.fnCasLeftRow.lifted from by kernel_rfl]; exact fact_lifts
 ·
  rw [show Rows.fnCasLeftRow.make = Rows.fnCasLeftRow.make from by kernel_rfl]; exact fact_make
 ·
  as_aux_lemma => kernel_rfl
 ·
  as_aux_lemma => kernel_rfl
 ·
  as_aux_lemma => kernel_rfl
 ·
  as_aux_lemma => kernel_rfl

theorem proved : Rows.FnCasLeftSaid :=
 OpenClaim.holds_of_wide 4 Try.f4 rfl rfl rfl rfl rfl rfl rfl ⟨rfl, rfl, rfl, rfl, rfl⟩ rfl rfl rfl rfl rfl (by as_aux_lemma => kernel_rfl) Try.func4 closed
  (of_decide_eq_true (by as_aux_lemma => kernel_rfl)) (by unfold Func.isWrapper; first | (rw [if_pos (by decide +kernel)]; kernel_rfl) | (rw [if_neg (by decide +kernel)]; exact ⟨rfl, rfl⟩))
  (fun os started H enc _ => lifted os started H enc)
#print axioms proved
end Go.Proofs.Ytjieilicjdoaaaa.fnCasLeft
