/-
  No cell of these rows narrows 'for every input' (looked for: loops, veiled, ifaces, maps, wideKeys, modest, calm, conditions, laid).
  DERIVED. THE GIVEN ROWS OF THIS SEAT. 12 by the template 'for every input the law returns true; each argument reads behind the call as it read before'; 0 by the template 'total and deterministic' (their statements: YtkngpmmjmhidcaaTotals.lean).
  GIVEN WITH THE SEED: the statements are not yours to turn. If you find one false, say at which input.
  Laid BY PROGRAM, IN A SANDBOX (cutbox-rows.mjs): the forced cells as the released guide's own fill.sh prints them over the translation e265aae8c94620c3… (all of the seat's roots in one cut). By AI agents, Wed Nov 11 2026. No macro, syntax, notation, axiom, sorry.
-/
import Derived.Test.YtkngpmmjmhidcaaChecked
import GoSem.Claim
import GoSem.ClaimJoined
import GoSem.ClaimMapViews
import Derived.JoinedTies
import Derived.KernelRfl
namespace Go.Proofs.Ytkngpmmjmhidcaa
/- THE CELL 'sum', in the pinned program and in every row, IS THE sha256 OF THE DUMP (.gsa) THAT YtkngpmmjmhidcaaProg.lean LOADS. Nothing in Lean hashes anything: it is a label: what it is worth is what the hold of that sum in a sandbox is worth. -/
noncomputable def Try.pinned : Pinned := { name := "ytkngpmmjmhidcaa", sum := "e265aae8c94620c30c1531e510e10bd2a66c05043ec6b958ff6a628f39613440", checked := Try.checked }
namespace Rows
def none {H : Type} : Left H := { results := [], args := [] }

/-- 'laws.FnExactPplOk': WHATEVER THE INPUT: true; the input reads as it did. -/
def fnExactPplOkSpec : ChangeSpec := { name := "fnExactPplOk", fn := fun _ => fun
  | [d] => { results := [.lit (.bool true)], args := [d] }
  | _ => none }
def fnExactPplOkRow : OpenClaim := { program := "ytkngpmmjmhidcaa", sum := "e265aae8c94620c30c1531e510e10bd2a66c05043ec6b958ff6a628f39613440", func := "loop.example/guildway/laws.FnExactPplOk", spec := "fnExactPplOk", unfollowed := true, recurses := true, apart := false }
def FnExactPplOkSaid : Prop := fnExactPplOkRow.holds Try.pinned (OpenSpec.ofChange fnExactPplOkSpec)

/-- ITS FALSE NEIGHBOUR: 'it returns false'. Refute it at one input. -/
def fnExactPplOkWrong : ChangeSpec := { name := "fnExactPplOk", fn := fun _ => fun
  | [d] => { results := [.lit (.bool false)], args := [d] }
  | _ => none }
def FnExactPplOkWrongFalsely : Prop := fnExactPplOkRow.holds Try.pinned (OpenSpec.ofChange fnExactPplOkWrong)

/-- 'laws.FnPplDid': WHATEVER THE INPUT: true; the input reads as it did. -/
def fnPplDidSpec : ChangeSpec := { name := "fnPplDid", fn := fun _ => fun
  | [d] => { results := [.lit (.bool true)], args := [d] }
  | _ => none }
def fnPplDidRow : OpenClaim := { program := "ytkngpmmjmhidcaa", sum := "e265aae8c94620c30c1531e510e10bd2a66c05043ec6b958ff6a628f39613440", func := "loop.example/guildway/laws.FnPplDid", spec := "fnPplDid", apart := false }
def FnPplDidSaid : Prop := fnPplDidRow.holds Try.pinned (OpenSpec.ofChange fnPplDidSpec)

/-- ITS FALSE NEIGHBOUR: 'it returns false'. Refute it at one input. -/
def fnPplDidWrong : ChangeSpec := { name := "fnPplDid", fn := fun _ => fun
  | [d] => { results := [.lit (.bool false)], args := [d] }
  | _ => none }
def FnPplDidWrongFalsely : Prop := fnPplDidRow.holds Try.pinned (OpenSpec.ofChange fnPplDidWrong)

/-- 'laws.FnExactPplDid': WHATEVER THE INPUT: true; the input reads as it did. -/
def fnExactPplDidSpec : ChangeSpec := { name := "fnExactPplDid", fn := fun _ => fun
  | [d1, d2, d3] => { results := [.lit (.bool true)], args := [d1, d2, d3] }
  | _ => none }
def fnExactPplDidRow : OpenClaim := { program := "ytkngpmmjmhidcaa", sum := "e265aae8c94620c30c1531e510e10bd2a66c05043ec6b958ff6a628f39613440", func := "loop.example/guildway/laws.FnExactPplDid", spec := "fnExactPplDid", apart := false }
def FnExactPplDidSaid : Prop := fnExactPplDidRow.holds Try.pinned (OpenSpec.ofChange fnExactPplDidSpec)

/-- ITS FALSE NEIGHBOUR: 'it returns false'. Refute it at one input. -/
def fnExactPplDidWrong : ChangeSpec := { name := "fnExactPplDid", fn := fun _ => fun
  | [d1, d2, d3] => { results := [.lit (.bool false)], args := [d1, d2, d3] }
  | _ => none }
def FnExactPplDidWrongFalsely : Prop := fnExactPplDidRow.holds Try.pinned (OpenSpec.ofChange fnExactPplDidWrong)

/-- 'laws.FnExactPplHas': WHATEVER THE INPUT: true; the input reads as it did. -/
def fnExactPplHasSpec : ChangeSpec := { name := "fnExactPplHas", fn := fun _ => fun
  | [d1, d2, d3] => { results := [.lit (.bool true)], args := [d1, d2, d3] }
  | _ => none }
def fnExactPplHasRow : OpenClaim := { program := "ytkngpmmjmhidcaa", sum := "e265aae8c94620c30c1531e510e10bd2a66c05043ec6b958ff6a628f39613440", func := "loop.example/guildway/laws.FnExactPplHas", spec := "fnExactPplHas", unfollowed := true, recurses := true, apart := false }
def FnExactPplHasSaid : Prop := fnExactPplHasRow.holds Try.pinned (OpenSpec.ofChange fnExactPplHasSpec)

/-- ITS FALSE NEIGHBOUR: 'it returns false'. Refute it at one input. -/
def fnExactPplHasWrong : ChangeSpec := { name := "fnExactPplHas", fn := fun _ => fun
  | [d1, d2, d3] => { results := [.lit (.bool false)], args := [d1, d2, d3] }
  | _ => none }
def FnExactPplHasWrongFalsely : Prop := fnExactPplHasRow.holds Try.pinned (OpenSpec.ofChange fnExactPplHasWrong)

/-- 'laws.FnPplHas': WHATEVER THE INPUT: true; the input reads as it did. -/
def fnPplHasSpec : ChangeSpec := { name := "fnPplHas", fn := fun _ => fun
  | [d1, d2] => { results := [.lit (.bool true)], args := [d1, d2] }
  | _ => none }
def fnPplHasRow : OpenClaim := { program := "ytkngpmmjmhidcaa", sum := "e265aae8c94620c30c1531e510e10bd2a66c05043ec6b958ff6a628f39613440", func := "loop.example/guildway/laws.FnPplHas", spec := "fnPplHas", unfollowed := true, recurses := true, apart := false }
def FnPplHasSaid : Prop := fnPplHasRow.holds Try.pinned (OpenSpec.ofChange fnPplHasSpec)

/-- ITS FALSE NEIGHBOUR: 'it returns false'. Refute it at one input. -/
def fnPplHasWrong : ChangeSpec := { name := "fnPplHas", fn := fun _ => fun
  | [d1, d2] => { results := [.lit (.bool false)], args := [d1, d2] }
  | _ => none }
def FnPplHasWrongFalsely : Prop := fnPplHasRow.holds Try.pinned (OpenSpec.ofChange fnPplHasWrong)

/-- 'laws.FnNetAsks': WHATEVER THE INPUT: true; the input reads as it did. -/
def fnNetAsksSpec : ChangeSpec := { name := "fnNetAsks", fn := fun _ => fun
  | [d] => { results := [.lit (.bool true)], args := [d] }
  | _ => none }
def fnNetAsksRow : OpenClaim := { program := "ytkngpmmjmhidcaa", sum := "e265aae8c94620c30c1531e510e10bd2a66c05043ec6b958ff6a628f39613440", func := "loop.example/guildway/laws.FnNetAsks", spec := "fnNetAsks", unfollowed := true, recurses := true, apart := false }
def FnNetAsksSaid : Prop := fnNetAsksRow.holds Try.pinned (OpenSpec.ofChange fnNetAsksSpec)

/-- ITS FALSE NEIGHBOUR: 'it returns false'. Refute it at one input. -/
def fnNetAsksWrong : ChangeSpec := { name := "fnNetAsks", fn := fun _ => fun
  | [d] => { results := [.lit (.bool false)], args := [d] }
  | _ => none }
def FnNetAsksWrongFalsely : Prop := fnNetAsksRow.holds Try.pinned (OpenSpec.ofChange fnNetAsksWrong)

/-- 'laws.FnExactPplAny': WHATEVER THE INPUT: true; the input reads as it did. -/
def fnExactPplAnySpec : ChangeSpec := { name := "fnExactPplAny", fn := fun _ => fun
  | [d1, d2] => { results := [.lit (.bool true)], args := [d1, d2] }
  | _ => none }
def fnExactPplAnyRow : OpenClaim := { program := "ytkngpmmjmhidcaa", sum := "e265aae8c94620c30c1531e510e10bd2a66c05043ec6b958ff6a628f39613440", func := "loop.example/guildway/laws.FnExactPplAny", spec := "fnExactPplAny", unfollowed := true, recurses := true, apart := false }
def FnExactPplAnySaid : Prop := fnExactPplAnyRow.holds Try.pinned (OpenSpec.ofChange fnExactPplAnySpec)

/-- ITS FALSE NEIGHBOUR: 'it returns false'. Refute it at one input. -/
def fnExactPplAnyWrong : ChangeSpec := { name := "fnExactPplAny", fn := fun _ => fun
  | [d1, d2] => { results := [.lit (.bool false)], args := [d1, d2] }
  | _ => none }
def FnExactPplAnyWrongFalsely : Prop := fnExactPplAnyRow.holds Try.pinned (OpenSpec.ofChange fnExactPplAnyWrong)

/-- 'laws.FnPplAny': WHATEVER THE INPUT: true; the input reads as it did. -/
def fnPplAnySpec : ChangeSpec := { name := "fnPplAny", fn := fun _ => fun
  | [d] => { results := [.lit (.bool true)], args := [d] }
  | _ => none }
def fnPplAnyRow : OpenClaim := { program := "ytkngpmmjmhidcaa", sum := "e265aae8c94620c30c1531e510e10bd2a66c05043ec6b958ff6a628f39613440", func := "loop.example/guildway/laws.FnPplAny", spec := "fnPplAny", unfollowed := true, recurses := true, apart := false }
def FnPplAnySaid : Prop := fnPplAnyRow.holds Try.pinned (OpenSpec.ofChange fnPplAnySpec)

/-- ITS FALSE NEIGHBOUR: 'it returns false'. Refute it at one input. -/
def fnPplAnyWrong : ChangeSpec := { name := "fnPplAny", fn := fun _ => fun
  | [d] => { results := [.lit (.bool false)], args := [d] }
  | _ => none }
def FnPplAnyWrongFalsely : Prop := fnPplAnyRow.holds Try.pinned (OpenSpec.ofChange fnPplAnyWrong)

/-- 'laws.FnExactPplFree': WHATEVER THE INPUT: true; the input reads as it did. -/
def fnExactPplFreeSpec : ChangeSpec := { name := "fnExactPplFree", fn := fun _ => fun
  | [d1, d2] => { results := [.lit (.bool true)], args := [d1, d2] }
  | _ => none }
def fnExactPplFreeRow : OpenClaim := { program := "ytkngpmmjmhidcaa", sum := "e265aae8c94620c30c1531e510e10bd2a66c05043ec6b958ff6a628f39613440", func := "loop.example/guildway/laws.FnExactPplFree", spec := "fnExactPplFree", unfollowed := true, recurses := true, apart := false }
def FnExactPplFreeSaid : Prop := fnExactPplFreeRow.holds Try.pinned (OpenSpec.ofChange fnExactPplFreeSpec)

/-- ITS FALSE NEIGHBOUR: 'it returns false'. Refute it at one input. -/
def fnExactPplFreeWrong : ChangeSpec := { name := "fnExactPplFree", fn := fun _ => fun
  | [d1, d2] => { results := [.lit (.bool false)], args := [d1, d2] }
  | _ => none }
def FnExactPplFreeWrongFalsely : Prop := fnExactPplFreeRow.holds Try.pinned (OpenSpec.ofChange fnExactPplFreeWrong)

/-- 'laws.FnExactCasLeft': WHATEVER THE INPUT: true; the input reads as it did. -/
def fnExactCasLeftSpec : ChangeSpec := { name := "fnExactCasLeft", fn := fun _ => fun
  | [d] => { results := [.lit (.bool true)], args := [d] }
  | _ => none }
def fnExactCasLeftRow : OpenClaim := { program := "ytkngpmmjmhidcaa", sum := "e265aae8c94620c30c1531e510e10bd2a66c05043ec6b958ff6a628f39613440", func := "loop.example/guildway/laws.FnExactCasLeft", spec := "fnExactCasLeft", apart := false }
def FnExactCasLeftSaid : Prop := fnExactCasLeftRow.holds Try.pinned (OpenSpec.ofChange fnExactCasLeftSpec)

/-- ITS FALSE NEIGHBOUR: 'it returns false'. Refute it at one input. -/
def fnExactCasLeftWrong : ChangeSpec := { name := "fnExactCasLeft", fn := fun _ => fun
  | [d] => { results := [.lit (.bool false)], args := [d] }
  | _ => none }
def FnExactCasLeftWrongFalsely : Prop := fnExactCasLeftRow.holds Try.pinned (OpenSpec.ofChange fnExactCasLeftWrong)

/-- 'laws.FnExactCasStuck': WHATEVER THE INPUT: true; the input reads as it did. -/
def fnExactCasStuckSpec : ChangeSpec := { name := "fnExactCasStuck", fn := fun _ => fun
  | [d1, d2] => { results := [.lit (.bool true)], args := [d1, d2] }
  | _ => none }
def fnExactCasStuckRow : OpenClaim := { program := "ytkngpmmjmhidcaa", sum := "e265aae8c94620c30c1531e510e10bd2a66c05043ec6b958ff6a628f39613440", func := "loop.example/guildway/laws.FnExactCasStuck", spec := "fnExactCasStuck", unfollowed := true, recurses := true, apart := false }
def FnExactCasStuckSaid : Prop := fnExactCasStuckRow.holds Try.pinned (OpenSpec.ofChange fnExactCasStuckSpec)

/-- ITS FALSE NEIGHBOUR: 'it returns false'. Refute it at one input. -/
def fnExactCasStuckWrong : ChangeSpec := { name := "fnExactCasStuck", fn := fun _ => fun
  | [d1, d2] => { results := [.lit (.bool false)], args := [d1, d2] }
  | _ => none }
def FnExactCasStuckWrongFalsely : Prop := fnExactCasStuckRow.holds Try.pinned (OpenSpec.ofChange fnExactCasStuckWrong)

/-- 'laws.FnExactCasTimes': WHATEVER THE INPUT: true; the input reads as it did. -/
def fnExactCasTimesSpec : ChangeSpec := { name := "fnExactCasTimes", fn := fun _ => fun
  | [d1, d2] => { results := [.lit (.bool true)], args := [d1, d2] }
  | _ => none }
def fnExactCasTimesRow : OpenClaim := { program := "ytkngpmmjmhidcaa", sum := "e265aae8c94620c30c1531e510e10bd2a66c05043ec6b958ff6a628f39613440", func := "loop.example/guildway/laws.FnExactCasTimes", spec := "fnExactCasTimes", apart := false }
def FnExactCasTimesSaid : Prop := fnExactCasTimesRow.holds Try.pinned (OpenSpec.ofChange fnExactCasTimesSpec)

/-- ITS FALSE NEIGHBOUR: 'it returns false'. Refute it at one input. -/
def fnExactCasTimesWrong : ChangeSpec := { name := "fnExactCasTimes", fn := fun _ => fun
  | [d1, d2] => { results := [.lit (.bool false)], args := [d1, d2] }
  | _ => none }
def FnExactCasTimesWrongFalsely : Prop := fnExactCasTimesRow.holds Try.pinned (OpenSpec.ofChange fnExactCasTimesWrong)

/- THE SECOND FORM. 'bulk': how many values and letters a reading holds, each counted each time it is reached (what is shared counts as often as it is met; a slice's spare places count too). A statement '..UptoSaid' is the law's where the arguments, and the package variables that the reading takes, are together of bulk at most 1048576: NARROWER than '..Said'. Prove '..Said' where nothing that the law and all that it calls make is longer than what came in: it says more and counts as full. Else prove '..UptoSaid'. A law counts once. -/
mutual
def uptoBulk {H : Type} : DataW H → Nat
  | .lit (.string bytes) => bytes.length + 1
  | .lit _ => 1
  | .nil => 1
  | .ptr d => uptoBulk d + 1
  | .slice elems spare => uptoBulkAll elems + uptoBulkAll spare + 1
  | .agg parts => uptoBulkAll parts + 1
  | .iface _ d => uptoBulk d + 1
  | .map entries => uptoBulkEntries entries + 1
  | .held _ => 1
def uptoBulkAll {H : Type} : List (DataW H) → Nat
  | [] => 0
  | d :: r => uptoBulk d + uptoBulkAll r
def uptoBulkEntries {H : Type} : List (Lit × DataW H) → Nat
  | [] => 0
  | x :: r => uptoBulkEntry x + uptoBulkEntries r
def uptoBulkEntry {H : Type} : Lit × DataW H → Nat
  | (.string bytes, d) => bytes.length + uptoBulk d + 1
  | (_, d) => uptoBulk d + 1
 end
def uptoSmall : (H : Type) → List (DataW H) → Bool := fun _ ds => decide (uptoBulkAll ds ≤ 1048576)
def OpenSpec.upto (s : _root_.Go.ChangeSpec) : _root_.Go.OpenSpec := { _root_.Go.OpenSpec.ofChange s with cond := some uptoSmall }

/-- 'laws.FnExactPplOk', WHERE WHAT IT READS IS OF BULK AT MOST 1048576: true; the input reads as it did. -/
def fnExactPplOkUptoRow : OpenClaim := { program := "ytkngpmmjmhidcaa", sum := "e265aae8c94620c30c1531e510e10bd2a66c05043ec6b958ff6a628f39613440", func := "loop.example/guildway/laws.FnExactPplOk", spec := "fnExactPplOk", unfollowed := true, recurses := true, apart := false, narrowed := true }
def FnExactPplOkUptoSaid : Prop := fnExactPplOkUptoRow.holds Try.pinned (OpenSpec.upto fnExactPplOkSpec)

/-- 'laws.FnPplDid', WHERE WHAT IT READS IS OF BULK AT MOST 1048576: true; the input reads as it did. -/
def fnPplDidUptoRow : OpenClaim := { program := "ytkngpmmjmhidcaa", sum := "e265aae8c94620c30c1531e510e10bd2a66c05043ec6b958ff6a628f39613440", func := "loop.example/guildway/laws.FnPplDid", spec := "fnPplDid", apart := false, narrowed := true }
def FnPplDidUptoSaid : Prop := fnPplDidUptoRow.holds Try.pinned (OpenSpec.upto fnPplDidSpec)

/-- 'laws.FnExactPplDid', WHERE WHAT IT READS IS OF BULK AT MOST 1048576: true; the input reads as it did. -/
def fnExactPplDidUptoRow : OpenClaim := { program := "ytkngpmmjmhidcaa", sum := "e265aae8c94620c30c1531e510e10bd2a66c05043ec6b958ff6a628f39613440", func := "loop.example/guildway/laws.FnExactPplDid", spec := "fnExactPplDid", apart := false, narrowed := true }
def FnExactPplDidUptoSaid : Prop := fnExactPplDidUptoRow.holds Try.pinned (OpenSpec.upto fnExactPplDidSpec)

/-- 'laws.FnExactPplHas', WHERE WHAT IT READS IS OF BULK AT MOST 1048576: true; the input reads as it did. -/
def fnExactPplHasUptoRow : OpenClaim := { program := "ytkngpmmjmhidcaa", sum := "e265aae8c94620c30c1531e510e10bd2a66c05043ec6b958ff6a628f39613440", func := "loop.example/guildway/laws.FnExactPplHas", spec := "fnExactPplHas", unfollowed := true, recurses := true, apart := false, narrowed := true }
def FnExactPplHasUptoSaid : Prop := fnExactPplHasUptoRow.holds Try.pinned (OpenSpec.upto fnExactPplHasSpec)

/-- 'laws.FnPplHas', WHERE WHAT IT READS IS OF BULK AT MOST 1048576: true; the input reads as it did. -/
def fnPplHasUptoRow : OpenClaim := { program := "ytkngpmmjmhidcaa", sum := "e265aae8c94620c30c1531e510e10bd2a66c05043ec6b958ff6a628f39613440", func := "loop.example/guildway/laws.FnPplHas", spec := "fnPplHas", unfollowed := true, recurses := true, apart := false, narrowed := true }
def FnPplHasUptoSaid : Prop := fnPplHasUptoRow.holds Try.pinned (OpenSpec.upto fnPplHasSpec)

/-- 'laws.FnNetAsks', WHERE WHAT IT READS IS OF BULK AT MOST 1048576: true; the input reads as it did. -/
def fnNetAsksUptoRow : OpenClaim := { program := "ytkngpmmjmhidcaa", sum := "e265aae8c94620c30c1531e510e10bd2a66c05043ec6b958ff6a628f39613440", func := "loop.example/guildway/laws.FnNetAsks", spec := "fnNetAsks", unfollowed := true, recurses := true, apart := false, narrowed := true }
def FnNetAsksUptoSaid : Prop := fnNetAsksUptoRow.holds Try.pinned (OpenSpec.upto fnNetAsksSpec)

/-- 'laws.FnExactPplAny', WHERE WHAT IT READS IS OF BULK AT MOST 1048576: true; the input reads as it did. -/
def fnExactPplAnyUptoRow : OpenClaim := { program := "ytkngpmmjmhidcaa", sum := "e265aae8c94620c30c1531e510e10bd2a66c05043ec6b958ff6a628f39613440", func := "loop.example/guildway/laws.FnExactPplAny", spec := "fnExactPplAny", unfollowed := true, recurses := true, apart := false, narrowed := true }
def FnExactPplAnyUptoSaid : Prop := fnExactPplAnyUptoRow.holds Try.pinned (OpenSpec.upto fnExactPplAnySpec)

/-- 'laws.FnPplAny', WHERE WHAT IT READS IS OF BULK AT MOST 1048576: true; the input reads as it did. -/
def fnPplAnyUptoRow : OpenClaim := { program := "ytkngpmmjmhidcaa", sum := "e265aae8c94620c30c1531e510e10bd2a66c05043ec6b958ff6a628f39613440", func := "loop.example/guildway/laws.FnPplAny", spec := "fnPplAny", unfollowed := true, recurses := true, apart := false, narrowed := true }
def FnPplAnyUptoSaid : Prop := fnPplAnyUptoRow.holds Try.pinned (OpenSpec.upto fnPplAnySpec)

/-- 'laws.FnExactPplFree', WHERE WHAT IT READS IS OF BULK AT MOST 1048576: true; the input reads as it did. -/
def fnExactPplFreeUptoRow : OpenClaim := { program := "ytkngpmmjmhidcaa", sum := "e265aae8c94620c30c1531e510e10bd2a66c05043ec6b958ff6a628f39613440", func := "loop.example/guildway/laws.FnExactPplFree", spec := "fnExactPplFree", unfollowed := true, recurses := true, apart := false, narrowed := true }
def FnExactPplFreeUptoSaid : Prop := fnExactPplFreeUptoRow.holds Try.pinned (OpenSpec.upto fnExactPplFreeSpec)

/-- 'laws.FnExactCasLeft', WHERE WHAT IT READS IS OF BULK AT MOST 1048576: true; the input reads as it did. -/
def fnExactCasLeftUptoRow : OpenClaim := { program := "ytkngpmmjmhidcaa", sum := "e265aae8c94620c30c1531e510e10bd2a66c05043ec6b958ff6a628f39613440", func := "loop.example/guildway/laws.FnExactCasLeft", spec := "fnExactCasLeft", apart := false, narrowed := true }
def FnExactCasLeftUptoSaid : Prop := fnExactCasLeftUptoRow.holds Try.pinned (OpenSpec.upto fnExactCasLeftSpec)

/-- 'laws.FnExactCasStuck', WHERE WHAT IT READS IS OF BULK AT MOST 1048576: true; the input reads as it did. -/
def fnExactCasStuckUptoRow : OpenClaim := { program := "ytkngpmmjmhidcaa", sum := "e265aae8c94620c30c1531e510e10bd2a66c05043ec6b958ff6a628f39613440", func := "loop.example/guildway/laws.FnExactCasStuck", spec := "fnExactCasStuck", unfollowed := true, recurses := true, apart := false, narrowed := true }
def FnExactCasStuckUptoSaid : Prop := fnExactCasStuckUptoRow.holds Try.pinned (OpenSpec.upto fnExactCasStuckSpec)

/-- 'laws.FnExactCasTimes', WHERE WHAT IT READS IS OF BULK AT MOST 1048576: true; the input reads as it did. -/
def fnExactCasTimesUptoRow : OpenClaim := { program := "ytkngpmmjmhidcaa", sum := "e265aae8c94620c30c1531e510e10bd2a66c05043ec6b958ff6a628f39613440", func := "loop.example/guildway/laws.FnExactCasTimes", spec := "fnExactCasTimes", apart := false, narrowed := true }
def FnExactCasTimesUptoSaid : Prop := fnExactCasTimesUptoRow.holds Try.pinned (OpenSpec.upto fnExactCasTimesSpec)

end Rows
end Go.Proofs.Ytkngpmmjmhidcaa
