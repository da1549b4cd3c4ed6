/-
  No cell of these rows narrows 'for every input' (looked for: loops, veiled, ifaces, maps, wideKeys, modest, calm, conditions, laid).
  DERIVED. THE GIVEN ROWS OF THIS SEAT. 14 by the template 'for every input the law returns true; each argument reads behind the call as it read before'; 0 by the template 'total and deterministic' (their statements: YtkkjljpokannkaaTotals.lean).
  GIVEN WITH THE SEED: the statements are not yours to turn. If you find one false, say at which input.
  Laid BY PROGRAM, IN A SANDBOX (cutbox-rows.mjs): the forced cells as the released guide's own fill.sh prints them over the translation f37360faa0a0c6fd… (all of the seat's roots in one cut). By AI agents, Wed Nov 11 2026. No macro, syntax, notation, axiom, sorry.
-/
import Derived.Test.YtkkjljpokannkaaChecked
import GoSem.Claim
import GoSem.ClaimJoined
import GoSem.ClaimMapViews
import Derived.JoinedTies
import Derived.KernelRfl
namespace Go.Proofs.Ytkkjljpokannkaa
/- THE CELL 'sum', in the pinned program and in every row, IS THE sha256 OF THE DUMP (.gsa) THAT YtkkjljpokannkaaProg.lean LOADS. Nothing in Lean hashes anything: it is a label: what it is worth is what the hold of that sum in a sandbox is worth. -/
noncomputable def Try.pinned : Pinned := { name := "ytkkjljpokannkaa", sum := "f37360faa0a0c6fda5d9675e30f889c0736c610227d54241265b053991ddb23a", checked := Try.checked }
namespace Rows
def none {H : Type} : Left H := { results := [], args := [] }

/-- 'laws.FnPplFree': WHATEVER THE INPUT: true; the input reads as it did. -/
def fnPplFreeSpec : ChangeSpec := { name := "fnPplFree", fn := fun _ => fun
  | [d] => { results := [.lit (.bool true)], args := [d] }
  | _ => none }
def fnPplFreeRow : OpenClaim := { program := "ytkkjljpokannkaa", sum := "f37360faa0a0c6fda5d9675e30f889c0736c610227d54241265b053991ddb23a", func := "loop.example/guildway/laws.FnPplFree", spec := "fnPplFree", unfollowed := true, recurses := true, apart := false }
def FnPplFreeSaid : Prop := fnPplFreeRow.holds Try.pinned (OpenSpec.ofChange fnPplFreeSpec)

/-- ITS FALSE NEIGHBOUR: 'it returns false'. Refute it at one input. -/
def fnPplFreeWrong : ChangeSpec := { name := "fnPplFree", fn := fun _ => fun
  | [d] => { results := [.lit (.bool false)], args := [d] }
  | _ => none }
def FnPplFreeWrongFalsely : Prop := fnPplFreeRow.holds Try.pinned (OpenSpec.ofChange fnPplFreeWrong)

/-- 'laws.FnSndPlain': WHATEVER THE INPUT: true; the input reads as it did. -/
def fnSndPlainSpec : ChangeSpec := { name := "fnSndPlain", fn := fun _ => fun
  | [d] => { results := [.lit (.bool true)], args := [d] }
  | _ => none }
def fnSndPlainRow : OpenClaim := { program := "ytkkjljpokannkaa", sum := "f37360faa0a0c6fda5d9675e30f889c0736c610227d54241265b053991ddb23a", func := "loop.example/guildway/laws.FnSndPlain", spec := "fnSndPlain", unfollowed := true, recurses := true, apart := false }
def FnSndPlainSaid : Prop := fnSndPlainRow.holds Try.pinned (OpenSpec.ofChange fnSndPlainSpec)

/-- ITS FALSE NEIGHBOUR: 'it returns false'. Refute it at one input. -/
def fnSndPlainWrong : ChangeSpec := { name := "fnSndPlain", fn := fun _ => fun
  | [d] => { results := [.lit (.bool false)], args := [d] }
  | _ => none }
def FnSndPlainWrongFalsely : Prop := fnSndPlainRow.holds Try.pinned (OpenSpec.ofChange fnSndPlainWrong)

/-- 'laws.FnExactSplAll': WHATEVER THE INPUT: true; the input reads as it did. -/
def fnExactSplAllSpec : ChangeSpec := { name := "fnExactSplAll", fn := fun _ => fun
  | [d] => { results := [.lit (.bool true)], args := [d] }
  | _ => none }
def fnExactSplAllRow : OpenClaim := { program := "ytkkjljpokannkaa", sum := "f37360faa0a0c6fda5d9675e30f889c0736c610227d54241265b053991ddb23a", func := "loop.example/guildway/laws.FnExactSplAll", spec := "fnExactSplAll", apart := false }
def FnExactSplAllSaid : Prop := fnExactSplAllRow.holds Try.pinned (OpenSpec.ofChange fnExactSplAllSpec)

/-- ITS FALSE NEIGHBOUR: 'it returns false'. Refute it at one input. -/
def fnExactSplAllWrong : ChangeSpec := { name := "fnExactSplAll", fn := fun _ => fun
  | [d] => { results := [.lit (.bool false)], args := [d] }
  | _ => none }
def FnExactSplAllWrongFalsely : Prop := fnExactSplAllRow.holds Try.pinned (OpenSpec.ofChange fnExactSplAllWrong)

/-- 'laws.FnSplAll': WHATEVER THE INPUT: true; the input reads as it did. -/
def fnSplAllSpec : ChangeSpec := { name := "fnSplAll", fn := fun _ => fun
  | [d] => { results := [.lit (.bool true)], args := [d] }
  | _ => none }
def fnSplAllRow : OpenClaim := { program := "ytkkjljpokannkaa", sum := "f37360faa0a0c6fda5d9675e30f889c0736c610227d54241265b053991ddb23a", func := "loop.example/guildway/laws.FnSplAll", spec := "fnSplAll", unfollowed := true, recurses := true, apart := false }
def FnSplAllSaid : Prop := fnSplAllRow.holds Try.pinned (OpenSpec.ofChange fnSplAllSpec)

/-- ITS FALSE NEIGHBOUR: 'it returns false'. Refute it at one input. -/
def fnSplAllWrong : ChangeSpec := { name := "fnSplAll", fn := fun _ => fun
  | [d] => { results := [.lit (.bool false)], args := [d] }
  | _ => none }
def FnSplAllWrongFalsely : Prop := fnSplAllRow.holds Try.pinned (OpenSpec.ofChange fnSplAllWrong)

/-- 'laws.FnCasNew': WHATEVER THE INPUT: true; the input reads as it did. -/
def fnCasNewSpec : ChangeSpec := { name := "fnCasNew", fn := fun _ => fun
  | [d] => { results := [.lit (.bool true)], args := [d] }
  | _ => none }
def fnCasNewRow : OpenClaim := { program := "ytkkjljpokannkaa", sum := "f37360faa0a0c6fda5d9675e30f889c0736c610227d54241265b053991ddb23a", func := "loop.example/guildway/laws.FnCasNew", spec := "fnCasNew", unfollowed := true, recurses := true, apart := false }
def FnCasNewSaid : Prop := fnCasNewRow.holds Try.pinned (OpenSpec.ofChange fnCasNewSpec)

/-- ITS FALSE NEIGHBOUR: 'it returns false'. Refute it at one input. -/
def fnCasNewWrong : ChangeSpec := { name := "fnCasNew", fn := fun _ => fun
  | [d] => { results := [.lit (.bool false)], args := [d] }
  | _ => none }
def FnCasNewWrongFalsely : Prop := fnCasNewRow.holds Try.pinned (OpenSpec.ofChange fnCasNewWrong)

/-- 'laws.FnPplMay': WHATEVER THE INPUT: true; the input reads as it did. -/
def fnPplMaySpec : ChangeSpec := { name := "fnPplMay", fn := fun _ => fun
  | [d] => { results := [.lit (.bool true)], args := [d] }
  | _ => none }
def fnPplMayRow : OpenClaim := { program := "ytkkjljpokannkaa", sum := "f37360faa0a0c6fda5d9675e30f889c0736c610227d54241265b053991ddb23a", func := "loop.example/guildway/laws.FnPplMay", spec := "fnPplMay", unfollowed := true, recurses := true, apart := false }
def FnPplMaySaid : Prop := fnPplMayRow.holds Try.pinned (OpenSpec.ofChange fnPplMaySpec)

/-- ITS FALSE NEIGHBOUR: 'it returns false'. Refute it at one input. -/
def fnPplMayWrong : ChangeSpec := { name := "fnPplMay", fn := fun _ => fun
  | [d] => { results := [.lit (.bool false)], args := [d] }
  | _ => none }
def FnPplMayWrongFalsely : Prop := fnPplMayRow.holds Try.pinned (OpenSpec.ofChange fnPplMayWrong)

/-- 'laws.FnFirSum': WHATEVER THE INPUT: true; the input reads as it did. -/
def fnFirSumSpec : ChangeSpec := { name := "fnFirSum", fn := fun _ => fun
  | [d] => { results := [.lit (.bool true)], args := [d] }
  | _ => none }
def fnFirSumRow : OpenClaim := { program := "ytkkjljpokannkaa", sum := "f37360faa0a0c6fda5d9675e30f889c0736c610227d54241265b053991ddb23a", func := "loop.example/guildway/laws.FnFirSum", spec := "fnFirSum", unfollowed := true, recurses := true, apart := false }
def FnFirSumSaid : Prop := fnFirSumRow.holds Try.pinned (OpenSpec.ofChange fnFirSumSpec)

/-- ITS FALSE NEIGHBOUR: 'it returns false'. Refute it at one input. -/
def fnFirSumWrong : ChangeSpec := { name := "fnFirSum", fn := fun _ => fun
  | [d] => { results := [.lit (.bool false)], args := [d] }
  | _ => none }
def FnFirSumWrongFalsely : Prop := fnFirSumRow.holds Try.pinned (OpenSpec.ofChange fnFirSumWrong)

/-- 'laws.FnCasLeft': WHATEVER THE INPUT: true; the input reads as it did. -/
def fnCasLeftSpec : ChangeSpec := { name := "fnCasLeft", fn := fun _ => fun
  | [d] => { results := [.lit (.bool true)], args := [d] }
  | _ => none }
def fnCasLeftRow : OpenClaim := { program := "ytkkjljpokannkaa", sum := "f37360faa0a0c6fda5d9675e30f889c0736c610227d54241265b053991ddb23a", func := "loop.example/guildway/laws.FnCasLeft", spec := "fnCasLeft", unfollowed := true, recurses := true, apart := false }
def FnCasLeftSaid : Prop := fnCasLeftRow.holds Try.pinned (OpenSpec.ofChange fnCasLeftSpec)

/-- ITS FALSE NEIGHBOUR: 'it returns false'. Refute it at one input. -/
def fnCasLeftWrong : ChangeSpec := { name := "fnCasLeft", fn := fun _ => fun
  | [d] => { results := [.lit (.bool false)], args := [d] }
  | _ => none }
def FnCasLeftWrongFalsely : Prop := fnCasLeftRow.holds Try.pinned (OpenSpec.ofChange fnCasLeftWrong)

/-- 'laws.FnCasBy': WHATEVER THE INPUT: true; the input reads as it did. -/
def fnCasBySpec : ChangeSpec := { name := "fnCasBy", fn := fun _ => fun
  | [d] => { results := [.lit (.bool true)], args := [d] }
  | _ => none }
def fnCasByRow : OpenClaim := { program := "ytkkjljpokannkaa", sum := "f37360faa0a0c6fda5d9675e30f889c0736c610227d54241265b053991ddb23a", func := "loop.example/guildway/laws.FnCasBy", spec := "fnCasBy", unfollowed := true, recurses := true, apart := false }
def FnCasBySaid : Prop := fnCasByRow.holds Try.pinned (OpenSpec.ofChange fnCasBySpec)

/-- ITS FALSE NEIGHBOUR: 'it returns false'. Refute it at one input. -/
def fnCasByWrong : ChangeSpec := { name := "fnCasBy", fn := fun _ => fun
  | [d] => { results := [.lit (.bool false)], args := [d] }
  | _ => none }
def FnCasByWrongFalsely : Prop := fnCasByRow.holds Try.pinned (OpenSpec.ofChange fnCasByWrong)

/-- 'laws.FnNetAsks': WHATEVER THE INPUT: true; the input reads as it did. -/
def fnNetAsksSpec : ChangeSpec := { name := "fnNetAsks", fn := fun _ => fun
  | [d] => { results := [.lit (.bool true)], args := [d] }
  | _ => none }
def fnNetAsksRow : OpenClaim := { program := "ytkkjljpokannkaa", sum := "f37360faa0a0c6fda5d9675e30f889c0736c610227d54241265b053991ddb23a", func := "loop.example/guildway/laws.FnNetAsks", spec := "fnNetAsks", unfollowed := true, recurses := true, apart := false }
def FnNetAsksSaid : Prop := fnNetAsksRow.holds Try.pinned (OpenSpec.ofChange fnNetAsksSpec)

/-- ITS FALSE NEIGHBOUR: 'it returns false'. Refute it at one input. -/
def fnNetAsksWrong : ChangeSpec := { name := "fnNetAsks", fn := fun _ => fun
  | [d] => { results := [.lit (.bool false)], args := [d] }
  | _ => none }
def FnNetAsksWrongFalsely : Prop := fnNetAsksRow.holds Try.pinned (OpenSpec.ofChange fnNetAsksWrong)

/-- 'laws.FnExactCasNew': WHATEVER THE INPUT: true; the input reads as it did. -/
def fnExactCasNewSpec : ChangeSpec := { name := "fnExactCasNew", fn := fun _ => fun
  | [d1, d2] => { results := [.lit (.bool true)], args := [d1, d2] }
  | _ => none }
def fnExactCasNewRow : OpenClaim := { program := "ytkkjljpokannkaa", sum := "f37360faa0a0c6fda5d9675e30f889c0736c610227d54241265b053991ddb23a", func := "loop.example/guildway/laws.FnExactCasNew", spec := "fnExactCasNew", unfollowed := true, recurses := true, apart := false }
def FnExactCasNewSaid : Prop := fnExactCasNewRow.holds Try.pinned (OpenSpec.ofChange fnExactCasNewSpec)

/-- ITS FALSE NEIGHBOUR: 'it returns false'. Refute it at one input. -/
def fnExactCasNewWrong : ChangeSpec := { name := "fnExactCasNew", fn := fun _ => fun
  | [d1, d2] => { results := [.lit (.bool false)], args := [d1, d2] }
  | _ => none }
def FnExactCasNewWrongFalsely : Prop := fnExactCasNewRow.holds Try.pinned (OpenSpec.ofChange fnExactCasNewWrong)

/-- 'laws.FnEngNew': WHATEVER THE INPUT: true; the input reads as it did. -/
def fnEngNewSpec : ChangeSpec := { name := "fnEngNew", fn := fun _ => fun
  | [d] => { results := [.lit (.bool true)], args := [d] }
  | _ => none }
def fnEngNewRow : OpenClaim := { program := "ytkkjljpokannkaa", sum := "f37360faa0a0c6fda5d9675e30f889c0736c610227d54241265b053991ddb23a", func := "loop.example/guildway/laws.FnEngNew", spec := "fnEngNew", unfollowed := true, recurses := true, apart := false }
def FnEngNewSaid : Prop := fnEngNewRow.holds Try.pinned (OpenSpec.ofChange fnEngNewSpec)

/-- ITS FALSE NEIGHBOUR: 'it returns false'. Refute it at one input. -/
def fnEngNewWrong : ChangeSpec := { name := "fnEngNew", fn := fun _ => fun
  | [d] => { results := [.lit (.bool false)], args := [d] }
  | _ => none }
def FnEngNewWrongFalsely : Prop := fnEngNewRow.holds Try.pinned (OpenSpec.ofChange fnEngNewWrong)

/-- 'laws.FnExactCasStuck': WHATEVER THE INPUT: true; the input reads as it did. -/
def fnExactCasStuckSpec : ChangeSpec := { name := "fnExactCasStuck", fn := fun _ => fun
  | [d1, d2] => { results := [.lit (.bool true)], args := [d1, d2] }
  | _ => none }
def fnExactCasStuckRow : OpenClaim := { program := "ytkkjljpokannkaa", sum := "f37360faa0a0c6fda5d9675e30f889c0736c610227d54241265b053991ddb23a", func := "loop.example/guildway/laws.FnExactCasStuck", spec := "fnExactCasStuck", unfollowed := true, recurses := true, apart := false }
def FnExactCasStuckSaid : Prop := fnExactCasStuckRow.holds Try.pinned (OpenSpec.ofChange fnExactCasStuckSpec)

/-- ITS FALSE NEIGHBOUR: 'it returns false'. Refute it at one input. -/
def fnExactCasStuckWrong : ChangeSpec := { name := "fnExactCasStuck", fn := fun _ => fun
  | [d1, d2] => { results := [.lit (.bool false)], args := [d1, d2] }
  | _ => none }
def FnExactCasStuckWrongFalsely : Prop := fnExactCasStuckRow.holds Try.pinned (OpenSpec.ofChange fnExactCasStuckWrong)

/-- 'laws.FnExactRdrAdd': WHATEVER THE INPUT: true; the input reads as it did. -/
def fnExactRdrAddSpec : ChangeSpec := { name := "fnExactRdrAdd", fn := fun _ => fun
  | [d1, d2, d3, d4] => { results := [.lit (.bool true)], args := [d1, d2, d3, d4] }
  | _ => none }
def fnExactRdrAddRow : OpenClaim := { program := "ytkkjljpokannkaa", sum := "f37360faa0a0c6fda5d9675e30f889c0736c610227d54241265b053991ddb23a", func := "loop.example/guildway/laws.FnExactRdrAdd", spec := "fnExactRdrAdd", unfollowed := true, recurses := true, apart := false }
def FnExactRdrAddSaid : Prop := fnExactRdrAddRow.holds Try.pinned (OpenSpec.ofChange fnExactRdrAddSpec)

/-- ITS FALSE NEIGHBOUR: 'it returns false'. Refute it at one input. -/
def fnExactRdrAddWrong : ChangeSpec := { name := "fnExactRdrAdd", fn := fun _ => fun
  | [d1, d2, d3, d4] => { results := [.lit (.bool false)], args := [d1, d2, d3, d4] }
  | _ => none }
def FnExactRdrAddWrongFalsely : Prop := fnExactRdrAddRow.holds Try.pinned (OpenSpec.ofChange fnExactRdrAddWrong)

/- THE SECOND FORM. 'bulk': how many values and letters a reading holds, each counted each time it is reached (what is shared counts as often as it is met; a slice's spare places count too). A statement '..UptoSaid' is the law's where the arguments, and the package variables that the reading takes, are together of bulk at most 1048576: NARROWER than '..Said'. Prove '..Said' where nothing that the law and all that it calls make is longer than what came in: it says more and counts as full. Else prove '..UptoSaid'. A law counts once. -/
mutual
def uptoBulk {H : Type} : DataW H → Nat
  | .lit (.string bytes) => bytes.length + 1
  | .lit _ => 1
  | .nil => 1
  | .ptr d => uptoBulk d + 1
  | .slice elems spare => uptoBulkAll elems + uptoBulkAll spare + 1
  | .agg parts => uptoBulkAll parts + 1
  | .iface _ d => uptoBulk d + 1
  | .map entries => uptoBulkEntries entries + 1
  | .held _ => 1
def uptoBulkAll {H : Type} : List (DataW H) → Nat
  | [] => 0
  | d :: r => uptoBulk d + uptoBulkAll r
def uptoBulkEntries {H : Type} : List (Lit × DataW H) → Nat
  | [] => 0
  | x :: r => uptoBulkEntry x + uptoBulkEntries r
def uptoBulkEntry {H : Type} : Lit × DataW H → Nat
  | (.string bytes, d) => bytes.length + uptoBulk d + 1
  | (_, d) => uptoBulk d + 1
 end
def uptoSmall : (H : Type) → List (DataW H) → Bool := fun _ ds => decide (uptoBulkAll ds ≤ 1048576)
def OpenSpec.upto (s : _root_.Go.ChangeSpec) : _root_.Go.OpenSpec := { _root_.Go.OpenSpec.ofChange s with cond := some uptoSmall }

/-- 'laws.FnPplFree', WHERE WHAT IT READS IS OF BULK AT MOST 1048576: true; the input reads as it did. -/
def fnPplFreeUptoRow : OpenClaim := { program := "ytkkjljpokannkaa", sum := "f37360faa0a0c6fda5d9675e30f889c0736c610227d54241265b053991ddb23a", func := "loop.example/guildway/laws.FnPplFree", spec := "fnPplFree", unfollowed := true, recurses := true, apart := false, narrowed := true }
def FnPplFreeUptoSaid : Prop := fnPplFreeUptoRow.holds Try.pinned (OpenSpec.upto fnPplFreeSpec)

/-- 'laws.FnSndPlain', WHERE WHAT IT READS IS OF BULK AT MOST 1048576: true; the input reads as it did. -/
def fnSndPlainUptoRow : OpenClaim := { program := "ytkkjljpokannkaa", sum := "f37360faa0a0c6fda5d9675e30f889c0736c610227d54241265b053991ddb23a", func := "loop.example/guildway/laws.FnSndPlain", spec := "fnSndPlain", unfollowed := true, recurses := true, apart := false, narrowed := true }
def FnSndPlainUptoSaid : Prop := fnSndPlainUptoRow.holds Try.pinned (OpenSpec.upto fnSndPlainSpec)

/-- 'laws.FnExactSplAll', WHERE WHAT IT READS IS OF BULK AT MOST 1048576: true; the input reads as it did. -/
def fnExactSplAllUptoRow : OpenClaim := { program := "ytkkjljpokannkaa", sum := "f37360faa0a0c6fda5d9675e30f889c0736c610227d54241265b053991ddb23a", func := "loop.example/guildway/laws.FnExactSplAll", spec := "fnExactSplAll", apart := false, narrowed := true }
def FnExactSplAllUptoSaid : Prop := fnExactSplAllUptoRow.holds Try.pinned (OpenSpec.upto fnExactSplAllSpec)

/-- 'laws.FnSplAll', WHERE WHAT IT READS IS OF BULK AT MOST 1048576: true; the input reads as it did. -/
def fnSplAllUptoRow : OpenClaim := { program := "ytkkjljpokannkaa", sum := "f37360faa0a0c6fda5d9675e30f889c0736c610227d54241265b053991ddb23a", func := "loop.example/guildway/laws.FnSplAll", spec := "fnSplAll", unfollowed := true, recurses := true, apart := false, narrowed := true }
def FnSplAllUptoSaid : Prop := fnSplAllUptoRow.holds Try.pinned (OpenSpec.upto fnSplAllSpec)

/-- 'laws.FnCasNew', WHERE WHAT IT READS IS OF BULK AT MOST 1048576: true; the input reads as it did. -/
def fnCasNewUptoRow : OpenClaim := { program := "ytkkjljpokannkaa", sum := "f37360faa0a0c6fda5d9675e30f889c0736c610227d54241265b053991ddb23a", func := "loop.example/guildway/laws.FnCasNew", spec := "fnCasNew", unfollowed := true, recurses := true, apart := false, narrowed := true }
def FnCasNewUptoSaid : Prop := fnCasNewUptoRow.holds Try.pinned (OpenSpec.upto fnCasNewSpec)

/-- 'laws.FnPplMay', WHERE WHAT IT READS IS OF BULK AT MOST 1048576: true; the input reads as it did. -/
def fnPplMayUptoRow : OpenClaim := { program := "ytkkjljpokannkaa", sum := "f37360faa0a0c6fda5d9675e30f889c0736c610227d54241265b053991ddb23a", func := "loop.example/guildway/laws.FnPplMay", spec := "fnPplMay", unfollowed := true, recurses := true, apart := false, narrowed := true }
def FnPplMayUptoSaid : Prop := fnPplMayUptoRow.holds Try.pinned (OpenSpec.upto fnPplMaySpec)

/-- 'laws.FnFirSum', WHERE WHAT IT READS IS OF BULK AT MOST 1048576: true; the input reads as it did. -/
def fnFirSumUptoRow : OpenClaim := { program := "ytkkjljpokannkaa", sum := "f37360faa0a0c6fda5d9675e30f889c0736c610227d54241265b053991ddb23a", func := "loop.example/guildway/laws.FnFirSum", spec := "fnFirSum", unfollowed := true, recurses := true, apart := false, narrowed := true }
def FnFirSumUptoSaid : Prop := fnFirSumUptoRow.holds Try.pinned (OpenSpec.upto fnFirSumSpec)

/-- 'laws.FnCasLeft', WHERE WHAT IT READS IS OF BULK AT MOST 1048576: true; the input reads as it did. -/
def fnCasLeftUptoRow : OpenClaim := { program := "ytkkjljpokannkaa", sum := "f37360faa0a0c6fda5d9675e30f889c0736c610227d54241265b053991ddb23a", func := "loop.example/guildway/laws.FnCasLeft", spec := "fnCasLeft", unfollowed := true, recurses := true, apart := false, narrowed := true }
def FnCasLeftUptoSaid : Prop := fnCasLeftUptoRow.holds Try.pinned (OpenSpec.upto fnCasLeftSpec)

/-- 'laws.FnCasBy', WHERE WHAT IT READS IS OF BULK AT MOST 1048576: true; the input reads as it did. -/
def fnCasByUptoRow : OpenClaim := { program := "ytkkjljpokannkaa", sum := "f37360faa0a0c6fda5d9675e30f889c0736c610227d54241265b053991ddb23a", func := "loop.example/guildway/laws.FnCasBy", spec := "fnCasBy", unfollowed := true, recurses := true, apart := false, narrowed := true }
def FnCasByUptoSaid : Prop := fnCasByUptoRow.holds Try.pinned (OpenSpec.upto fnCasBySpec)

/-- 'laws.FnNetAsks', WHERE WHAT IT READS IS OF BULK AT MOST 1048576: true; the input reads as it did. -/
def fnNetAsksUptoRow : OpenClaim := { program := "ytkkjljpokannkaa", sum := "f37360faa0a0c6fda5d9675e30f889c0736c610227d54241265b053991ddb23a", func := "loop.example/guildway/laws.FnNetAsks", spec := "fnNetAsks", unfollowed := true, recurses := true, apart := false, narrowed := true }
def FnNetAsksUptoSaid : Prop := fnNetAsksUptoRow.holds Try.pinned (OpenSpec.upto fnNetAsksSpec)

/-- 'laws.FnExactCasNew', WHERE WHAT IT READS IS OF BULK AT MOST 1048576: true; the input reads as it did. -/
def fnExactCasNewUptoRow : OpenClaim := { program := "ytkkjljpokannkaa", sum := "f37360faa0a0c6fda5d9675e30f889c0736c610227d54241265b053991ddb23a", func := "loop.example/guildway/laws.FnExactCasNew", spec := "fnExactCasNew", unfollowed := true, recurses := true, apart := false, narrowed := true }
def FnExactCasNewUptoSaid : Prop := fnExactCasNewUptoRow.holds Try.pinned (OpenSpec.upto fnExactCasNewSpec)

/-- 'laws.FnEngNew', WHERE WHAT IT READS IS OF BULK AT MOST 1048576: true; the input reads as it did. -/
def fnEngNewUptoRow : OpenClaim := { program := "ytkkjljpokannkaa", sum := "f37360faa0a0c6fda5d9675e30f889c0736c610227d54241265b053991ddb23a", func := "loop.example/guildway/laws.FnEngNew", spec := "fnEngNew", unfollowed := true, recurses := true, apart := false, narrowed := true }
def FnEngNewUptoSaid : Prop := fnEngNewUptoRow.holds Try.pinned (OpenSpec.upto fnEngNewSpec)

/-- 'laws.FnExactCasStuck', WHERE WHAT IT READS IS OF BULK AT MOST 1048576: true; the input reads as it did. -/
def fnExactCasStuckUptoRow : OpenClaim := { program := "ytkkjljpokannkaa", sum := "f37360faa0a0c6fda5d9675e30f889c0736c610227d54241265b053991ddb23a", func := "loop.example/guildway/laws.FnExactCasStuck", spec := "fnExactCasStuck", unfollowed := true, recurses := true, apart := false, narrowed := true }
def FnExactCasStuckUptoSaid : Prop := fnExactCasStuckUptoRow.holds Try.pinned (OpenSpec.upto fnExactCasStuckSpec)

/-- 'laws.FnExactRdrAdd', WHERE WHAT IT READS IS OF BULK AT MOST 1048576: true; the input reads as it did. -/
def fnExactRdrAddUptoRow : OpenClaim := { program := "ytkkjljpokannkaa", sum := "f37360faa0a0c6fda5d9675e30f889c0736c610227d54241265b053991ddb23a", func := "loop.example/guildway/laws.FnExactRdrAdd", spec := "fnExactRdrAdd", unfollowed := true, recurses := true, apart := false, narrowed := true }
def FnExactRdrAddUptoSaid : Prop := fnExactRdrAddUptoRow.holds Try.pinned (OpenSpec.upto fnExactRdrAddSpec)

end Rows
end Go.Proofs.Ytkkjljpokannkaa
