/-
  No cell of these rows narrows 'for every input' (looked for: loops, veiled, ifaces, maps, wideKeys, modest, calm, conditions, laid).
  DERIVED. THE GIVEN ROWS OF THIS SEAT. 3 by the template 'for every input the law returns true; each argument reads behind the call as it read before'; 0 by the template 'total and deterministic' (their statements: YtjieilicjdoaaaaTotals.lean).
  GIVEN WITH THE SEED: the statements are not yours to turn. If you find one false, say at which input.
  Laid BY PROGRAM, IN A SANDBOX (cutbox-rows.mjs): the forced cells as the released guide's own fill.sh prints them over the translation 60c5e383d9e8ac27… (all of the seat's roots in one cut). By AI agents, Wed Nov 11 2026. No macro, syntax, notation, axiom, sorry.
-/
import Derived.Test.YtjieilicjdoaaaaChecked
import GoSem.Claim
import GoSem.ClaimJoined
import GoSem.ClaimMapViews
import Derived.JoinedTies
import Derived.KernelRfl
namespace Go.Proofs.Ytjieilicjdoaaaa
/- THE CELL 'sum', in the pinned program and in every row, IS THE sha256 OF THE DUMP (.gsa) THAT YtjieilicjdoaaaaProg.lean LOADS. Nothing in Lean hashes anything: it is a label: what it is worth is what the hold of that sum in a sandbox is worth. -/
noncomputable def Try.pinned : Pinned := { name := "ytjieilicjdoaaaa", sum := "60c5e383d9e8ac272c4353bee99a9e208ed576ca8c381b3d7ce35665a14ef27c", checked := Try.checked }
namespace Rows
def none {H : Type} : Left H := { results := [], args := [] }

/-- 'laws.FnExactRdrAdd': WHATEVER THE INPUT: true; the input reads as it did. -/
def fnExactRdrAddSpec : ChangeSpec := { name := "fnExactRdrAdd", fn := fun _ => fun
  | [d1, d2, d3, d4] => { results := [.lit (.bool true)], args := [d1, d2, d3, d4] }
  | _ => none }
def fnExactRdrAddRow : OpenClaim := { program := "ytjieilicjdoaaaa", sum := "60c5e383d9e8ac272c4353bee99a9e208ed576ca8c381b3d7ce35665a14ef27c", func := "loop.example/guildway/laws.FnExactRdrAdd", spec := "fnExactRdrAdd", unfollowed := true, recurses := true, apart := false }
def FnExactRdrAddSaid : Prop := fnExactRdrAddRow.holds Try.pinned (OpenSpec.ofChange fnExactRdrAddSpec)

/-- ITS FALSE NEIGHBOUR: 'it returns false'. Refute it at one input. -/
def fnExactRdrAddWrong : ChangeSpec := { name := "fnExactRdrAdd", fn := fun _ => fun
  | [d1, d2, d3, d4] => { results := [.lit (.bool false)], args := [d1, d2, d3, d4] }
  | _ => none }
def FnExactRdrAddWrongFalsely : Prop := fnExactRdrAddRow.holds Try.pinned (OpenSpec.ofChange fnExactRdrAddWrong)

/-- 'laws.FnCasLeft': WHATEVER THE INPUT: true; the input reads as it did. -/
def fnCasLeftSpec : ChangeSpec := { name := "fnCasLeft", fn := fun _ => fun
  | [d] => { results := [.lit (.bool true)], args := [d] }
  | _ => none }
def fnCasLeftRow : OpenClaim := { program := "ytjieilicjdoaaaa", sum := "60c5e383d9e8ac272c4353bee99a9e208ed576ca8c381b3d7ce35665a14ef27c", func := "loop.example/guildway/laws.FnCasLeft", spec := "fnCasLeft", unfollowed := true, recurses := true, apart := false }
def FnCasLeftSaid : Prop := fnCasLeftRow.holds Try.pinned (OpenSpec.ofChange fnCasLeftSpec)

/-- ITS FALSE NEIGHBOUR: 'it returns false'. Refute it at one input. -/
def fnCasLeftWrong : ChangeSpec := { name := "fnCasLeft", fn := fun _ => fun
  | [d] => { results := [.lit (.bool false)], args := [d] }
  | _ => none }
def FnCasLeftWrongFalsely : Prop := fnCasLeftRow.holds Try.pinned (OpenSpec.ofChange fnCasLeftWrong)

/-- 'laws.FnCasBy': WHATEVER THE INPUT: true; the input reads as it did. -/
def fnCasBySpec : ChangeSpec := { name := "fnCasBy", fn := fun _ => fun
  | [d] => { results := [.lit (.bool true)], args := [d] }
  | _ => none }
def fnCasByRow : OpenClaim := { program := "ytjieilicjdoaaaa", sum := "60c5e383d9e8ac272c4353bee99a9e208ed576ca8c381b3d7ce35665a14ef27c", func := "loop.example/guildway/laws.FnCasBy", spec := "fnCasBy", unfollowed := true, recurses := true, apart := false }
def FnCasBySaid : Prop := fnCasByRow.holds Try.pinned (OpenSpec.ofChange fnCasBySpec)

/-- ITS FALSE NEIGHBOUR: 'it returns false'. Refute it at one input. -/
def fnCasByWrong : ChangeSpec := { name := "fnCasBy", fn := fun _ => fun
  | [d] => { results := [.lit (.bool false)], args := [d] }
  | _ => none }
def FnCasByWrongFalsely : Prop := fnCasByRow.holds Try.pinned (OpenSpec.ofChange fnCasByWrong)

/- THE SECOND FORM. 'bulk': how many values and letters a reading holds, each counted each time it is reached (what is shared counts as often as it is met; a slice's spare places count too). A statement '..UptoSaid' is the law's where the arguments, and the package variables that the reading takes, are together of bulk at most 1048576: NARROWER than '..Said'. Prove '..Said' where nothing that the law and all that it calls make is longer than what came in: it says more and counts as full. Else prove '..UptoSaid'. A law counts once. -/
mutual
def uptoBulk {H : Type} : DataW H → Nat
  | .lit (.string bytes) => bytes.length + 1
  | .lit _ => 1
  | .nil => 1
  | .ptr d => uptoBulk d + 1
  | .slice elems spare => uptoBulkAll elems + uptoBulkAll spare + 1
  | .agg parts => uptoBulkAll parts + 1
  | .iface _ d => uptoBulk d + 1
  | .map entries => uptoBulkEntries entries + 1
  | .held _ => 1
def uptoBulkAll {H : Type} : List (DataW H) → Nat
  | [] => 0
  | d :: r => uptoBulk d + uptoBulkAll r
def uptoBulkEntries {H : Type} : List (Lit × DataW H) → Nat
  | [] => 0
  | x :: r => uptoBulkEntry x + uptoBulkEntries r
def uptoBulkEntry {H : Type} : Lit × DataW H → Nat
  | (.string bytes, d) => bytes.length + uptoBulk d + 1
  | (_, d) => uptoBulk d + 1
 end
def uptoSmall : (H : Type) → List (DataW H) → Bool := fun _ ds => decide (uptoBulkAll ds ≤ 1048576)
def OpenSpec.upto (s : _root_.Go.ChangeSpec) : _root_.Go.OpenSpec := { _root_.Go.OpenSpec.ofChange s with cond := some uptoSmall }

/-- 'laws.FnExactRdrAdd', WHERE WHAT IT READS IS OF BULK AT MOST 1048576: true; the input reads as it did. -/
def fnExactRdrAddUptoRow : OpenClaim := { program := "ytjieilicjdoaaaa", sum := "60c5e383d9e8ac272c4353bee99a9e208ed576ca8c381b3d7ce35665a14ef27c", func := "loop.example/guildway/laws.FnExactRdrAdd", spec := "fnExactRdrAdd", unfollowed := true, recurses := true, apart := false, narrowed := true }
def FnExactRdrAddUptoSaid : Prop := fnExactRdrAddUptoRow.holds Try.pinned (OpenSpec.upto fnExactRdrAddSpec)

/-- 'laws.FnCasLeft', WHERE WHAT IT READS IS OF BULK AT MOST 1048576: true; the input reads as it did. -/
def fnCasLeftUptoRow : OpenClaim := { program := "ytjieilicjdoaaaa", sum := "60c5e383d9e8ac272c4353bee99a9e208ed576ca8c381b3d7ce35665a14ef27c", func := "loop.example/guildway/laws.FnCasLeft", spec := "fnCasLeft", unfollowed := true, recurses := true, apart := false, narrowed := true }
def FnCasLeftUptoSaid : Prop := fnCasLeftUptoRow.holds Try.pinned (OpenSpec.upto fnCasLeftSpec)

/-- 'laws.FnCasBy', WHERE WHAT IT READS IS OF BULK AT MOST 1048576: true; the input reads as it did. -/
def fnCasByUptoRow : OpenClaim := { program := "ytjieilicjdoaaaa", sum := "60c5e383d9e8ac272c4353bee99a9e208ed576ca8c381b3d7ce35665a14ef27c", func := "loop.example/guildway/laws.FnCasBy", spec := "fnCasBy", unfollowed := true, recurses := true, apart := false, narrowed := true }
def FnCasByUptoSaid : Prop := fnCasByUptoRow.holds Try.pinned (OpenSpec.upto fnCasBySpec)

end Rows
end Go.Proofs.Ytjieilicjdoaaaa
