/-
  No cell of these rows narrows 'for every input' (looked for: loops, veiled, ifaces, maps, wideKeys, modest, calm, conditions, laid).
  DERIVED. THE GIVEN ROWS OF THIS SEAT. 15 by the template 'for every input the law returns true; each argument reads behind the call as it read before'; 0 by the template 'total and deterministic' (their statements: YtnnhhmdeoedmmaaTotals.lean).
  GIVEN WITH THE SEED: the statements are not yours to turn. If you find one false, say at which input.
  Laid BY PROGRAM, IN A SANDBOX (cutbox-rows.mjs): the forced cells as the released guide's own fill.sh prints them over the translation 44235c109cd869b0… (all of the seat's roots in one cut). By AI agents, Wed Nov 11 2026. No macro, syntax, notation, axiom, sorry.
-/
import Derived.Test.YtnnhhmdeoedmmaaChecked
import GoSem.Claim
import GoSem.ClaimJoined
import GoSem.ClaimMapViews
import Derived.JoinedTies
import Derived.KernelRfl
namespace Go.Proofs.Ytnnhhmdeoedmmaa
/- THE CELL 'sum', in the pinned program and in every row, IS THE sha256 OF THE DUMP (.gsa) THAT YtnnhhmdeoedmmaaProg.lean LOADS. Nothing in Lean hashes anything: it is a label: what it is worth is what the hold of that sum in a sandbox is worth. -/
noncomputable def Try.pinned : Pinned := { name := "ytnnhhmdeoedmmaa", sum := "44235c109cd869b0f9551b6d71f4424ac4e0b8afe4f2a2d58143297da5e1b4fe", checked := Try.checked }
namespace Rows
def none {H : Type} : Left H := { results := [], args := [] }

/-- 'laws.FnExactRdrOk': WHATEVER THE INPUT: true; the input reads as it did. -/
def fnExactRdrOkSpec : ChangeSpec := { name := "fnExactRdrOk", fn := fun _ => fun
  | [d] => { results := [.lit (.bool true)], args := [d] }
  | _ => none }
def fnExactRdrOkRow : OpenClaim := { program := "ytnnhhmdeoedmmaa", sum := "44235c109cd869b0f9551b6d71f4424ac4e0b8afe4f2a2d58143297da5e1b4fe", func := "loop.example/guildway/laws.FnExactRdrOk", spec := "fnExactRdrOk", unfollowed := true, recurses := true, apart := false }
def FnExactRdrOkSaid : Prop := fnExactRdrOkRow.holds Try.pinned (OpenSpec.ofChange fnExactRdrOkSpec)

/-- ITS FALSE NEIGHBOUR: 'it returns false'. Refute it at one input. -/
def fnExactRdrOkWrong : ChangeSpec := { name := "fnExactRdrOk", fn := fun _ => fun
  | [d] => { results := [.lit (.bool false)], args := [d] }
  | _ => none }
def FnExactRdrOkWrongFalsely : Prop := fnExactRdrOkRow.holds Try.pinned (OpenSpec.ofChange fnExactRdrOkWrong)

/-- 'laws.FnExactRdrDepth': WHATEVER THE INPUT: true; the input reads as it did. -/
def fnExactRdrDepthSpec : ChangeSpec := { name := "fnExactRdrDepth", fn := fun _ => fun
  | [d] => { results := [.lit (.bool true)], args := [d] }
  | _ => none }
def fnExactRdrDepthRow : OpenClaim := { program := "ytnnhhmdeoedmmaa", sum := "44235c109cd869b0f9551b6d71f4424ac4e0b8afe4f2a2d58143297da5e1b4fe", func := "loop.example/guildway/laws.FnExactRdrDepth", spec := "fnExactRdrDepth", unfollowed := true, recurses := true, apart := false }
def FnExactRdrDepthSaid : Prop := fnExactRdrDepthRow.holds Try.pinned (OpenSpec.ofChange fnExactRdrDepthSpec)

/-- ITS FALSE NEIGHBOUR: 'it returns false'. Refute it at one input. -/
def fnExactRdrDepthWrong : ChangeSpec := { name := "fnExactRdrDepth", fn := fun _ => fun
  | [d] => { results := [.lit (.bool false)], args := [d] }
  | _ => none }
def FnExactRdrDepthWrongFalsely : Prop := fnExactRdrDepthRow.holds Try.pinned (OpenSpec.ofChange fnExactRdrDepthWrong)

/-- 'laws.FnExactRdrHeld': WHATEVER THE INPUT: true; the input reads as it did. -/
def fnExactRdrHeldSpec : ChangeSpec := { name := "fnExactRdrHeld", fn := fun _ => fun
  | [d1, d2] => { results := [.lit (.bool true)], args := [d1, d2] }
  | _ => none }
def fnExactRdrHeldRow : OpenClaim := { program := "ytnnhhmdeoedmmaa", sum := "44235c109cd869b0f9551b6d71f4424ac4e0b8afe4f2a2d58143297da5e1b4fe", func := "loop.example/guildway/laws.FnExactRdrHeld", spec := "fnExactRdrHeld", unfollowed := true, recurses := true, apart := false }
def FnExactRdrHeldSaid : Prop := fnExactRdrHeldRow.holds Try.pinned (OpenSpec.ofChange fnExactRdrHeldSpec)

/-- ITS FALSE NEIGHBOUR: 'it returns false'. Refute it at one input. -/
def fnExactRdrHeldWrong : ChangeSpec := { name := "fnExactRdrHeld", fn := fun _ => fun
  | [d1, d2] => { results := [.lit (.bool false)], args := [d1, d2] }
  | _ => none }
def FnExactRdrHeldWrongFalsely : Prop := fnExactRdrHeldRow.holds Try.pinned (OpenSpec.ofChange fnExactRdrHeldWrong)

/-- 'laws.FnRdrOk': WHATEVER THE INPUT: true; the input reads as it did. -/
def fnRdrOkSpec : ChangeSpec := { name := "fnRdrOk", fn := fun _ => fun
  | [d] => { results := [.lit (.bool true)], args := [d] }
  | _ => none }
def fnRdrOkRow : OpenClaim := { program := "ytnnhhmdeoedmmaa", sum := "44235c109cd869b0f9551b6d71f4424ac4e0b8afe4f2a2d58143297da5e1b4fe", func := "loop.example/guildway/laws.FnRdrOk", spec := "fnRdrOk", unfollowed := true, recurses := true, apart := false }
def FnRdrOkSaid : Prop := fnRdrOkRow.holds Try.pinned (OpenSpec.ofChange fnRdrOkSpec)

/-- ITS FALSE NEIGHBOUR: 'it returns false'. Refute it at one input. -/
def fnRdrOkWrong : ChangeSpec := { name := "fnRdrOk", fn := fun _ => fun
  | [d] => { results := [.lit (.bool false)], args := [d] }
  | _ => none }
def FnRdrOkWrongFalsely : Prop := fnRdrOkRow.holds Try.pinned (OpenSpec.ofChange fnRdrOkWrong)

/-- 'laws.FnExactRdrAsk': WHATEVER THE INPUT: true; the input reads as it did. -/
def fnExactRdrAskSpec : ChangeSpec := { name := "fnExactRdrAsk", fn := fun _ => fun
  | [d1, d2] => { results := [.lit (.bool true)], args := [d1, d2] }
  | _ => none }
def fnExactRdrAskRow : OpenClaim := { program := "ytnnhhmdeoedmmaa", sum := "44235c109cd869b0f9551b6d71f4424ac4e0b8afe4f2a2d58143297da5e1b4fe", func := "loop.example/guildway/laws.FnExactRdrAsk", spec := "fnExactRdrAsk", unfollowed := true, recurses := true, apart := false }
def FnExactRdrAskSaid : Prop := fnExactRdrAskRow.holds Try.pinned (OpenSpec.ofChange fnExactRdrAskSpec)

/-- ITS FALSE NEIGHBOUR: 'it returns false'. Refute it at one input. -/
def fnExactRdrAskWrong : ChangeSpec := { name := "fnExactRdrAsk", fn := fun _ => fun
  | [d1, d2] => { results := [.lit (.bool false)], args := [d1, d2] }
  | _ => none }
def FnExactRdrAskWrongFalsely : Prop := fnExactRdrAskRow.holds Try.pinned (OpenSpec.ofChange fnExactRdrAskWrong)

/-- 'laws.FnExactRdrWay': WHATEVER THE INPUT: true; the input reads as it did. -/
def fnExactRdrWaySpec : ChangeSpec := { name := "fnExactRdrWay", fn := fun _ => fun
  | [d1, d2] => { results := [.lit (.bool true)], args := [d1, d2] }
  | _ => none }
def fnExactRdrWayRow : OpenClaim := { program := "ytnnhhmdeoedmmaa", sum := "44235c109cd869b0f9551b6d71f4424ac4e0b8afe4f2a2d58143297da5e1b4fe", func := "loop.example/guildway/laws.FnExactRdrWay", spec := "fnExactRdrWay", unfollowed := true, recurses := true, apart := false }
def FnExactRdrWaySaid : Prop := fnExactRdrWayRow.holds Try.pinned (OpenSpec.ofChange fnExactRdrWaySpec)

/-- ITS FALSE NEIGHBOUR: 'it returns false'. Refute it at one input. -/
def fnExactRdrWayWrong : ChangeSpec := { name := "fnExactRdrWay", fn := fun _ => fun
  | [d1, d2] => { results := [.lit (.bool false)], args := [d1, d2] }
  | _ => none }
def FnExactRdrWayWrongFalsely : Prop := fnExactRdrWayRow.holds Try.pinned (OpenSpec.ofChange fnExactRdrWayWrong)

/-- 'laws.FnRdrHeld': WHATEVER THE INPUT: true; the input reads as it did. -/
def fnRdrHeldSpec : ChangeSpec := { name := "fnRdrHeld", fn := fun _ => fun
  | [d] => { results := [.lit (.bool true)], args := [d] }
  | _ => none }
def fnRdrHeldRow : OpenClaim := { program := "ytnnhhmdeoedmmaa", sum := "44235c109cd869b0f9551b6d71f4424ac4e0b8afe4f2a2d58143297da5e1b4fe", func := "loop.example/guildway/laws.FnRdrHeld", spec := "fnRdrHeld", unfollowed := true, recurses := true, apart := false }
def FnRdrHeldSaid : Prop := fnRdrHeldRow.holds Try.pinned (OpenSpec.ofChange fnRdrHeldSpec)

/-- ITS FALSE NEIGHBOUR: 'it returns false'. Refute it at one input. -/
def fnRdrHeldWrong : ChangeSpec := { name := "fnRdrHeld", fn := fun _ => fun
  | [d] => { results := [.lit (.bool false)], args := [d] }
  | _ => none }
def FnRdrHeldWrongFalsely : Prop := fnRdrHeldRow.holds Try.pinned (OpenSpec.ofChange fnRdrHeldWrong)

/-- 'laws.FnRdrDepth': WHATEVER THE INPUT: true; the input reads as it did. -/
def fnRdrDepthSpec : ChangeSpec := { name := "fnRdrDepth", fn := fun _ => fun
  | [d] => { results := [.lit (.bool true)], args := [d] }
  | _ => none }
def fnRdrDepthRow : OpenClaim := { program := "ytnnhhmdeoedmmaa", sum := "44235c109cd869b0f9551b6d71f4424ac4e0b8afe4f2a2d58143297da5e1b4fe", func := "loop.example/guildway/laws.FnRdrDepth", spec := "fnRdrDepth", unfollowed := true, recurses := true, apart := false }
def FnRdrDepthSaid : Prop := fnRdrDepthRow.holds Try.pinned (OpenSpec.ofChange fnRdrDepthSpec)

/-- ITS FALSE NEIGHBOUR: 'it returns false'. Refute it at one input. -/
def fnRdrDepthWrong : ChangeSpec := { name := "fnRdrDepth", fn := fun _ => fun
  | [d] => { results := [.lit (.bool false)], args := [d] }
  | _ => none }
def FnRdrDepthWrongFalsely : Prop := fnRdrDepthRow.holds Try.pinned (OpenSpec.ofChange fnRdrDepthWrong)

/-- 'laws.FnRdrWay': WHATEVER THE INPUT: true; the input reads as it did. -/
def fnRdrWaySpec : ChangeSpec := { name := "fnRdrWay", fn := fun _ => fun
  | [d] => { results := [.lit (.bool true)], args := [d] }
  | _ => none }
def fnRdrWayRow : OpenClaim := { program := "ytnnhhmdeoedmmaa", sum := "44235c109cd869b0f9551b6d71f4424ac4e0b8afe4f2a2d58143297da5e1b4fe", func := "loop.example/guildway/laws.FnRdrWay", spec := "fnRdrWay", unfollowed := true, recurses := true, apart := false }
def FnRdrWaySaid : Prop := fnRdrWayRow.holds Try.pinned (OpenSpec.ofChange fnRdrWaySpec)

/-- ITS FALSE NEIGHBOUR: 'it returns false'. Refute it at one input. -/
def fnRdrWayWrong : ChangeSpec := { name := "fnRdrWay", fn := fun _ => fun
  | [d] => { results := [.lit (.bool false)], args := [d] }
  | _ => none }
def FnRdrWayWrongFalsely : Prop := fnRdrWayRow.holds Try.pinned (OpenSpec.ofChange fnRdrWayWrong)

/-- 'laws.FnRdrAsk': WHATEVER THE INPUT: true; the input reads as it did. -/
def fnRdrAskSpec : ChangeSpec := { name := "fnRdrAsk", fn := fun _ => fun
  | [d] => { results := [.lit (.bool true)], args := [d] }
  | _ => none }
def fnRdrAskRow : OpenClaim := { program := "ytnnhhmdeoedmmaa", sum := "44235c109cd869b0f9551b6d71f4424ac4e0b8afe4f2a2d58143297da5e1b4fe", func := "loop.example/guildway/laws.FnRdrAsk", spec := "fnRdrAsk", unfollowed := true, recurses := true, apart := false }
def FnRdrAskSaid : Prop := fnRdrAskRow.holds Try.pinned (OpenSpec.ofChange fnRdrAskSpec)

/-- ITS FALSE NEIGHBOUR: 'it returns false'. Refute it at one input. -/
def fnRdrAskWrong : ChangeSpec := { name := "fnRdrAsk", fn := fun _ => fun
  | [d] => { results := [.lit (.bool false)], args := [d] }
  | _ => none }
def FnRdrAskWrongFalsely : Prop := fnRdrAskRow.holds Try.pinned (OpenSpec.ofChange fnRdrAskWrong)

/-- 'laws.FnRdrStones': WHATEVER THE INPUT: true; the input reads as it did. -/
def fnRdrStonesSpec : ChangeSpec := { name := "fnRdrStones", fn := fun _ => fun
  | [d] => { results := [.lit (.bool true)], args := [d] }
  | _ => none }
def fnRdrStonesRow : OpenClaim := { program := "ytnnhhmdeoedmmaa", sum := "44235c109cd869b0f9551b6d71f4424ac4e0b8afe4f2a2d58143297da5e1b4fe", func := "loop.example/guildway/laws.FnRdrStones", spec := "fnRdrStones", unfollowed := true, recurses := true, apart := false }
def FnRdrStonesSaid : Prop := fnRdrStonesRow.holds Try.pinned (OpenSpec.ofChange fnRdrStonesSpec)

/-- ITS FALSE NEIGHBOUR: 'it returns false'. Refute it at one input. -/
def fnRdrStonesWrong : ChangeSpec := { name := "fnRdrStones", fn := fun _ => fun
  | [d] => { results := [.lit (.bool false)], args := [d] }
  | _ => none }
def FnRdrStonesWrongFalsely : Prop := fnRdrStonesRow.holds Try.pinned (OpenSpec.ofChange fnRdrStonesWrong)

/-- 'laws.FnRdrAdd': WHATEVER THE INPUT: true; the input reads as it did. -/
def fnRdrAddSpec : ChangeSpec := { name := "fnRdrAdd", fn := fun _ => fun
  | [d1, d2] => { results := [.lit (.bool true)], args := [d1, d2] }
  | _ => none }
def fnRdrAddRow : OpenClaim := { program := "ytnnhhmdeoedmmaa", sum := "44235c109cd869b0f9551b6d71f4424ac4e0b8afe4f2a2d58143297da5e1b4fe", func := "loop.example/guildway/laws.FnRdrAdd", spec := "fnRdrAdd", unfollowed := true, recurses := true, apart := false }
def FnRdrAddSaid : Prop := fnRdrAddRow.holds Try.pinned (OpenSpec.ofChange fnRdrAddSpec)

/-- ITS FALSE NEIGHBOUR: 'it returns false'. Refute it at one input. -/
def fnRdrAddWrong : ChangeSpec := { name := "fnRdrAdd", fn := fun _ => fun
  | [d1, d2] => { results := [.lit (.bool false)], args := [d1, d2] }
  | _ => none }
def FnRdrAddWrongFalsely : Prop := fnRdrAddRow.holds Try.pinned (OpenSpec.ofChange fnRdrAddWrong)

/-- 'laws.FnExactRdrAdd': WHATEVER THE INPUT: true; the input reads as it did. -/
def fnExactRdrAddSpec : ChangeSpec := { name := "fnExactRdrAdd", fn := fun _ => fun
  | [d1, d2, d3, d4] => { results := [.lit (.bool true)], args := [d1, d2, d3, d4] }
  | _ => none }
def fnExactRdrAddRow : OpenClaim := { program := "ytnnhhmdeoedmmaa", sum := "44235c109cd869b0f9551b6d71f4424ac4e0b8afe4f2a2d58143297da5e1b4fe", func := "loop.example/guildway/laws.FnExactRdrAdd", spec := "fnExactRdrAdd", unfollowed := true, recurses := true, apart := false }
def FnExactRdrAddSaid : Prop := fnExactRdrAddRow.holds Try.pinned (OpenSpec.ofChange fnExactRdrAddSpec)

/-- ITS FALSE NEIGHBOUR: 'it returns false'. Refute it at one input. -/
def fnExactRdrAddWrong : ChangeSpec := { name := "fnExactRdrAdd", fn := fun _ => fun
  | [d1, d2, d3, d4] => { results := [.lit (.bool false)], args := [d1, d2, d3, d4] }
  | _ => none }
def FnExactRdrAddWrongFalsely : Prop := fnExactRdrAddRow.holds Try.pinned (OpenSpec.ofChange fnExactRdrAddWrong)

/-- 'laws.FnExactEngReqOk': WHATEVER THE INPUT: true; the input reads as it did. -/
def fnExactEngReqOkSpec : ChangeSpec := { name := "fnExactEngReqOk", fn := fun _ => fun
  | [d] => { results := [.lit (.bool true)], args := [d] }
  | _ => none }
def fnExactEngReqOkRow : OpenClaim := { program := "ytnnhhmdeoedmmaa", sum := "44235c109cd869b0f9551b6d71f4424ac4e0b8afe4f2a2d58143297da5e1b4fe", func := "loop.example/guildway/laws.FnExactEngReqOk", spec := "fnExactEngReqOk", unfollowed := true, recurses := true, apart := false }
def FnExactEngReqOkSaid : Prop := fnExactEngReqOkRow.holds Try.pinned (OpenSpec.ofChange fnExactEngReqOkSpec)

/-- ITS FALSE NEIGHBOUR: 'it returns false'. Refute it at one input. -/
def fnExactEngReqOkWrong : ChangeSpec := { name := "fnExactEngReqOk", fn := fun _ => fun
  | [d] => { results := [.lit (.bool false)], args := [d] }
  | _ => none }
def FnExactEngReqOkWrongFalsely : Prop := fnExactEngReqOkRow.holds Try.pinned (OpenSpec.ofChange fnExactEngReqOkWrong)

/-- 'laws.FnPplFree': WHATEVER THE INPUT: true; the input reads as it did. -/
def fnPplFreeSpec : ChangeSpec := { name := "fnPplFree", fn := fun _ => fun
  | [d] => { results := [.lit (.bool true)], args := [d] }
  | _ => none }
def fnPplFreeRow : OpenClaim := { program := "ytnnhhmdeoedmmaa", sum := "44235c109cd869b0f9551b6d71f4424ac4e0b8afe4f2a2d58143297da5e1b4fe", func := "loop.example/guildway/laws.FnPplFree", spec := "fnPplFree", unfollowed := true, recurses := true, apart := false }
def FnPplFreeSaid : Prop := fnPplFreeRow.holds Try.pinned (OpenSpec.ofChange fnPplFreeSpec)

/-- ITS FALSE NEIGHBOUR: 'it returns false'. Refute it at one input. -/
def fnPplFreeWrong : ChangeSpec := { name := "fnPplFree", fn := fun _ => fun
  | [d] => { results := [.lit (.bool false)], args := [d] }
  | _ => none }
def FnPplFreeWrongFalsely : Prop := fnPplFreeRow.holds Try.pinned (OpenSpec.ofChange fnPplFreeWrong)

/- THE SECOND FORM. 'bulk': how many values and letters a reading holds, each counted each time it is reached (what is shared counts as often as it is met; a slice's spare places count too). A statement '..UptoSaid' is the law's where the arguments, and the package variables that the reading takes, are together of bulk at most 1048576: NARROWER than '..Said'. Prove '..Said' where nothing that the law and all that it calls make is longer than what came in: it says more and counts as full. Else prove '..UptoSaid'. A law counts once. -/
mutual
def uptoBulk {H : Type} : DataW H → Nat
  | .lit (.string bytes) => bytes.length + 1
  | .lit _ => 1
  | .nil => 1
  | .ptr d => uptoBulk d + 1
  | .slice elems spare => uptoBulkAll elems + uptoBulkAll spare + 1
  | .agg parts => uptoBulkAll parts + 1
  | .iface _ d => uptoBulk d + 1
  | .map entries => uptoBulkEntries entries + 1
  | .held _ => 1
def uptoBulkAll {H : Type} : List (DataW H) → Nat
  | [] => 0
  | d :: r => uptoBulk d + uptoBulkAll r
def uptoBulkEntries {H : Type} : List (Lit × DataW H) → Nat
  | [] => 0
  | x :: r => uptoBulkEntry x + uptoBulkEntries r
def uptoBulkEntry {H : Type} : Lit × DataW H → Nat
  | (.string bytes, d) => bytes.length + uptoBulk d + 1
  | (_, d) => uptoBulk d + 1
 end
def uptoSmall : (H : Type) → List (DataW H) → Bool := fun _ ds => decide (uptoBulkAll ds ≤ 1048576)
def OpenSpec.upto (s : _root_.Go.ChangeSpec) : _root_.Go.OpenSpec := { _root_.Go.OpenSpec.ofChange s with cond := some uptoSmall }

/-- 'laws.FnExactRdrOk', WHERE WHAT IT READS IS OF BULK AT MOST 1048576: true; the input reads as it did. -/
def fnExactRdrOkUptoRow : OpenClaim := { program := "ytnnhhmdeoedmmaa", sum := "44235c109cd869b0f9551b6d71f4424ac4e0b8afe4f2a2d58143297da5e1b4fe", func := "loop.example/guildway/laws.FnExactRdrOk", spec := "fnExactRdrOk", unfollowed := true, recurses := true, apart := false, narrowed := true }
def FnExactRdrOkUptoSaid : Prop := fnExactRdrOkUptoRow.holds Try.pinned (OpenSpec.upto fnExactRdrOkSpec)

/-- 'laws.FnExactRdrDepth', WHERE WHAT IT READS IS OF BULK AT MOST 1048576: true; the input reads as it did. -/
def fnExactRdrDepthUptoRow : OpenClaim := { program := "ytnnhhmdeoedmmaa", sum := "44235c109cd869b0f9551b6d71f4424ac4e0b8afe4f2a2d58143297da5e1b4fe", func := "loop.example/guildway/laws.FnExactRdrDepth", spec := "fnExactRdrDepth", unfollowed := true, recurses := true, apart := false, narrowed := true }
def FnExactRdrDepthUptoSaid : Prop := fnExactRdrDepthUptoRow.holds Try.pinned (OpenSpec.upto fnExactRdrDepthSpec)

/-- 'laws.FnExactRdrHeld', WHERE WHAT IT READS IS OF BULK AT MOST 1048576: true; the input reads as it did. -/
def fnExactRdrHeldUptoRow : OpenClaim := { program := "ytnnhhmdeoedmmaa", sum := "44235c109cd869b0f9551b6d71f4424ac4e0b8afe4f2a2d58143297da5e1b4fe", func := "loop.example/guildway/laws.FnExactRdrHeld", spec := "fnExactRdrHeld", unfollowed := true, recurses := true, apart := false, narrowed := true }
def FnExactRdrHeldUptoSaid : Prop := fnExactRdrHeldUptoRow.holds Try.pinned (OpenSpec.upto fnExactRdrHeldSpec)

/-- 'laws.FnRdrOk', WHERE WHAT IT READS IS OF BULK AT MOST 1048576: true; the input reads as it did. -/
def fnRdrOkUptoRow : OpenClaim := { program := "ytnnhhmdeoedmmaa", sum := "44235c109cd869b0f9551b6d71f4424ac4e0b8afe4f2a2d58143297da5e1b4fe", func := "loop.example/guildway/laws.FnRdrOk", spec := "fnRdrOk", unfollowed := true, recurses := true, apart := false, narrowed := true }
def FnRdrOkUptoSaid : Prop := fnRdrOkUptoRow.holds Try.pinned (OpenSpec.upto fnRdrOkSpec)

/-- 'laws.FnExactRdrAsk', WHERE WHAT IT READS IS OF BULK AT MOST 1048576: true; the input reads as it did. -/
def fnExactRdrAskUptoRow : OpenClaim := { program := "ytnnhhmdeoedmmaa", sum := "44235c109cd869b0f9551b6d71f4424ac4e0b8afe4f2a2d58143297da5e1b4fe", func := "loop.example/guildway/laws.FnExactRdrAsk", spec := "fnExactRdrAsk", unfollowed := true, recurses := true, apart := false, narrowed := true }
def FnExactRdrAskUptoSaid : Prop := fnExactRdrAskUptoRow.holds Try.pinned (OpenSpec.upto fnExactRdrAskSpec)

/-- 'laws.FnExactRdrWay', WHERE WHAT IT READS IS OF BULK AT MOST 1048576: true; the input reads as it did. -/
def fnExactRdrWayUptoRow : OpenClaim := { program := "ytnnhhmdeoedmmaa", sum := "44235c109cd869b0f9551b6d71f4424ac4e0b8afe4f2a2d58143297da5e1b4fe", func := "loop.example/guildway/laws.FnExactRdrWay", spec := "fnExactRdrWay", unfollowed := true, recurses := true, apart := false, narrowed := true }
def FnExactRdrWayUptoSaid : Prop := fnExactRdrWayUptoRow.holds Try.pinned (OpenSpec.upto fnExactRdrWaySpec)

/-- 'laws.FnRdrHeld', WHERE WHAT IT READS IS OF BULK AT MOST 1048576: true; the input reads as it did. -/
def fnRdrHeldUptoRow : OpenClaim := { program := "ytnnhhmdeoedmmaa", sum := "44235c109cd869b0f9551b6d71f4424ac4e0b8afe4f2a2d58143297da5e1b4fe", func := "loop.example/guildway/laws.FnRdrHeld", spec := "fnRdrHeld", unfollowed := true, recurses := true, apart := false, narrowed := true }
def FnRdrHeldUptoSaid : Prop := fnRdrHeldUptoRow.holds Try.pinned (OpenSpec.upto fnRdrHeldSpec)

/-- 'laws.FnRdrDepth', WHERE WHAT IT READS IS OF BULK AT MOST 1048576: true; the input reads as it did. -/
def fnRdrDepthUptoRow : OpenClaim := { program := "ytnnhhmdeoedmmaa", sum := "44235c109cd869b0f9551b6d71f4424ac4e0b8afe4f2a2d58143297da5e1b4fe", func := "loop.example/guildway/laws.FnRdrDepth", spec := "fnRdrDepth", unfollowed := true, recurses := true, apart := false, narrowed := true }
def FnRdrDepthUptoSaid : Prop := fnRdrDepthUptoRow.holds Try.pinned (OpenSpec.upto fnRdrDepthSpec)

/-- 'laws.FnRdrWay', WHERE WHAT IT READS IS OF BULK AT MOST 1048576: true; the input reads as it did. -/
def fnRdrWayUptoRow : OpenClaim := { program := "ytnnhhmdeoedmmaa", sum := "44235c109cd869b0f9551b6d71f4424ac4e0b8afe4f2a2d58143297da5e1b4fe", func := "loop.example/guildway/laws.FnRdrWay", spec := "fnRdrWay", unfollowed := true, recurses := true, apart := false, narrowed := true }
def FnRdrWayUptoSaid : Prop := fnRdrWayUptoRow.holds Try.pinned (OpenSpec.upto fnRdrWaySpec)

/-- 'laws.FnRdrAsk', WHERE WHAT IT READS IS OF BULK AT MOST 1048576: true; the input reads as it did. -/
def fnRdrAskUptoRow : OpenClaim := { program := "ytnnhhmdeoedmmaa", sum := "44235c109cd869b0f9551b6d71f4424ac4e0b8afe4f2a2d58143297da5e1b4fe", func := "loop.example/guildway/laws.FnRdrAsk", spec := "fnRdrAsk", unfollowed := true, recurses := true, apart := false, narrowed := true }
def FnRdrAskUptoSaid : Prop := fnRdrAskUptoRow.holds Try.pinned (OpenSpec.upto fnRdrAskSpec)

/-- 'laws.FnRdrStones', WHERE WHAT IT READS IS OF BULK AT MOST 1048576: true; the input reads as it did. -/
def fnRdrStonesUptoRow : OpenClaim := { program := "ytnnhhmdeoedmmaa", sum := "44235c109cd869b0f9551b6d71f4424ac4e0b8afe4f2a2d58143297da5e1b4fe", func := "loop.example/guildway/laws.FnRdrStones", spec := "fnRdrStones", unfollowed := true, recurses := true, apart := false, narrowed := true }
def FnRdrStonesUptoSaid : Prop := fnRdrStonesUptoRow.holds Try.pinned (OpenSpec.upto fnRdrStonesSpec)

/-- 'laws.FnRdrAdd', WHERE WHAT IT READS IS OF BULK AT MOST 1048576: true; the input reads as it did. -/
def fnRdrAddUptoRow : OpenClaim := { program := "ytnnhhmdeoedmmaa", sum := "44235c109cd869b0f9551b6d71f4424ac4e0b8afe4f2a2d58143297da5e1b4fe", func := "loop.example/guildway/laws.FnRdrAdd", spec := "fnRdrAdd", unfollowed := true, recurses := true, apart := false, narrowed := true }
def FnRdrAddUptoSaid : Prop := fnRdrAddUptoRow.holds Try.pinned (OpenSpec.upto fnRdrAddSpec)

/-- 'laws.FnExactRdrAdd', WHERE WHAT IT READS IS OF BULK AT MOST 1048576: true; the input reads as it did. -/
def fnExactRdrAddUptoRow : OpenClaim := { program := "ytnnhhmdeoedmmaa", sum := "44235c109cd869b0f9551b6d71f4424ac4e0b8afe4f2a2d58143297da5e1b4fe", func := "loop.example/guildway/laws.FnExactRdrAdd", spec := "fnExactRdrAdd", unfollowed := true, recurses := true, apart := false, narrowed := true }
def FnExactRdrAddUptoSaid : Prop := fnExactRdrAddUptoRow.holds Try.pinned (OpenSpec.upto fnExactRdrAddSpec)

/-- 'laws.FnExactEngReqOk', WHERE WHAT IT READS IS OF BULK AT MOST 1048576: true; the input reads as it did. -/
def fnExactEngReqOkUptoRow : OpenClaim := { program := "ytnnhhmdeoedmmaa", sum := "44235c109cd869b0f9551b6d71f4424ac4e0b8afe4f2a2d58143297da5e1b4fe", func := "loop.example/guildway/laws.FnExactEngReqOk", spec := "fnExactEngReqOk", unfollowed := true, recurses := true, apart := false, narrowed := true }
def FnExactEngReqOkUptoSaid : Prop := fnExactEngReqOkUptoRow.holds Try.pinned (OpenSpec.upto fnExactEngReqOkSpec)

/-- 'laws.FnPplFree', WHERE WHAT IT READS IS OF BULK AT MOST 1048576: true; the input reads as it did. -/
def fnPplFreeUptoRow : OpenClaim := { program := "ytnnhhmdeoedmmaa", sum := "44235c109cd869b0f9551b6d71f4424ac4e0b8afe4f2a2d58143297da5e1b4fe", func := "loop.example/guildway/laws.FnPplFree", spec := "fnPplFree", unfollowed := true, recurses := true, apart := false, narrowed := true }
def FnPplFreeUptoSaid : Prop := fnPplFreeUptoRow.holds Try.pinned (OpenSpec.upto fnPplFreeSpec)

end Rows
end Go.Proofs.Ytnnhhmdeoedmmaa
