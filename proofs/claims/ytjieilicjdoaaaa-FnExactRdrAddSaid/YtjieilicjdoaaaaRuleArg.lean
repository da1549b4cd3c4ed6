/- Rules copied: what the copy reads as. -/
import Derived.Test.YtjieilicjdoaaaaSzRule
namespace Go.Proofs.Ytjieilicjdoaaaa
open Go.RowKit
theorem toRules (A : Option Addr) (c : Nat) (xs : List GRule) (m : Option Nat) (w : World) (hx : Rows ruleC m w w.heap.size A xs) (hl : xs.length ≤ 1048576) (hs : ∀ x ∈ xs, x.stone.length ≤ 1048576) :
    Calls Try.prog 8 #[.slice A xs.length c] w (Made ruleC xs w) :=
  (laws_toRdrNodeS A c xs m w hx hl hs).mono fun _ _ ⟨g, hg, he, hf, hb⟩ => ⟨g, hg, he, (hf.done (by omega)).weak (Weaker.some hg), hb⟩
end Go.Proofs.Ytjieilicjdoaaaa
