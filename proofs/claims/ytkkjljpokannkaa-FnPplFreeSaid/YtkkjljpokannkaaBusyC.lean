/- What l20Busy leaves. -/
import Derived.Test.YtkkjljpokannkaaDrawBusy
namespace Go.Proofs.Ytkkjljpokannkaa
open Go.RowKit

/-- The contract of l20Busy, as a sentence. -/
def BusyLaw : Prop := ∀ (RB P : Nat) (x : GNet) (g c : Nat) (n : Int) (w : World), RdB w RB P → P ≤ 800000 → NetG w (RB + 1) g x.tasks → 1 ≤ x.tasks.length → x.tasks.length ≤ 6 → (∀ t ∈ x.tasks, t.need ≤ 100) → n ≤ 1000 →
    Calls Try.prog 97 #[.pointer (some ⟨RB, 0, none⟩), .agg #[.int .i64 x.places, .slice (some ⟨g, 0, none⟩) x.tasks.length c], .int .i64 n] w (DrawnB RB (P + 40) w)
theorem busyLaw : BusyLaw := fun RB P x g c n w h1 h2 h3 h4 h5 h6 h7 => l20Busy RB P x g c n w h1 h2 h3 h4 h5 h6 h7
end Go.Proofs.Ytkkjljpokannkaa
