/- Whether active tasks fit a net: busyOk of the program. -/
import Derived.Test.YtjieilicjdoaaaaBusyOk
import Derived.Deep.RegionHeld3
namespace Go.Proofs.Ytjieilicjdoaaaa
open Go.RowKit
set_option linter.unusedSimpArgs false

end Go.Proofs.Ytjieilicjdoaaaa
