/- What l20Busy leaves. -/
import Derived.Test.YtjieilicjdoaaaaDrawBusy
namespace Go.Proofs.Ytjieilicjdoaaaa
open Go.RowKit

end Go.Proofs.Ytjieilicjdoaaaa
