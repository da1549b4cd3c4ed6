/- The program's NetOk computes the plain function. -/
import Derived.Test.YtjieilicjdoaaaaGNet
namespace Go.Proofs.Ytjieilicjdoaaaa
open Go.RowKit

end Go.Proofs.Ytjieilicjdoaaaa
