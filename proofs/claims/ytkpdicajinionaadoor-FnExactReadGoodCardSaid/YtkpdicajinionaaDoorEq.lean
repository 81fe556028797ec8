/- Two structs are alike if their data are. -/
import Derived.Test.YtkpdicajinionaaDoorTi
import Derived.Test.YtkpdicajinionaaDoorDa
namespace Go.Proofs.YtkpdicajinionaaDoor
open Go Go.Gv Go.RowKit

end Go.Proofs.YtkpdicajinionaaDoor
