/- Two structs are alike if their data are. -/
import Derived.Test.YtkjjjbfpecmieaaDoorTi
import Derived.Test.YtkjjjbfpecmieaaDoorDa
namespace Go.Proofs.YtkjjjbfpecmieaaDoor
open Go Go.Gv Go.RowKit

end Go.Proofs.YtkjjjbfpecmieaaDoor
