/- Two structs are alike if their data are. -/
import Derived.Test.YtkjjjbfpecmieaaTi
import Derived.Test.YtkjjjbfpecmieaaDa
namespace Go.Proofs.Ytkjjjbfpecmieaa
open Go Go.Gv Go.RowKit

end Go.Proofs.Ytkjjjbfpecmieaa
