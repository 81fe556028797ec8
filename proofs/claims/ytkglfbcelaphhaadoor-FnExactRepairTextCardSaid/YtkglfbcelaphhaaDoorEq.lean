/- Two structs are alike if their data are. -/
import Derived.Test.YtkglfbcelaphhaaDoorTi
import Derived.Test.YtkglfbcelaphhaaDoorDa
namespace Go.Proofs.YtkglfbcelaphhaaDoor
open Go Go.Gv Go.RowKit

end Go.Proofs.YtkglfbcelaphhaaDoor
