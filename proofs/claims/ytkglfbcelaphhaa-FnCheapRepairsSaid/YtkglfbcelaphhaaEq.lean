/- Two structs are alike if their data are. -/
import Derived.Test.YtkglfbcelaphhaaTi
import Derived.Test.YtkglfbcelaphhaaDa
namespace Go.Proofs.Ytkglfbcelaphhaa
open Go Go.Gv Go.RowKit

end Go.Proofs.Ytkglfbcelaphhaa
