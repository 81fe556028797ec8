/- Two structs are alike if their data are. -/
import Derived.Test.YtoljnpoiclklpaaTi
import Derived.Test.YtoljnpoiclklpaaDa
namespace Go.Proofs.Ytoljnpoiclklpaa
open Go Go.Gv Go.RowKit

end Go.Proofs.Ytoljnpoiclklpaa
