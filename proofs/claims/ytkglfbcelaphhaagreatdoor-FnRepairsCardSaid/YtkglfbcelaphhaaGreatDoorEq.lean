/- Two structs are alike if their data are. -/
import Derived.Test.YtkglfbcelaphhaaGreatDoorTi
import Derived.Test.YtkglfbcelaphhaaGreatDoorDa
namespace Go.Proofs.YtkglfbcelaphhaaGreatDoor
open Go Go.Gv Go.RowKit

end Go.Proofs.YtkglfbcelaphhaaGreatDoor
