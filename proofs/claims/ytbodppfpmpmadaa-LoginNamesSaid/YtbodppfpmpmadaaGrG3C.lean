import Derived.Test.YtbodppfpmpmadaaGrGC
import Derived.Deep.RegionHeld3
/- The program's function that reads a greeting: fa. (Printed by gen_grG.py.) -/
namespace Go.Proofs.Ytbodppfpmpmadaa
open Go.RowKit

end Go.Proofs.Ytbodppfpmpmadaa
