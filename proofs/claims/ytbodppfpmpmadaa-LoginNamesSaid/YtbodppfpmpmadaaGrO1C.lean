import Derived.Test.YtbodppfpmpmadaaGrIC
/- The program's function that writes a change of user, onto nothing: 1. (Printed by gen_grO.py.) -/
namespace Go.Proofs.Ytbodppfpmpmadaa
open Go.RowKit

end Go.Proofs.Ytbodppfpmpmadaa
