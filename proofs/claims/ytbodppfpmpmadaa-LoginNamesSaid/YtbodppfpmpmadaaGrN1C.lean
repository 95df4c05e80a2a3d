import Derived.Test.YtbodppfpmpmadaaL11C
/- The program's function that reads a change of user: it ends well. (Printed by gen_grN.py.) -/
namespace Go.Proofs.Ytbodppfpmpmadaa
open Go.RowKit

end Go.Proofs.Ytbodppfpmpmadaa
