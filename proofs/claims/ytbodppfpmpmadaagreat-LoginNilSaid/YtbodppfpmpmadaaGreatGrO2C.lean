import Derived.Test.YtbodppfpmpmadaaGreatGrIC
/- The program's function that writes a change of user, onto nothing: 2. (Printed by gen_grO.py.) -/
namespace Go.Proofs.YtbodppfpmpmadaaGreat
open Go.RowKit

end Go.Proofs.YtbodppfpmpmadaaGreat
