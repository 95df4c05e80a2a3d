import Derived.Test.YtbodppfpmpmadaaGrG1C
import Derived.Test.YtbodppfpmpmadaaGrG2C
import Derived.Test.YtbodppfpmpmadaaGrG3C
import Derived.Test.YtbodppfpmpmadaaGrG4C
import Derived.Test.YtbodppfpmpmadaaGrN1C
import Derived.Test.YtbodppfpmpmadaaGrN2C
import Derived.Test.YtbodppfpmpmadaaGrO1C
import Derived.Test.YtbodppfpmpmadaaGrO2C
import Derived.Test.YtbodppfpmpmadaaGrO3C
import Derived.Test.YtbodppfpmpmadaaGrO4C
/- The functions on greetings and changes of user, put together. -/
namespace Go.Proofs.Ytbodppfpmpmadaa
open Go.RowKit

end Go.Proofs.Ytbodppfpmpmadaa
