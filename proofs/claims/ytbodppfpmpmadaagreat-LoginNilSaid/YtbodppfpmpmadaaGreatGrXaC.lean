import Derived.Test.YtbodppfpmpmadaaGreatGrG1C
import Derived.Test.YtbodppfpmpmadaaGreatGrG2C
import Derived.Test.YtbodppfpmpmadaaGreatGrG3C
import Derived.Test.YtbodppfpmpmadaaGreatGrG4C
import Derived.Test.YtbodppfpmpmadaaGreatGrN1C
import Derived.Test.YtbodppfpmpmadaaGreatGrN2C
import Derived.Test.YtbodppfpmpmadaaGreatGrO1C
import Derived.Test.YtbodppfpmpmadaaGreatGrO2C
import Derived.Test.YtbodppfpmpmadaaGreatGrO3C
import Derived.Test.YtbodppfpmpmadaaGreatGrO4C
/- The functions on greetings and changes of user, put together. -/
namespace Go.Proofs.YtbodppfpmpmadaaGreat
open Go.RowKit

theorem readGreeting_g (w : World) (v : Value) (l : List UInt8) (hr : Rd w v l) : Calls Tryz.prog 121 #[v] w (RetGre w (overP greetM gre0 l)) := by
  by_cases he : (overP greetM gre0 l).2 = 0
  · cases hk : hasC (greetM (l, 0)).1.caps 524288 with
    | true => exact readGreeting_ta w v l hr hk he
    | false => exact readGreeting_fa w v l hr hk he
  · cases hk : hasC (greetM (l, 0)).1.caps 524288 with
    | true => exact readGreeting_tz w v l hr hk he
    | false => exact readGreeting_fz w v l hr hk he
theorem readChange_g (w : World) (c : Int) (v : Value) (l : List UInt8) (hr : Rd w v l) (hl : l.length ≤ 900000) :
    Calls Tryz.prog 40 #[v, .int .u32 c] w (RetChg w (overP (changeM c) chgV0 l)) := by
  by_cases he : (overP (changeM c) chgV0 l).2 = 0
  · exact readChange_a w c v l hr hl he
  · exact readChange_z w c v l hr hl he
end Go.Proofs.YtbodppfpmpmadaaGreat
