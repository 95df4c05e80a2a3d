import Derived.Test.YtaiakkifefedoaaGrG1C
import Derived.Test.YtaiakkifefedoaaGrG2C
import Derived.Test.YtaiakkifefedoaaGrG3C
import Derived.Test.YtaiakkifefedoaaGrG4C
import Derived.Test.YtaiakkifefedoaaGrN1C
import Derived.Test.YtaiakkifefedoaaGrN2C
import Derived.Test.YtaiakkifefedoaaGrO1C
import Derived.Test.YtaiakkifefedoaaGrO2C
import Derived.Test.YtaiakkifefedoaaGrO3C
import Derived.Test.YtaiakkifefedoaaGrO4C
/- The functions on greetings and changes of user, put together. -/
namespace Go.Proofs.Ytaiakkifefedoaa
open Go.RowKit

theorem readGreeting_g (w : World) (v : Value) (l : List UInt8) (hr : Rd w v l) : Calls Try.prog 17 #[v] w (RetGre w (overP greetM gre0 l)) := by
  by_cases he : (overP greetM gre0 l).2 = 0
  · cases hk : hasC (greetM (l, 0)).1.caps 524288 with
    | true => exact readGreeting_ta w v l hr hk he
    | false => exact readGreeting_fa w v l hr hk he
  · cases hk : hasC (greetM (l, 0)).1.caps 524288 with
    | true => exact readGreeting_tz w v l hr hk he
    | false => exact readGreeting_fz w v l hr hk he
theorem readChange_g (w : World) (c : Int) (v : Value) (l : List UInt8) (hr : Rd w v l) (hl : l.length ≤ 900000) :
    Calls Try.prog 23 #[v, .int .u32 c] w (RetChg w (overP (changeM c) chgV0 l)) := by
  by_cases he : (overP (changeM c) chgV0 l).2 = 0
  · exact readChange_a w c v l hr hl he
  · exact readChange_z w c v l hr hl he
theorem appendChange_g (w : World) (c : Int) (user resp db pl : List UInt8) (ch : Int) (ps : Pairs) (vr va : Value) (hr : Rd w vr resp) (ha : Attrs w va ps) (h : ChgOk c ⟨user, resp, db, ch, pl, ps⟩)
    (hul : user.length ≤ 10000) (hdl : db.length ≤ 10000) (hpl : pl.length ≤ 10000) (hal : (attrsB ps).length ≤ 900000) :
    Calls Try.prog 22 #[.slice none 0 0, .int .u32 c, .agg #[.string (strL user), vr, .string (strL db), .int .u16 ch, .string (strL pl), va]] w (RetBE w (changeB c ⟨user, resp, db, ch, pl, ps⟩) 0) := by
  cases hq2 : (strL pl).toList.isEmpty <;> cases hq3 : ((ps.length : Int) == 0)
  · exact appendChange_4 w c user resp db pl ch ps vr va hr ha h hul hdl hpl hal hq2 hq3
  · exact appendChange_3 w c user resp db pl ch ps vr va hr ha h hul hdl hpl hal hq2 hq3
  · exact appendChange_2 w c user resp db pl ch ps vr va hr ha h hul hdl hpl hal hq2 hq3
  · exact appendChange_1 w c user resp db pl ch ps vr va hr ha h hul hdl hpl hal hq2 hq3
end Go.Proofs.Ytaiakkifefedoaa
