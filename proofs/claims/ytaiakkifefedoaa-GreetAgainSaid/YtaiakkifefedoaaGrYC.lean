import Derived.Test.YtaiakkifefedoaaGrY1C
import Derived.Test.YtaiakkifefedoaaGrY2C
import Derived.Test.YtaiakkifefedoaaGrY3C
import Derived.Test.YtaiakkifefedoaaGrY4C
/- GreetAgain: the walk. -/
namespace Go.Proofs.Ytaiakkifefedoaa
open Go.RowKit

set_option maxHeartbeats 1000000 in
theorem greetAgain_long (w : World) (c : Int) (vb : Value) (L : List UInt8) (hr : Rd w vb L) (hl : ¬ L.length ≤ 2000) :
    Calls Try.prog 5 #[vb, .int .u32 c] w (RetTrue w) := by
  obtain ⟨Ab, cb, hvb, _⟩ := hr
  subst hvb
  have hli : 2000 < (L.length : Int) := by omega
  clear hl
  go_enter Try.func5, Try.ntmps5
  go_wp2_with (first
    | (go_at_call 14; refine (lives12_c _).mono ?_; rintro e wl ⟨rfl, hE⟩)
    | fail)
  go_ret
  exact ⟨rfl, hE⟩
theorem greetAgain_c (w : World) (c : Int) (vb : Value) (L : List UInt8) (hr : Rd w vb L) :
    Calls Try.prog 5 #[vb, .int .u32 c] w (RetTrue w) := by
  by_cases hl : L.length ≤ 2000
  · by_cases hg : (overP greetM gre0 L).2 = 0 <;> by_cases ha : (overP answerM ans0 L).2 = 0
    · exact greetAgain_1 w c vb L hr hl hg ha
    · exact greetAgain_2 w c vb L hr hl hg ha
    · exact greetAgain_3 w c vb L hr hl hg ha
    · exact greetAgain_4 w c vb L hr hl hg ha
  · exact greetAgain_long w c vb L hr hl
end Go.Proofs.Ytaiakkifefedoaa
