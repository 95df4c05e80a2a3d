import Derived.Test.YtbodppfpmpmadaaGreatGrK1C
import Derived.Test.YtbodppfpmpmadaaGreatGrK2C
import Derived.Test.YtbodppfpmpmadaaGreatGrK3C
import Derived.Test.YtbodppfpmpmadaaGreatGrK4C
/- ReadAnswer's law, put together; answers that fail. -/
namespace Go.Proofs.YtbodppfpmpmadaaGreat
open Go.RowKit

theorem readAnswer_f (w : World) (v : Value) (l : List UInt8) (hr : Rd w v l) (hl : l.length ≤ 900000) : Calls Tryz.prog 99 #[v] w (RetAnsF w (overP answerM ans0 l)) := by
  by_cases he : (overP answerM ans0 l).2 = 0
  · cases hk : hasC ((rX 4 (l, 0)).1 % 4294967296) 2097152 with
    | true => exact readAnswer_la w v l hr hl hk he
    | false => exact readAnswer_ra w v l hr hl hk he
  · cases hk : hasC ((rX 4 (l, 0)).1 % 4294967296) 2097152 with
    | true => exact readAnswer_lz w v l hr hl hk he
    | false => exact readAnswer_rz w v l hr hl hk he
theorem readAnswer_g (w : World) (v : Value) (l : List UInt8) (hr : Rd w v l) (hl : l.length ≤ 900000) : Calls Tryz.prog 99 #[v] w (RetAns w (overP answerM ans0 l)) := by
  refine (readAnswer_f w v l hr hl).mono ?_
  rintro e w' ⟨vr, va, h1, h2, h3, h4, _⟩
  exact ⟨vr, va, h1, h2, h3, h4⟩
theorem readAnswer_n (w : World) (v : Value) (l : List UInt8) (er : Int) (hr : Rd w v l) (hl : l.length ≤ 900000) (h : (overP answerM ans0 l).2 = er) :
    Calls Tryz.prog 99 #[v] w fun e w' => ∃ x, e = .returned (.tuple #[x, .int .i64 er]) ∧ Ext w w' := by
  refine (readAnswer_g w v l hr hl).mono ?_
  rintro e w' ⟨vr, va, rfl, _, _, hx⟩
  rw [h]
  exact ⟨_, rfl, hx⟩
theorem readSwitch_n (w : World) (v : Value) (l : List UInt8) (er : Int) (hr : Rd w v l) (h : overP switchM ([], []) l = (([], []), er)) :
    Calls Tryz.prog 169 #[v] w fun e w' => ∃ A c, e = .returned (.tuple #[.agg #[.string ⟨#[]⟩, .slice A 0 c], .int .i64 er]) ∧ Ext w w' := by
  refine (readSwitch_g w v l hr).mono ?_
  rw [h]
  rintro e w' ⟨vn, rfl, hr2, hx⟩
  obtain ⟨A, c, rfl, _⟩ := hr2
  exact ⟨A, c, rfl, hx⟩
end Go.Proofs.YtbodppfpmpmadaaGreat
