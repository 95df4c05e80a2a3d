/- The reference's function that reads an OK. (Printed by gen_rdJ.py.) -/
import Derived.Test.YtnlfcknpmemhfaaRdK
import Derived.Test.YtnlfcknpmemhfaaRdL
namespace Go.Proofs.Ytnlfcknpmemhfaa
open Go.RowKit

theorem readOk_ref (w : World) (v : Value) (l : List UInt8) (c : Int) (hr : Rd w v l) (hll : l.length ≤ 8000000) :
    Calls Try.prog 53 #[v, .int .u32 c] w (RetOk w (okS l c)) := by
  obtain ⟨ba, sa, hba⟩ := rB_one (l, 0)
  cases h : (ba == 0) with
  | true => exact readOk_ref0 w v l c hr (fun b s hb => by rw [hba] at hb; simp only [Prod.mk.injEq, List.cons.injEq] at hb; rw [← hb.1.1]; exact h) hll
  | false => exact readOk_ref1 w v l c hr (fun b s hb => by rw [hba] at hb; simp only [Prod.mk.injEq, List.cons.injEq] at hb; rw [← hb.1.1]; exact h) hll
end Go.Proofs.Ytnlfcknpmemhfaa
