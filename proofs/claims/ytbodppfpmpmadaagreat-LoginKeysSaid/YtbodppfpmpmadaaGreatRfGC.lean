import Derived.Test.YtbodppfpmpmadaaGreatRfAC
import Derived.Test.YtbodppfpmpmadaaGreatGrIC
import Derived.Test.YtbodppfpmpmadaaGreatL12C
import Derived.Deep.RegionHeld3
namespace Go.Proofs.YtbodppfpmpmadaaGreat
open Go.RowKit

section
variable {P : Program} {w : World}
variable {ops : Array Oper} {o : Oper} {a : Act} {K : Act → World → Prop} {Q : Exit → Act → World → Prop} {E : Prop}
theorem run_append_none (w : World) (hT : BT P) (ty : TypeId) {base : Nat} {v : Value} {l : List UInt8} (hown : Own w base v l) :
    (Builtin.append_ #[22, 22] ty #[v, .slice none 0 0]).run P w = .ok v w := by
  obtain ⟨i, hi, hz, hs1, hb1⟩ := hT.info
  rcases hown.2 with ⟨rfl, _⟩ | ⟨g, cap', cur, rfl, _, _, hnc, _⟩
  · simp [Builtin.append_, run_underlying hT.sl, sizeOf, typeInfo, hi, Builtin.lenOf, Builtin.firstCells]
  · simp [Builtin.append_, run_underlying hT.sl, sizeOf, typeInfo, hi, Builtin.lenOf, Builtin.firstCells, hnc, storeCells]
theorem step_append_none (hT : BT P) {base : Nat} {v : Value} {l : List UInt8} (hown : Own w base v l)
    (hgd : o.guard = none) (s x : Operand) (ho : o.op = .call { callee := .builtin .append, args := #[s, x], argTypes := #[22, 22] })
    (hs : a.eval s = v) (hx : a.eval x = .slice none 0 0)
    (h : K (a.put o.dst v) w) : if Region.wanted o (yielded ops a.tmps) = true then Oper.wp P o a w K Q else E := by
  have hw : Region.wanted o (yielded ops a.tmps) = true := by simp [Region.wanted, hgd]
  rw [if_pos hw]
  have hr := run_append_none (P := P) w hT o.type hown
  unfold Oper.wp execOp
  simp only [ho, resolve, invoke, builtin, Sem.run_bind, Sem.run_pure, Result.andThen_ok, List.map_toArray, List.map_cons, List.map_nil, hs, hx, hr]
  exact h
end

theorem fixed12R_c (w : World) (v : Value) (l : List UInt8) (x n : Int) (hr : Rd w v l) (hl : l.length ≤ 9000000) (h : fixOk x n = true) :
    Calls Tryz.prog 103 #[v, .int .u64 x, .int .i64 n] w (RetB w (l ++ fixB x n.toNat)) := by
  have HR := Lib.hid hr
  have HK := Lib.hid h
  clear hr h
  go_enter Tryz.func103, Tryz.ntmps103
  go_wp2_with (go_at_call 158; refine (appendFixed_good_ref _ _ _ _ _ HR.out hl HK.out).mono ?_; rintro e w1 ⟨v1, rfl, ho, hx⟩)
  go_ret
  exact ⟨_, rfl, ho, hx⟩
theorem ended12R_c (w : World) (v : Value) (l s : List UInt8) (hr : Rd w v l) (hs : s.length ≤ 1000000) (hl : l.length ≤ 7000000) (h : s.contains 0 = false) :
    Calls Tryz.prog 102 #[v, .string (strL s)] w (RetB w (l ++ (s ++ [0]))) := by
  have HR := Lib.hid hr
  have HH := Lib.hid h
  have HZ := Lib.hid (show (strL s).size ≤ 1000000 by rw [strL_size]; exact hs)
  clear hr h
  go_enter Tryz.func102, Tryz.ntmps102
  go_wp2_with (go_at_call 157; refine (appendEnded_ref _ _ l _ HR.out HZ.out hl).mono ?_; rintro e w1 hrz; obtain ⟨v1, rfl, ho, hx⟩ := hrz.2 HH.out)
  go_ret
  rw [strL_toList, List.append_assoc] at ho
  exact ⟨_, rfl, ho, hx⟩

end Go.Proofs.YtbodppfpmpmadaaGreat

