import Derived.Test.YtbodppfpmpmadaaGreatL2C
import Derived.Deep.CutRange
namespace Go.Proofs.YtbodppfpmpmadaaGreat
open Go.RowKit

def natL : List UInt8 := [109, 121, 115, 113, 108, 95, 110, 97, 116, 105, 118, 101, 95, 112, 97, 115, 115, 119, 111, 114, 100]
def fastL : List UInt8 := [99, 97, 99, 104, 105, 110, 103, 95, 115, 104, 97, 50, 95, 112, 97, 115, 115, 119, 111, 114, 100]
structure UserV where
  name : List UInt8
  pw : List UInt8
  pl : List UInt8
  sc : List UInt8
  adm : Bool
def userC (u : UserV) : List Value := [.string (strL u.name), .string (strL u.pw), .string (strL u.pl), .string (strL u.sc), .bool u.adm]
def oursP (pl : List UInt8) : Bool := pl == natL || pl == fastL
def okU (u : UserV) : Bool := !u.name.isEmpty && (plainU u.name && (plainU u.pw && (plainU u.sc && oursP u.pl)))
def checkU (u : UserV) : Int := if okU u then 0 else 2
set_option maxHeartbeats 4000000 in
theorem checkU_c (w : World) (name pw pl sc : List UInt8) (adm : Bool) : Calls Tryz.prog 19 #[.agg #[.string (strL name), .string (strL pw), .string (strL pl), .string (strL sc), .bool adm]] w fun e w' => e = .returned (.int .i64 (checkU ⟨name, pw, pl, sc, adm⟩)) ∧ Ext w w' := by
  obtain ⟨q0, e0⟩ : ∃ q, (strL name).toList.isEmpty = q := ⟨_, rfl⟩
  obtain ⟨q1, e1⟩ : ∃ q, plainU name = q := ⟨_, rfl⟩
  obtain ⟨q2, e2⟩ : ∃ q, plainU pw = q := ⟨_, rfl⟩
  obtain ⟨q3, e3⟩ : ∃ q, plainU sc = q := ⟨_, rfl⟩
  have hr : checkU ⟨name, pw, pl, sc, adm⟩ = if (!q0 && (q1 && (q2 && (q3 && oursP pl)))) then 0 else 2 := by
    unfold checkU okU
    rw [e1, e2, e3]
    rw [strL_tl] at e0
    rw [e0]
  rw [hr]
  clear hr
  have H1 := Lib.hid e1
  have H2 := Lib.hid e2
  have H3 := Lib.hid e3
  clear e1 e2 e3
  cases q0 with
  | true =>
    go_enter Tryz.func19, Tryz.ntmps19
    go_wp2_with fail
    go_ret
    exact ⟨rfl, (Ext.refl _).alloc _⟩
  | false =>
    obtain ⟨q4, e4⟩ : ∃ q, q = (pl == natL) := ⟨_, rfl⟩
    obtain ⟨q5, e5⟩ : ∃ q, q = (pl == fastL) := ⟨_, rfl⟩
    have ho : oursP pl = (q4 || q5) := by unfold oursP; rw [← e4, ← e5]
    rw [ho]
    have g4 : ((strL pl).toList == [109, 121, 115, 113, 108, 95, 110, 97, 116, 105, 118, 101, 95, 112, 97, 115, 115, 119, 111, 114, 100]) = q4 := by rw [strL_tl]; exact e4.symm
    have g5 : ((strL pl).toList == [99, 97, 99, 104, 105, 110, 103, 95, 115, 104, 97, 50, 95, 112, 97, 115, 115, 119, 111, 114, 100]) = q5 := by rw [strL_tl]; exact e5.symm
    clear ho e4 e5
    cases q1 <;> cases q2 <;> cases q3 <;> cases q4 <;> cases q5
    all_goals
      have tok1 : True := trivial
      go_enter Tryz.func19, Tryz.ntmps19
      go_upto_region 1 with fail
      generalize hW0 : w.alloc _ = wS
      have HB := Lib.hid (show BoxF wS w.heap.size [.string (strL name), .string (strL pw), .string (strL pl), .string (strL sc), .bool adm] by rw [← hW0]; exact BoxF.new w _ _)
      have HX0 := Lib.hid (show Ext w wS by rw [← hW0]; exact (Ext.refl w).alloc _)
      clear hW0
      have c0 := HB.out.at (j := 0) rfl
      go_wp2_with (first
      | ((with_reducible show Calls _ _ #[Value.string (strL name)] _ _); have _t := tok1; go_at_call 53; refine (plainU_c _ name).mono ?_; rintro e w1 ⟨rfl, hx1⟩; rw [H1.out]; clear tok1; have tok2 : True := trivial; have hE := hx1; have B1 := HB.out.ext hE; have c1 := B1.at (j := 1) rfl; have c2 := B1.at (j := 2) rfl; have c3 := B1.at (j := 3) rfl; clear B1)
      | ((with_reducible show Calls _ _ #[Value.string (strL pw)] _ _); have _t := tok2; go_at_call 53; refine (plainU_c _ pw).mono ?_; rintro e w2 ⟨rfl, hx2⟩; rw [H2.out]; clear tok2 c1 c2 c3; have tok3 : True := trivial; replace hE := hE.trans hx2; have B1 := HB.out.ext hE; have c2 := B1.at (j := 2) rfl; have c3 := B1.at (j := 3) rfl; clear B1)
      | ((with_reducible show Calls _ _ #[Value.string (strL sc)] _ _); have _t := tok3; go_at_call 53; refine (plainU_c _ sc).mono ?_; rintro e w3 ⟨rfl, hx3⟩; rw [H3.out]; clear tok3 c2 c3; replace hE := hE.trans hx3; have B1 := HB.out.ext hE; have c2 := B1.at (j := 2) rfl; clear B1)
      | fail)
      go_ret
      exact ⟨rfl, HX0.out.trans hE⟩
end Go.Proofs.YtbodppfpmpmadaaGreat

