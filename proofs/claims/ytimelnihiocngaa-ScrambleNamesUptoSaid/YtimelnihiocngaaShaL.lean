/- The chapter on hashes: what lives, the worked examples, nobody's hashes. -/
import Derived.Test.YtimelnihiocngaaShaK

import Derived.Lib.SlBytesConst
namespace Go.Proofs.Ytimelnihiocngaa
open Go.RowKit

section
variable {P : Program} {ops : Array Oper} {rest : List Oper} {o : Oper} {a : Act} {w : World} {Q : Exit → Act → World → Prop}
/-- '[]byte("abc")' of a constant. -/
theorem wpl_bytes_const (hT : BT P) (l : List UInt8) (hl : l.length ≤ maxLen) (hw : Region.wanted o (yielded ops a.tmps) = true) (x : Operand) (ho : o.op = .convert 28 28 x) (C : Array Value) (hC : C = (bc l).toArray) (n : Nat) (hn : n = l.length)
    (hx : a.eval x = .slice (some ⟨w.heap.size, 0, none⟩) n n)
    (h : ∀ A c w', Rd w' (.slice A n c) l → (Value.slice A n c).ownBlock = some w.heap.size → Ext w w' → wpList P ops Q rest (a.put o.dst (.slice A n c)) w') : wpList P ops Q (o :: rest) a (w.alloc (.cells C 5)) :=
  wpList_step fun K hK => by
    rw [if_pos hw]
    unfold Oper.wp execOp
    subst hC hn
    simp only [ho, hx, Lib.run_convert_bytes_const w 28 5 _ _ _ hT.sl hT.el, Sem.run_bind, Sem.run_pure, Result.andThen_ok]
    refine hK _ _ (h _ _ _ ⟨_, l.length, rfl, Nat.le_refl _, hl, (fun h => by cases h), fun _ => ⟨_, 0, rfl, fun j hj => ?_⟩⟩ rfl ((Ext.refl w).alloc _))
    rw [Nat.zero_add, World.cell?_alloc_mark]
    have := bc_get l j hj
    simpa using this
end

theorem hex_e (w : World) (v : Value) (l s : List UInt8) (hr : Rd w v l) (hl : l.length ≤ 1000000) (hs : (hexL l == s) = true) :
    Calls Try.prog 15 #[v] w fun e w' => e = .returned (.string ⟨s.toArray⟩) ∧ Ext w w' := by
  obtain rfl := eq_of_beq hs
  exact hex_c w v l hr hl
theorem sumP_length (kind : Int) (l : List UInt8) : (sumP kind l).length ≤ 1000000 := by
  have h := (goodH_fin kind (s := feedH kind (initH kind) l) l.length (goodH_feed kind l (goodH_init kind))).1
  unfold sumP sumH
  rw [outH_length]
  split
  · rw [List.length_take]; omega
  · omega

set_option maxRecDepth 100000 in
set_option maxHeartbeats 1000000 in
theorem lives07_c (w : World) : Calls Try.prog 14 #[] w fun e w' => e = .returned (.bool true) ∧ Ext w w' := by
  go_enter Try.func14, Try.ntmps14
  go_wp2_with (first
    | ((with_reducible show wpList _ _ _ (⟨some 2, _, _, _, _, _⟩ :: _) _ _); refine wpl_bytes_const bt [97, 98, 99] (by decide) (by rfl) _ rfl _ rfl 3 rfl rfl ?_; intro A0 c0 w0 hr0 _ hx0)
    | ((with_reducible show wpList _ _ _ (⟨some 8, _, _, _, _, _⟩ :: _) _ _); refine wpl_bytes_const bt [97, 98, 99] (by decide) (by rfl) _ rfl _ rfl 3 rfl rfl ?_; intro A3 c3 w3 hr3 _ hx3)
    | (go_at_call 16; refine (sum1_c _ _ _ hr0 (by simp)).mono ?_; rintro e w1 ⟨v1, rfl, ho1, hx1⟩)
    | (go_at_call 15; (with_reducible show Calls _ _ #[v1] _ _); refine (hex_e _ _ _ [97, 57, 57, 57, 51, 101, 51, 54, 52, 55, 48, 54, 56, 49, 54, 97, 98, 97, 51, 101, 50, 53, 55, 49, 55, 56, 53, 48, 99, 50, 54, 99, 57, 99, 100, 48, 100, 56, 57, 100] ho1.rd (sumP_length _ _) abc1).mono ?_; rintro e w2 ⟨rfl, hx2⟩)
    | (go_at_call 17; refine (sum256_c _ _ _ hr3 (by simp)).mono ?_; rintro e w4 ⟨v4, rfl, ho4, hx4⟩)
    | (go_at_call 15; (with_reducible show Calls _ _ #[v4] _ _); refine (hex_e _ _ _ [98, 97, 55, 56, 49, 54, 98, 102, 56, 102, 48, 49, 99, 102, 101, 97, 52, 49, 52, 49, 52, 48, 100, 101, 53, 100, 97, 101, 50, 50, 50, 51, 98, 48, 48, 51, 54, 49, 97, 51, 57, 54, 49, 55, 55, 97, 57, 99, 98, 52, 49, 48, 102, 102, 54, 49, 102, 50, 48, 48, 49, 53, 97, 100] ho4.rd (sumP_length _ _) abc2).mono ?_; rintro e w5 ⟨rfl, hx5⟩)
    | fail)
  go_ret
  exact ⟨rfl, ((((hx0.trans hx1).trans hx2).trans hx3).trans hx4).trans hx5⟩

set_option maxRecDepth 100000 in
set_option maxHeartbeats 1000000 in
theorem shaNames_c (w : World) : Calls Try.prog 3 #[] w fun e w' => e = .returned (.bool true) ∧ Ext w w' := by
  go_enter Try.func3, Try.ntmps3
  go_wp2_with (first
    | (go_at_call 13; refine (new_bad _ 3 (by decide) (by decide)).mono ?_; rintro e w0 ⟨rfl, rfl⟩)
    | (go_at_call 14; refine (lives07_c _).mono ?_; rintro e w1 ⟨rfl, hx1⟩)
    | (go_at_call 16; refine (sum1_c _ _ _ (Rd.nil _) (by simp)).mono ?_; rintro e w2 ⟨v2, rfl, ho2, hx2⟩)
    | (go_at_call 15; (with_reducible show Calls _ _ #[v2] _ _); refine (hex_e _ _ _ [100, 97, 51, 57, 97, 51, 101, 101, 53, 101, 54, 98, 52, 98, 48, 100, 51, 50, 53, 53, 98, 102, 101, 102, 57, 53, 54, 48, 49, 56, 57, 48, 97, 102, 100, 56, 48, 55, 48, 57] ho2.rd (sumP_length _ _) nil1).mono ?_; rintro e w3 ⟨rfl, hx3⟩)
    | (go_at_call 17; refine (sum256_c _ _ _ (Rd.nil _) (by simp)).mono ?_; rintro e w4 ⟨v4, rfl, ho4, hx4⟩)
    | (go_at_call 15; (with_reducible show Calls _ _ #[v4] _ _); refine (hex_e _ _ _ [101, 51, 98, 48, 99, 52, 52, 50, 57, 56, 102, 99, 49, 99, 49, 52, 57, 97, 102, 98, 102, 52, 99, 56, 57, 57, 54, 102, 98, 57, 50, 52, 50, 55, 97, 101, 52, 49, 101, 52, 54, 52, 57, 98, 57, 51, 52, 99, 97, 52, 57, 53, 57, 57, 49, 98, 55, 56, 53, 50, 98, 56, 53, 53] ho4.rd (sumP_length _ _) nil2).mono ?_; rintro e w5 ⟨rfl, hx5⟩)
    | fail)
  go_ret
  exact ⟨rfl, (((hx1.trans hx2).trans hx3).trans hx4).trans hx5⟩
end Go.Proofs.Ytimelnihiocngaa
