import Derived.Test.YtbodppfpmpmadaaGreatRfAC
import Derived.Test.YtbodppfpmpmadaaGreatGrIC
import Derived.Test.YtbodppfpmpmadaaGreatL14C
import Derived.Deep.RegionHeld3
namespace Go.Proofs.YtbodppfpmpmadaaGreat
open Go.RowKit

section
variable {P : Program} {w : World}
variable {ops : Array Oper} {o : Oper} {a : Act} {K : Act → World → Prop} {Q : Exit → Act → World → Prop} {E : Prop}
theorem run_append_none (w : World) (hT : BT P) (ty : TypeId) {base : Nat} {v : Value} {l : List UInt8} (hown : Own w base v l) :
    (Builtin.append_ #[22, 22] ty #[v, .slice none 0 0]).run P w = .ok v w := by
  obtain ⟨i, hi, hz, hs1, hb1⟩ := hT.info
  rcases hown.2 with ⟨rfl, _⟩ | ⟨g, cap', cur, rfl, _, _, hnc, _⟩
  · simp [Builtin.append_, run_underlying hT.sl, sizeOf, typeInfo, hi, Builtin.lenOf, Builtin.firstCells]
  · simp [Builtin.append_, run_underlying hT.sl, sizeOf, typeInfo, hi, Builtin.lenOf, Builtin.firstCells, hnc, storeCells]
theorem step_append_none (hT : BT P) {base : Nat} {v : Value} {l : List UInt8} (hown : Own w base v l)
    (hgd : o.guard = none) (s x : Operand) (ho : o.op = .call { callee := .builtin .append, args := #[s, x], argTypes := #[22, 22] })
    (hs : a.eval s = v) (hx : a.eval x = .slice none 0 0)
    (h : K (a.put o.dst v) w) : if Region.wanted o (yielded ops a.tmps) = true then Oper.wp P o a w K Q else E := by
  have hw : Region.wanted o (yielded ops a.tmps) = true := by simp [Region.wanted, hgd]
  rw [if_pos hw]
  have hr := run_append_none (P := P) w hT o.type hown
  unfold Oper.wp execOp
  simp only [ho, resolve, invoke, builtin, Sem.run_bind, Sem.run_pure, Result.andThen_ok, List.map_toArray, List.map_cons, List.map_nil, hs, hx, hr]
  exact h
end

theorem fixed12R_c (w : World) (v : Value) (l : List UInt8) (x n : Int) (hr : Rd w v l) (hl : l.length ≤ 9000000) (h : fixOk x n = true) :
    Calls Tryz.prog 103 #[v, .int .u64 x, .int .i64 n] w (RetB w (l ++ fixB x n.toNat)) := by
  have HR := Lib.hid hr
  have HK := Lib.hid h
  clear hr h
  go_enter Tryz.func103, Tryz.ntmps103
  go_wp2_with (go_at_call 158; refine (appendFixed_good_ref _ _ _ _ _ HR.out hl HK.out).mono ?_; rintro e w1 ⟨v1, rfl, ho, hx⟩)
  go_ret
  exact ⟨_, rfl, ho, hx⟩
theorem ended12R_c (w : World) (v : Value) (l s : List UInt8) (hr : Rd w v l) (hs : s.length ≤ 1000000) (hl : l.length ≤ 7000000) (h : s.contains 0 = false) :
    Calls Tryz.prog 102 #[v, .string (strL s)] w (RetB w (l ++ (s ++ [0]))) := by
  have HR := Lib.hid hr
  have HH := Lib.hid h
  have HZ := Lib.hid (show (strL s).size ≤ 1000000 by rw [strL_size]; exact hs)
  clear hr h
  go_enter Tryz.func102, Tryz.ntmps102
  go_wp2_with (go_at_call 157; refine (appendEnded_ref _ _ l _ HR.out HZ.out hl).mono ?_; rintro e w1 hrz; obtain ⟨v1, rfl, ho, hx⟩ := hrz.2 HH.out)
  go_ret
  rw [strL_toList, List.append_assoc] at ho
  exact ⟨_, rfl, ho, hx⟩

set_option linter.unusedSimpArgs false in
set_option maxRecDepth 100000 in
set_option maxHeartbeats 4000000 in
theorem appendSwitchR_g (w : World) (pl n : List UInt8) (vn : Value) (hn : Rd w vn n) (h : switchOk (pl, n)) (hp : pl.length ≤ 10000) :
    Calls Tryz.prog 162 #[.slice none 0 0, .agg #[.string (strL pl), vn]] w (RetBE w (switchB (pl, n)) 0) := by
  have HN := Lib.hid hn
  obtain ⟨An, cn, rfl, hcn, _, _, _⟩ := id hn
  have HZ := Lib.hid h.1
  have HPL := Lib.hid hp
  have h2 := h.2.1
  dsimp only at h2
  have HNL := Lib.hid (show n.length ≤ 20 by omega)
  have hck : checkE n = 0 := by
    have h3 := h.2.2
    unfold nonceOk at h3
    simp only [Bool.and_eq_true, Bool.not_eq_true'] at h3
    unfold checkE
    rw [if_pos ⟨h2, h3.1, h3.2⟩]
  have HCK := Lib.hid hck
  clear hn h hp h2 hck hcn
  go_enter Tryz.func162, Tryz.ntmps162
  go_wp2_with fail
  generalize hW0 : w.alloc _ = wS
  have hb : Box wS w.heap.size [.string (strL pl), .slice An n.length cn] := by rw [← hW0]; exact Box.new w _ _
  have hx0 : Ext w wS := by rw [← hW0]; exact (Ext.refl w).alloc _
  clear hW0
  have c0 := hb.one' (j := 0) rfl (Ext.refl wS)
  have c1 := hb.one' (j := 1) rfl (Ext.refl wS)
  have HX := Lib.hid hx0
  clear hx0
  go_wp2_with (first
    | (go_at_call 156; refine (plain12R_c _ pl (by have := HPL.out; omega)).mono ?_; rw [HZ.out]; rintro e wx ⟨rfl, rfl⟩)
    | (go_at_call 61; refine (check_r _ _ n 0 (HN.out.ext HX.out) HCK.out).mono ?_; rintro e wy ⟨rfl, rfl⟩)
    | fail)
  clear c0 c1
  have hE := Ext.refl wS
  go_region_held3 (fun W' => W'.cell? ⟨w.heap.size, 0, none⟩ = some (.string (strL pl)) ∧ W'.cell? ⟨w.heap.size, 1, none⟩ = some (.slice An n.length cn) ∧ Ext wS W') ((refine hb.hold2 (i := 0) (j := 1) rfl rfl ?_; repeat' (first | exact hE | (with_reducible refine Ext.drew ?_) | (with_reducible refine Ext.alloc ?_ _))))
    (first
      | ((with_reducible show (if Region.wanted (⟨some 18, _, _, _, _, _⟩ : Oper) _ = true then _ else _)); go_must (refine step_append_none (base := wS.heap.size) (l := []) bt ?_ (by rfl) _ _ (by rfl) (by rfl) (by rfl) ?_; ((first | exact own_nil _ _ _ (by first | rfl | (simp; done)) (by first | exact Nat.le_refl _ | (simp; done) | (simp; omega)) | exact Own.ext (own_nil _ _ _ (by first | rfl | (simp; done)) (by first | exact Nat.le_refl _ | (simp; done) | (simp; omega))) ((Ext.refl _).alloc _) | exact Own.ext (own_nil _ _ _ (by first | rfl | (simp; done)) (by first | exact Nat.le_refl _ | (simp; done) | (simp; omega))) (((Ext.refl _).alloc _).alloc _) | exact Own.ext (own_nil _ _ _ (by first | rfl | (simp; done)) (by first | exact Nat.le_refl _ | (simp; done) | (simp; omega))) (Ext.refl _).drew | exact Own.ext (own_nil _ _ _ (by first | rfl | (simp; done)) (by first | exact Nat.le_refl _ | (simp; done) | (simp; omega))) ((Ext.refl _).alloc _).drew | exact Own.ext (own_nil _ _ _ (by first | rfl | (simp; done)) (by first | exact Nat.le_refl _ | (simp; done) | (simp; omega))) (((Ext.refl _).alloc _).alloc _).drew | exact Own.ext (own_nil _ _ _ (by first | rfl | (simp; done)) (by first | exact Nat.le_refl _ | (simp; done) | (simp; omega))) (((Ext.refl _).alloc _).drew).drew | exact Own.ext (own_nil _ _ _ (by first | rfl | (simp; done)) (by first | exact Nat.le_refl _ | (simp; done) | (simp; omega))) ((Ext.refl _).drew).drew))))
      | ((with_reducible show (if Region.wanted (⟨some 20, _, _, _, _, _⟩ : Oper) _ = true then _ else _)); go_must (refine step_append_rdg (l := []) (m := [254]) bt ?_ ?_ (by rfl) _ _ (by rfl) (by rfl) (by rfl) (by have h1 := HPL.out; have h2 := HNL.out; simp only [List.length_append, List.length_cons, List.length_nil] <;> omega) (Ext.size (w := wS) (by repeat' (first | exact hE | (with_reducible refine Ext.drew ?_) | (with_reducible refine Ext.alloc ?_ _)))) ?_; ((first | exact own_nil _ _ _ (by first | rfl | (simp; done)) (by first | exact Nat.le_refl _ | (simp; done) | (simp; omega)) | exact Own.ext (own_nil _ _ _ (by first | rfl | (simp; done)) (by first | exact Nat.le_refl _ | (simp; done) | (simp; omega))) ((Ext.refl _).alloc _) | exact Own.ext (own_nil _ _ _ (by first | rfl | (simp; done)) (by first | exact Nat.le_refl _ | (simp; done) | (simp; omega))) (((Ext.refl _).alloc _).alloc _) | exact Own.ext (own_nil _ _ _ (by first | rfl | (simp; done)) (by first | exact Nat.le_refl _ | (simp; done) | (simp; omega))) (Ext.refl _).drew | exact Own.ext (own_nil _ _ _ (by first | rfl | (simp; done)) (by first | exact Nat.le_refl _ | (simp; done) | (simp; omega))) ((Ext.refl _).alloc _).drew | exact Own.ext (own_nil _ _ _ (by first | rfl | (simp; done)) (by first | exact Nat.le_refl _ | (simp; done) | (simp; omega))) (((Ext.refl _).alloc _).alloc _).drew | exact Own.ext (own_nil _ _ _ (by first | rfl | (simp; done)) (by first | exact Nat.le_refl _ | (simp; done) | (simp; omega))) (((Ext.refl _).alloc _).drew).drew | exact Own.ext (own_nil _ _ _ (by first | rfl | (simp; done)) (by first | exact Nat.le_refl _ | (simp; done) | (simp; omega))) ((Ext.refl _).drew).drew)); ((first | exact rd_lit _ _ [254] (by rfl) (by simp) 1 _ (by rfl) (by first | rfl | (simp; done)) | exact Rd.ext (rd_lit _ _ [254] (by rfl) (by simp) 1 _ (by rfl) (by first | rfl | (simp; done))) ((Ext.refl _).alloc _) | exact Rd.ext (rd_lit _ _ [254] (by rfl) (by simp) 1 _ (by rfl) (by first | rfl | (simp; done))) (((Ext.refl _).alloc _).alloc _) | exact Rd.ext (rd_lit _ _ [254] (by rfl) (by simp) 1 _ (by rfl) (by first | rfl | (simp; done))) (Ext.refl _).drew | exact Rd.ext (rd_lit _ _ [254] (by rfl) (by simp) 1 _ (by rfl) (by first | rfl | (simp; done))) ((Ext.refl _).alloc _).drew | exact Rd.ext (rd_lit _ _ [254] (by rfl) (by simp) 1 _ (by rfl) (by first | rfl | (simp; done))) (((Ext.refl _).alloc _).alloc _).drew)); intro v2 w2 ho2 hb2 hg2; replace hE : Ext wS w2 := Ext.below (by repeat' (first | exact hE | (with_reducible refine Ext.drew ?_) | (with_reducible refine Ext.alloc ?_ _))) hb2 (Nat.le_refl _)))
      | (go_at_call 102; go_must (refine (ended12R_c _ _ ([] ++ [254]) pl (ho2.ext (by repeat' (first | exact (Ext.refl _) | (with_reducible refine Ext.drew ?_) | (with_reducible refine Ext.alloc ?_ _)))).rd (by have h1 := HPL.out; omega) (by simp) HZ.out).mono ?_; rintro e w3 ⟨v3, rfl, hof3, hx3⟩; have ho3 := hof3.more (base' := wS.heap.size) (Ext.size (w := wS) (by repeat' (first | exact hE | (with_reducible refine Ext.drew ?_) | (with_reducible refine Ext.alloc ?_ _)))); replace hE : Ext wS w3 := Ext.trans (by repeat' (first | exact hE | (with_reducible refine Ext.drew ?_) | (with_reducible refine Ext.alloc ?_ _))) hx3))
      | ((with_reducible show (if Region.wanted (⟨some 26, _, _, _, _, _⟩ : Oper) _ = true then _ else _)); go_must (refine step_append_rdg (m := n) bt (ho3.ext (by repeat' (first | exact (Ext.refl _) | (with_reducible refine Ext.drew ?_) | (with_reducible refine Ext.alloc ?_ _)))) ?_ (by rfl) _ _ (by rfl) (by rfl) (by rfl) (by have h1 := HPL.out; have h2 := HNL.out; simp only [List.length_append, List.length_cons, List.length_nil] <;> omega) (Ext.size (w := wS) (by repeat' (first | exact hE | (with_reducible refine Ext.drew ?_) | (with_reducible refine Ext.alloc ?_ _)))) ?_; (exact (HN.out.ext (HX.out.trans (by repeat' (first | exact hE | (with_reducible refine Ext.drew ?_) | (with_reducible refine Ext.alloc ?_ _)))))); intro v4 w4 ho4 hb4 hg4; replace hE : Ext wS w4 := Ext.below (by repeat' (first | exact hE | (with_reducible refine Ext.drew ?_) | (with_reducible refine Ext.alloc ?_ _))) hb4 (Nat.le_refl _)))
      | ((with_reducible show (if Region.wanted (⟨some 28, _, _, _, _, _⟩ : Oper) _ = true then _ else _)); go_must (refine step_append_rdg (m := [0]) bt (ho4.ext (by repeat' (first | exact (Ext.refl _) | (with_reducible refine Ext.drew ?_) | (with_reducible refine Ext.alloc ?_ _)))) ?_ (by rfl) _ _ (by rfl) (by rfl) (by rfl) (by have h1 := HPL.out; have h2 := HNL.out; simp only [List.length_append, List.length_cons, List.length_nil] <;> omega) (Ext.size (w := wS) (by repeat' (first | exact hE | (with_reducible refine Ext.drew ?_) | (with_reducible refine Ext.alloc ?_ _)))) ?_; ((first | exact rd_lit _ _ [0] (by rfl) (by simp) 1 _ (by rfl) (by first | rfl | (simp; done)) | exact Rd.ext (rd_lit _ _ [0] (by rfl) (by simp) 1 _ (by rfl) (by first | rfl | (simp; done))) ((Ext.refl _).alloc _) | exact Rd.ext (rd_lit _ _ [0] (by rfl) (by simp) 1 _ (by rfl) (by first | rfl | (simp; done))) (((Ext.refl _).alloc _).alloc _) | exact Rd.ext (rd_lit _ _ [0] (by rfl) (by simp) 1 _ (by rfl) (by first | rfl | (simp; done))) (Ext.refl _).drew | exact Rd.ext (rd_lit _ _ [0] (by rfl) (by simp) 1 _ (by rfl) (by first | rfl | (simp; done))) ((Ext.refl _).alloc _).drew | exact Rd.ext (rd_lit _ _ [0] (by rfl) (by simp) 1 _ (by rfl) (by first | rfl | (simp; done))) (((Ext.refl _).alloc _).alloc _).drew | (refine rd_far ?_ hg4 (fun e => by have h9 := hof3.ltB e.symm; have z0 := World.grownBy.size hg2; have z1 := Ext.size hx3; (try simp at h9 z0 z1) <;> omega); (first | exact rd_lit _ _ [0] (by rfl) (by simp) 1 _ (by rfl) (by first | rfl | (simp; done)) | exact Rd.ext (rd_lit _ _ [0] (by rfl) (by simp) 1 _ (by rfl) (by first | rfl | (simp; done))) ((Ext.refl _).alloc _) | exact Rd.ext (rd_lit _ _ [0] (by rfl) (by simp) 1 _ (by rfl) (by first | rfl | (simp; done))) (((Ext.refl _).alloc _).alloc _) | exact Rd.ext (rd_lit _ _ [0] (by rfl) (by simp) 1 _ (by rfl) (by first | rfl | (simp; done))) (Ext.refl _).drew | exact Rd.ext (rd_lit _ _ [0] (by rfl) (by simp) 1 _ (by rfl) (by first | rfl | (simp; done))) ((Ext.refl _).alloc _).drew | exact Rd.ext (rd_lit _ _ [0] (by rfl) (by simp) 1 _ (by rfl) (by first | rfl | (simp; done))) (((Ext.refl _).alloc _).alloc _).drew | (refine Rd.ext ?_ hx3; (first | exact rd_lit _ _ [0] (by rfl) (by simp) 1 _ (by rfl) (by first | rfl | (simp; done)) | exact Rd.ext (rd_lit _ _ [0] (by rfl) (by simp) 1 _ (by rfl) (by first | rfl | (simp; done))) ((Ext.refl _).alloc _) | exact Rd.ext (rd_lit _ _ [0] (by rfl) (by simp) 1 _ (by rfl) (by first | rfl | (simp; done))) (((Ext.refl _).alloc _).alloc _) | exact Rd.ext (rd_lit _ _ [0] (by rfl) (by simp) 1 _ (by rfl) (by first | rfl | (simp; done))) (Ext.refl _).drew | exact Rd.ext (rd_lit _ _ [0] (by rfl) (by simp) 1 _ (by rfl) (by first | rfl | (simp; done))) ((Ext.refl _).alloc _).drew | exact Rd.ext (rd_lit _ _ [0] (by rfl) (by simp) 1 _ (by rfl) (by first | rfl | (simp; done))) (((Ext.refl _).alloc _).alloc _).drew | (refine rd_far ?_ hg2 (by (show (some _ : Option Nat) ≠ some _); simp <;> omega); (first | exact rd_lit _ _ [0] (by rfl) (by simp) 1 _ (by rfl) (by first | rfl | (simp; done)) | exact Rd.ext (rd_lit _ _ [0] (by rfl) (by simp) 1 _ (by rfl) (by first | rfl | (simp; done))) ((Ext.refl _).alloc _) | exact Rd.ext (rd_lit _ _ [0] (by rfl) (by simp) 1 _ (by rfl) (by first | rfl | (simp; done))) (((Ext.refl _).alloc _).alloc _) | exact Rd.ext (rd_lit _ _ [0] (by rfl) (by simp) 1 _ (by rfl) (by first | rfl | (simp; done))) (Ext.refl _).drew | exact Rd.ext (rd_lit _ _ [0] (by rfl) (by simp) 1 _ (by rfl) (by first | rfl | (simp; done))) ((Ext.refl _).alloc _).drew | exact Rd.ext (rd_lit _ _ [0] (by rfl) (by simp) 1 _ (by rfl) (by first | rfl | (simp; done))) (((Ext.refl _).alloc _).alloc _).drew)))))))); intro v5 w5 ho5 hb5 hg5; replace hE : Ext wS w5 := Ext.below (by repeat' (first | exact hE | (with_reducible refine Ext.drew ?_) | (with_reducible refine Ext.alloc ?_ _))) hb5 (Nat.le_refl _)))
      | fail)
  all_goals
    have HE := Lib.hid (HX.out.trans hE)
    have e4 : [] ++ [254] ++ (pl ++ [0]) ++ n ++ [0] = switchB (pl, n) := by simp [switchB]
    rw [e4] at ho5
    have HO := Lib.hid ho5
    clear e4
    go_wp2_with fail
    go_ret2
    exact ⟨_, rfl, HO.out.more (Ext.size HX.out), HE.out⟩
end Go.Proofs.YtbodppfpmpmadaaGreat

