import Derived.Test.YtbodppfpmpmadaaGreatL10C
import Derived.Deep.RegionHeld3
namespace Go.Proofs.YtbodppfpmpmadaaGreat
open Go.RowKit

theorem cloneN_c (w : World) : Calls Tryz.prog 97 #[.slice none 0 0] w fun e w' => e = .returned (.slice none 0 0) ∧ w = w' := by
  have hn := fun wx => Lib.run_eql_slice_nil (P := Tryz.prog) wx 22 5 none 0 0 0 0 Tryz.underlying22
  go_enter Tryz.func97, Tryz.ntmps97
  go_wp2_with fail
  go_ret
  exact ⟨rfl, rfl⟩
theorem Box.one' {W0 W : World} {g j : Nat} {cs : List Value} {v : Value} (h : Box W0 g cs) (hv : cs[j]? = some v) (e : Ext W0 W) : W.cell? ⟨g, j, none⟩ = some v := by
  obtain ⟨hj, hv⟩ := List.getElem?_eq_some_iff.1 hv
  have h1 := (h.ext e) j hj
  simp [List.getD, hj, hv] at h1
  exact h1
theorem Box.hold2 {W0 W : World} {g i j : Nat} {cs : List Value} {u v : Value} (h : Box W0 g cs) (hu : cs[i]? = some u) (hv : cs[j]? = some v) (e : Ext W0 W) : W.cell? ⟨g, i, none⟩ = some u ∧ W.cell? ⟨g, j, none⟩ = some v ∧ Ext W0 W := ⟨h.one' hu e, h.one' hv e, e⟩
theorem Box.holdA {W0 W : World} {g i : Nat} {cs : List Value} {u : Value} (h : Box W0 g cs) (hu : cs[i]? = some u) (e : Ext W0 W) : W.cell? ⟨g, i, none⟩ = some u ∧ Ext W0 W := ⟨h.one' hu e, e⟩
theorem rd_byte (w : World) (x : Int) (h : 0 ≤ x ∧ x < 256) (g : Nat) (hg : g = w.heap.size) : Rd (w.alloc (.cells #[.int .u8 x] 5)) (.slice (some ⟨g, 0, none⟩) 1 1) [UInt8.ofNat x.toNat] :=
  rd_lit w _ [UInt8.ofNat x.toNat] (by
    show #[Value.int .u8 x] = #[Value.int .u8 ((UInt8.ofNat x.toNat).toNat : Int)]
    rw [UInt8.toNat_ofNat']
    congr 3
    omega) (by simp) 1 g rfl hg

set_option linter.unusedSimpArgs false in
set_option maxRecDepth 100000 in
set_option maxHeartbeats 4000000 in
theorem appendSwitch_g (w : World) (pl n : List UInt8) (vn : Value) (hn : Rd w vn n) (h : switchOk (pl, n)) (hp : pl.length ≤ 10000) :
    Calls Tryz.prog 90 #[.slice none 0 0, .agg #[.string (strL pl), vn]] w (RetBE w (switchB (pl, n)) 0) := by
  have HN := Lib.hid hn
  obtain ⟨An, cn, rfl, hcn, _, _, _⟩ := id hn
  have HZ := Lib.hid h.1
  have HPL := Lib.hid hp
  have h2 := h.2.1
  dsimp only at h2
  have HNL := Lib.hid (show n.length ≤ 20 by omega)
  have hb1 : plainP [pl] = true := by simp only [plainP, List.all_cons, List.all_nil, HZ.out]; rfl
  have HB1 := Lib.hid hb1
  have hck : checkE n = 0 := by
    have h3 := h.2.2
    unfold nonceOk at h3
    simp only [Bool.and_eq_true, Bool.not_eq_true'] at h3
    unfold checkE
    rw [if_pos ⟨h2, h3.1, h3.2⟩]
  have HCK := Lib.hid hck
  clear hn h hp h2 hb1 hck hcn
  go_enter Tryz.func90, Tryz.ntmps90
  go_wp2_with fail
  generalize hW0 : w.alloc _ = wS
  have hb : Box wS w.heap.size [.string (strL pl), .slice An n.length cn] := by rw [← hW0]; exact Box.new w _ _
  have hx0 : Ext w wS := by rw [← hW0]; exact (Ext.refl w).alloc _
  have hsz : w.heap.size + 1 = wS.heap.size := by rw [← hW0]; simp
  have HSZ := Lib.hid hsz
  clear hW0 hsz
  have c0 := hb.one' (j := 0) rfl (Ext.refl wS)
  have c1 := hb.one' (j := 1) rfl (Ext.refl wS)
  have HX0 := Lib.hid hx0
  clear hx0
  go_wp2_with (first
    | (go_at_call 143; refine (plain_g _ _ [pl] true (texts_new _ _ _ (by rfl) _ _ _ HSZ.out (by rfl) (by simp)) HB1.out).mono ?_; rintro e wT ⟨rfl, hq⟩; have hx1 : Ext wS wT := hq ▸ (Ext.refl wS).alloc _; clear hq c0 c1; have c1 := hb.one' (j := 1) rfl hx1)
    | (go_at_call 39; refine (check_c _ _ n 0 (HN.out.ext (HX0.out.trans hx1)) HCK.out).mono ?_; rintro e wy ⟨rfl, rfl⟩)
    | fail)
  clear c1
  replace hb := hb.ext hx1
  have HX := Lib.hid (HX0.out.trans hx1)
  clear hx1 HX0 HSZ
  have hE := Ext.refl wT
  go_region_held3 (fun W' => W'.cell? ⟨w.heap.size, 0, none⟩ = some (.string (strL pl)) ∧ W'.cell? ⟨w.heap.size, 1, none⟩ = some (.slice An n.length cn) ∧ Ext wT W') ((refine hb.hold2 (i := 0) (j := 1) rfl rfl ?_; repeat' (first | exact hE | (with_reducible refine Ext.drew ?_) | (with_reducible refine Ext.alloc ?_ _))))
    (first
      | (go_at_call 97; go_must (refine (cloneN_c _).mono ?_; rintro e wx ⟨rfl, rfl⟩))
      | ((with_reducible show (if Region.wanted (⟨some 20, _, _, _, _, _⟩ : Oper) _ = true then _ else _)); go_must (refine step_append_rdg (m := [254]) bt (Own.nil _ wT.heap.size) ?_ (by rfl) _ _ (by rfl) (by rfl) (by rfl) (by have h1 := HPL.out; have h2 := HNL.out; simp only [List.length_append, List.length_cons, List.length_nil] <;> omega) (Ext.size (w := wT) (by repeat' (first | exact hE | (with_reducible refine Ext.drew ?_) | (with_reducible refine Ext.alloc ?_ _)))) ?_; ((first | exact rd_lit _ _ [254] (by rfl) (by simp) 1 _ (by rfl) (by first | rfl | (simp; done)) | exact Rd.ext (rd_lit _ _ [254] (by rfl) (by simp) 1 _ (by rfl) (by first | rfl | (simp; done))) ((Ext.refl _).alloc _) | exact Rd.ext (rd_lit _ _ [254] (by rfl) (by simp) 1 _ (by rfl) (by first | rfl | (simp; done))) (((Ext.refl _).alloc _).alloc _) | exact Rd.ext (rd_lit _ _ [254] (by rfl) (by simp) 1 _ (by rfl) (by first | rfl | (simp; done))) (Ext.refl _).drew | exact Rd.ext (rd_lit _ _ [254] (by rfl) (by simp) 1 _ (by rfl) (by first | rfl | (simp; done))) ((Ext.refl _).alloc _).drew | exact Rd.ext (rd_lit _ _ [254] (by rfl) (by simp) 1 _ (by rfl) (by first | rfl | (simp; done))) (((Ext.refl _).alloc _).alloc _).drew)); intro v2 w2 ho2 hb2 hg2; replace hE : Ext wT w2 := Ext.below (by repeat' (first | exact hE | (with_reducible refine Ext.drew ?_) | (with_reducible refine Ext.alloc ?_ _))) hb2 (Nat.le_refl _)))
      | (go_at_call 96; go_must (refine (endedA_g _ _ ([] ++ [254]) pl (ho2.ext (by repeat' (first | exact (Ext.refl _) | (with_reducible refine Ext.drew ?_) | (with_reducible refine Ext.alloc ?_ _)))).rd (by have h1 := HPL.out; omega) (by simp) HZ.out).mono ?_; rintro e w3 ⟨v3, rfl, hof3, hx3⟩; have ho3 := hof3.more (base' := wT.heap.size) (Ext.size (w := wT) (by repeat' (first | exact hE | (with_reducible refine Ext.drew ?_) | (with_reducible refine Ext.alloc ?_ _)))); replace hE : Ext wT w3 := Ext.trans (by repeat' (first | exact hE | (with_reducible refine Ext.drew ?_) | (with_reducible refine Ext.alloc ?_ _))) hx3))
      | ((with_reducible show (if Region.wanted (⟨some 26, _, _, _, _, _⟩ : Oper) _ = true then _ else _)); go_must (refine step_append_rdg (m := n) bt (ho3.ext (by repeat' (first | exact (Ext.refl _) | (with_reducible refine Ext.drew ?_) | (with_reducible refine Ext.alloc ?_ _)))) ?_ (by rfl) _ _ (by rfl) (by rfl) (by rfl) (by have h1 := HPL.out; have h2 := HNL.out; simp only [List.length_append, List.length_cons, List.length_nil] <;> omega) (Ext.size (w := wT) (by repeat' (first | exact hE | (with_reducible refine Ext.drew ?_) | (with_reducible refine Ext.alloc ?_ _)))) ?_; (exact (HN.out.ext (HX.out.trans (by repeat' (first | exact hE | (with_reducible refine Ext.drew ?_) | (with_reducible refine Ext.alloc ?_ _)))))); intro v4 w4 ho4 hb4 hg4; replace hE : Ext wT w4 := Ext.below (by repeat' (first | exact hE | (with_reducible refine Ext.drew ?_) | (with_reducible refine Ext.alloc ?_ _))) hb4 (Nat.le_refl _)))
      | ((with_reducible show (if Region.wanted (⟨some 28, _, _, _, _, _⟩ : Oper) _ = true then _ else _)); go_must (refine step_append_rdg (m := [0]) bt (ho4.ext (by repeat' (first | exact (Ext.refl _) | (with_reducible refine Ext.drew ?_) | (with_reducible refine Ext.alloc ?_ _)))) ?_ (by rfl) _ _ (by rfl) (by rfl) (by rfl) (by have h1 := HPL.out; have h2 := HNL.out; simp only [List.length_append, List.length_cons, List.length_nil] <;> omega) (Ext.size (w := wT) (by repeat' (first | exact hE | (with_reducible refine Ext.drew ?_) | (with_reducible refine Ext.alloc ?_ _)))) ?_; ((first | exact rd_lit _ _ [0] (by rfl) (by simp) 1 _ (by rfl) (by first | rfl | (simp; done)) | exact Rd.ext (rd_lit _ _ [0] (by rfl) (by simp) 1 _ (by rfl) (by first | rfl | (simp; done))) ((Ext.refl _).alloc _) | exact Rd.ext (rd_lit _ _ [0] (by rfl) (by simp) 1 _ (by rfl) (by first | rfl | (simp; done))) (((Ext.refl _).alloc _).alloc _) | exact Rd.ext (rd_lit _ _ [0] (by rfl) (by simp) 1 _ (by rfl) (by first | rfl | (simp; done))) (Ext.refl _).drew | exact Rd.ext (rd_lit _ _ [0] (by rfl) (by simp) 1 _ (by rfl) (by first | rfl | (simp; done))) ((Ext.refl _).alloc _).drew | exact Rd.ext (rd_lit _ _ [0] (by rfl) (by simp) 1 _ (by rfl) (by first | rfl | (simp; done))) (((Ext.refl _).alloc _).alloc _).drew | (refine rd_far ?_ hg4 (fun e => by have h9 := hof3.ltB e.symm; have z0 := World.grownBy.size hg2; have z1 := Ext.size hx3; (try simp at h9 z0 z1) <;> omega); (first | exact rd_lit _ _ [0] (by rfl) (by simp) 1 _ (by rfl) (by first | rfl | (simp; done)) | exact Rd.ext (rd_lit _ _ [0] (by rfl) (by simp) 1 _ (by rfl) (by first | rfl | (simp; done))) ((Ext.refl _).alloc _) | exact Rd.ext (rd_lit _ _ [0] (by rfl) (by simp) 1 _ (by rfl) (by first | rfl | (simp; done))) (((Ext.refl _).alloc _).alloc _) | exact Rd.ext (rd_lit _ _ [0] (by rfl) (by simp) 1 _ (by rfl) (by first | rfl | (simp; done))) (Ext.refl _).drew | exact Rd.ext (rd_lit _ _ [0] (by rfl) (by simp) 1 _ (by rfl) (by first | rfl | (simp; done))) ((Ext.refl _).alloc _).drew | exact Rd.ext (rd_lit _ _ [0] (by rfl) (by simp) 1 _ (by rfl) (by first | rfl | (simp; done))) (((Ext.refl _).alloc _).alloc _).drew | (refine Rd.ext ?_ hx3; (first | exact rd_lit _ _ [0] (by rfl) (by simp) 1 _ (by rfl) (by first | rfl | (simp; done)) | exact Rd.ext (rd_lit _ _ [0] (by rfl) (by simp) 1 _ (by rfl) (by first | rfl | (simp; done))) ((Ext.refl _).alloc _) | exact Rd.ext (rd_lit _ _ [0] (by rfl) (by simp) 1 _ (by rfl) (by first | rfl | (simp; done))) (((Ext.refl _).alloc _).alloc _) | exact Rd.ext (rd_lit _ _ [0] (by rfl) (by simp) 1 _ (by rfl) (by first | rfl | (simp; done))) (Ext.refl _).drew | exact Rd.ext (rd_lit _ _ [0] (by rfl) (by simp) 1 _ (by rfl) (by first | rfl | (simp; done))) ((Ext.refl _).alloc _).drew | exact Rd.ext (rd_lit _ _ [0] (by rfl) (by simp) 1 _ (by rfl) (by first | rfl | (simp; done))) (((Ext.refl _).alloc _).alloc _).drew | (refine rd_far ?_ hg2 (by simp [Value.ownBlock]); (first | exact rd_lit _ _ [0] (by rfl) (by simp) 1 _ (by rfl) (by first | rfl | (simp; done)) | exact Rd.ext (rd_lit _ _ [0] (by rfl) (by simp) 1 _ (by rfl) (by first | rfl | (simp; done))) ((Ext.refl _).alloc _) | exact Rd.ext (rd_lit _ _ [0] (by rfl) (by simp) 1 _ (by rfl) (by first | rfl | (simp; done))) (((Ext.refl _).alloc _).alloc _) | exact Rd.ext (rd_lit _ _ [0] (by rfl) (by simp) 1 _ (by rfl) (by first | rfl | (simp; done))) (Ext.refl _).drew | exact Rd.ext (rd_lit _ _ [0] (by rfl) (by simp) 1 _ (by rfl) (by first | rfl | (simp; done))) ((Ext.refl _).alloc _).drew | exact Rd.ext (rd_lit _ _ [0] (by rfl) (by simp) 1 _ (by rfl) (by first | rfl | (simp; done))) (((Ext.refl _).alloc _).alloc _).drew)))))))); intro v5 w5 ho5 hb5 hg5; replace hE : Ext wT w5 := Ext.below (by repeat' (first | exact hE | (with_reducible refine Ext.drew ?_) | (with_reducible refine Ext.alloc ?_ _))) hb5 (Nat.le_refl _)))
      | fail)
  all_goals
    have HE := Lib.hid (HX.out.trans hE)
    have e4 : [] ++ [254] ++ (pl ++ [0]) ++ n ++ [0] = switchB (pl, n) := by simp [switchB]
    rw [e4] at ho5
    have HO := Lib.hid ho5
    clear e4
    go_wp2_with fail
    go_ret2
    exact ⟨_, rfl, HO.out.more (Ext.size HX.out), HE.out⟩
end Go.Proofs.YtbodppfpmpmadaaGreat

