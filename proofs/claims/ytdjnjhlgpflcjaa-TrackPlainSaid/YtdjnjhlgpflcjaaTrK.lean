/- What is known behind a statement that went well. (Printed by gen_trK.py.) -/
import Derived.Test.YtdjnjhlgpflcjaaTrJ
namespace Go.Proofs.Ytdjnjhlgpflcjaa
open Go.RowKit

theorem four_rows (w w3 : World) (l1 l2 l3 l4 : List Value) (t1 t2 t3 t4 : TypeId) (c1 c2 c3 c4 : Array Value) (h1 : c1 = l1.toArray) (h2 : c2 = l2.toArray) (h3 : c3 = l3.toArray) (h4 : c4 = l4.toArray)
    (hx : Ext ((((w.alloc (.cells c1 t1)).alloc (.cells c2 t2)).alloc (.cells c3 t3)).alloc (.cells c4 t4)) w3) :
    BoxF w3 w.heap.size l1 ∧ BoxF w3 (w.heap.size + 1) l2 ∧ BoxF w3 (w.heap.size + 2) l3 ∧ BoxF w3 (w.heap.size + 3) l4 ∧ Ext w w3 := by
  subst h1 h2 h3 h4
  have D := BoxF.new2 (w.alloc (.cells l1.toArray t1)) (.cells l2.toArray t2) (.cells l3.toArray t3) l4 t4
  have C := BoxF.new2 w (.cells l1.toArray t1) (.cells l2.toArray t2) l3 t3
  have B := BoxF.new1 w (.cells l1.toArray t1) l2 t2
  have A := BoxF.new w l1 t1
  rw [show (w.alloc (.cells l1.toArray t1)).heap.size + 2 = w.heap.size + 3 by simp] at D
  exact ⟨(((A.ext ((Ext.refl _).alloc _)).ext ((Ext.refl _).alloc _)).ext ((Ext.refl _).alloc _)).ext hx, ((B.ext ((Ext.refl _).alloc _)).ext ((Ext.refl _).alloc _)).ext hx, (C.ext ((Ext.refl _).alloc _)).ext hx, D.ext hx, ((((Ext.refl w).alloc _).alloc _).alloc _).alloc _ |>.trans hx⟩
abbrev okV (st : Int) : List Value := [.int .u64 0, .int .u64 0, .int .u16 st, .int .u16 0, .string ⟨#[]⟩, nilV]
abbrev tr0 : List Value := trC ⟨#[]⟩ nilV nilV false false false false
theorem BoxF.c7 {W : World} {g : Nat} {a b c d e f h : Value} (H : BoxF W g [a, b, c, d, e, f, h]) : W.cell? ⟨g, 0, none⟩ = some a ∧ W.cell? ⟨g, 1, none⟩ = some b ∧ W.cell? ⟨g, 2, none⟩ = some c ∧ W.cell? ⟨g, 3, none⟩ = some d ∧ W.cell? ⟨g, 4, none⟩ = some e ∧ W.cell? ⟨g, 5, none⟩ = some f ∧ W.cell? ⟨g, 6, none⟩ = some h :=
  ⟨H.at (j := 0) rfl, H.at (j := 1) rfl, H.at (j := 2) rfl, H.at (j := 3) rfl, H.at (j := 4) rfl, H.at (j := 5) rfl, H.at (j := 6) rfl⟩
theorem BoxF.f7 {W : World} {g : Nat} {a b c d e f h : Value} (H : BoxF W g [a, b, c, d, e, f, h]) : W.frozen? ⟨g, 0, none⟩ = false ∧ W.frozen? ⟨g, 1, none⟩ = false ∧ W.frozen? ⟨g, 2, none⟩ = false ∧ W.frozen? ⟨g, 3, none⟩ = false ∧ W.frozen? ⟨g, 4, none⟩ = false ∧ W.frozen? ⟨g, 5, none⟩ = false ∧ W.frozen? ⟨g, 6, none⟩ = false :=
  ⟨H.free 0 (by simp), H.free 1 (by simp), H.free 2 (by simp), H.free 3 (by simp), H.free 4 (by simp), H.free 5 (by simp), H.free 6 (by simp)⟩
theorem read_nil (w : World) : Calls Try.prog 9 #[nilV] w fun e w' => ∃ A c, e = .returned (.tuple #[.slice A 0 c, .int .i64 0]) ∧ Ext w w' := by
  refine (read_g w _ [] (Rd.nil w) (by simp)).mono ?_
  rintro e w' ⟨v, rfl, ho, hx⟩
  obtain ⟨A, c, rfl, _⟩ := ho.shape
  exact ⟨A, c, rfl, hx⟩
def AnyCk (w : World) (cs : List Value) : Prop := ∀ w', Ext w w' → Calls Try.prog 18 #[.agg cs.toArray] w' fun e w'' => e = .returned (.int .i64 0) ∧ Ext w' w''

set_option maxRecDepth 100000 in
set_option maxHeartbeats 4000000 in
theorem replied_set (w : World) (s : ByteArray) (st : Int) (b : Bool) (hb : inTrans st = b) (hck : AnyCk w (trC s nilV nilV false false false false)) :
    Calls Try.prog 10 #[.agg (trC s nilV nilV false false false false).toArray, .agg #[.int .i64 5, .string ⟨#[97]⟩, .string ⟨#[49]⟩], .agg (okV st).toArray] w fun e w' => ∃ A c, e = .returned (.tuple #[.agg (trC s (.slice A 1 c) nilV b false false false).toArray, .int .i64 0]) ∧ OwnV w' w.heap.size (.slice A 1 c) [[.string ⟨#[97]⟩, .string ⟨#[49]⟩]] ∧ Ext w w' := by
  have HB := Lib.hid hb
  have HCK := Lib.hid hck
  clear hb hck
  go_enter Try.func10, Try.ntmps10
  go_wp2_with (first
    | (go_at_call 18; refine (HCK.out _ (((((Ext.refl w).alloc _).alloc _).alloc _).alloc _)).mono ?_; rintro e w1 ⟨rfl, hx1⟩; obtain ⟨B1, C1, D1, E1, hE1⟩ := four_rows w w1 (trC s nilV nilV false false false false) [.int .i64 5, .string ⟨#[97]⟩, .string ⟨#[49]⟩] (okV st) tr0 _ _ _ _ _ _ _ _ rfl rfl rfl rfl hx1; clear hx1; have d5 := D1.at (j := 5) rfl)
    | (go_at_call 9; refine (read_nil _).mono ?_; rintro e w2 ⟨A2, c2, rfl, hx2⟩; have B2 := B1.ext hx2; have C2 := C1.ext hx2; have D2 := D1.ext hx2; have E2 := E1.ext hx2; have hE2 := hE1.trans hx2; clear d5 B1 C1 D1 E1)
    | fail)
  obtain ⟨b0, b1, b2, b3, b4, b5, b6⟩ := B2.c7
  obtain ⟨c0, c1, c2'⟩ := C2.c3
  have d2 := D2.at (j := 2) rfl
  go_region_with (first
    | (go_at_call 25; refine (made_set _ s).mono ?_; rintro e w3 ⟨A3, c3, rfl, ho3, hx3⟩; have B3 := (B2.ext (Ext.refl _).drew).ext hx3; have E3 := (E2.ext (Ext.refl _).drew).ext hx3; have d3 := ((D2.ext (Ext.refl _).drew).ext hx3).at (j := 2) rfl)
    | (go_at_call 14; refine (status_c _ s _ _ _ _ _ _ _ false _ _ st b HB.out).mono ?_; rintro e w4 ⟨rfl, hx4⟩; have B4 := B3.ext hx4; have E4 := E3.ext hx4; obtain ⟨g0, g1, g2, g3, g4, g5, g6⟩ := B4.c7; obtain ⟨f0, f1, f2, f3, f4, f5, f6⟩ := B4.f7)
    | fail)
  all_goals
    have B5 := B4.sets (ds := (trC s (.slice A3 1 c3) nilV b false false false)) rfl
    have O5 := On.sets (g := w.heap.size) w4 0 (trC s (.slice A3 1 c3) nilV b false false false)
    have E5 := E4.on O5 (by omega)
    have hE4 := (hE2.trans (Ext.refl w2).drew).trans (hx3.trans hx4)
    have hE5 := hE4.on O5 (Nat.le_refl _)
    have ho5 := OwnR.on (OwnR.ext ho3 hx4) O5 (show w.heap.size < w2.heap.size from B2.lt)
    have hsz2 : w.heap.size + 3 < w2.heap.size := E2.lt
    obtain ⟨w5, hw5⟩ : ∃ w5, w5 = World.setCells w4 w.heap.size 0 (trC s (.slice A3 1 c3) nilV b false false false) := ⟨_, rfl⟩
    rw [← hw5] at B5 E5 hE5 ho5
    change Exit.then _ _ _ _ (World.setCells w4 w.heap.size 0 (trC s (.slice A3 1 c3) nilV b false false false))
    rw [← hw5]
    clear hw5 O5 hE4 B2 C2 D2 E2 hE2 b0 b1 b2 b3 b4 b5 b6 c0 c1 c2' d2 B3 E3 d3 B4 E4 g0 g1 g2 g3 g4 g5 g6 f0 f1 f2 f3 f4 f5 f6 hx2 hE1
    go_wp2_with fail
    go_loop [39] (fun i => i = .int .i64 0) (fun _ => 0)
    case atStart => rfl
    case round =>
      subst hrel
      go_wp2_with (first
        | ((with_reducible show wpList _ _ _ (⟨some 80, _, _, _, _, _⟩ :: _) _ _); refine wpl_load_box rfl _ _ rfl _ rfl B5 Try.underlying35 rfl (by kernel_rfl) ?_)
        | ((with_reducible show wpList _ _ _ (⟨none, Op.store _ _ _, _, _, _, _⟩ :: _) _ _); refine wpl_store_box rfl _ _ _ rfl _ (trC s (.slice A3 1 c3) nilV b false false false) rfl rfl E5 rfl (by kernel_rfl) (by rfl) ?_; intro w6 E6 O6)
        | fail)
      try simp only [Exit.inBlock, Exit.then]
      refine ret_box rfl rfl rfl rfl E6 Try.underlying35 rfl (by kernel_rfl) ?_
      exact ⟨A3, c3, rfl, OwnR.more (OwnR.on ho5 O6 hsz2) (show w.heap.size ≤ w2.heap.size by omega), hE5.on O6 (by omega)⟩
end Go.Proofs.Ytdjnjhlgpflcjaa
