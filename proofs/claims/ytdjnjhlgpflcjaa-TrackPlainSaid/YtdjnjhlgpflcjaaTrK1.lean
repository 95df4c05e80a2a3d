/- replied, class 1 (printed by gen_trK.py) -/
import Derived.Test.YtdjnjhlgpflcjaaTrK
namespace Go.Proofs.Ytdjnjhlgpflcjaa
open Go.RowKit

set_option maxRecDepth 100000 in
set_option maxHeartbeats 4000000 in
theorem replied_1 (w : World) (s : ByteArray) (Av At : Option Addr) (nv cv nt ct : Nat) (tr us lk od : Bool) (nm vl : ByteArray) (st : Int) (b : Bool) (hb : inTrans st = b) (hck : AnyCk w (trC s (.slice Av nv cv) (.slice At nt ct) tr us lk od)) (hbs : AnyBS w (.slice At nt ct) nm) :
    Calls Try.prog 10 #[.agg (trC s (.slice Av nv cv) (.slice At nt ct) tr us lk od).toArray, .agg #[.int .i64 1, .string nm, .string vl], .agg (okV st).toArray] w fun e w' => e = .returned (.tuple #[.agg (trC s (.slice Av nv cv) (.slice At nt ct) b us lk od).toArray, .int .i64 0]) ∧ Ext w w' := by
  have HB := Lib.hid hb
  have HCK := Lib.hid hck
  have HBS := Lib.hid hbs
  clear hb hck hbs
  go_enter Try.func10, Try.ntmps10
  go_wp2_with (first
    | (go_at_call 18; refine (HCK.out _ (((((Ext.refl w).alloc _).alloc _).alloc _).alloc _)).mono ?_; rintro e w1 ⟨rfl, hx1⟩; obtain ⟨B1, C1, D1, E1, hE1⟩ := four_rows w w1 (trC s (.slice Av nv cv) (.slice At nt ct) tr us lk od) [.int .i64 1, .string nm, .string vl] (okV st) tr0 _ _ _ _ _ _ _ _ rfl rfl rfl rfl hx1; clear hx1; have d5 := D1.at (j := 5) rfl)
    | (go_at_call 9; refine (read_nil _).mono ?_; rintro e w2 ⟨A2, c2, rfl, hx2⟩; have B2 := B1.ext hx2; have C2 := C1.ext hx2; have D2 := D1.ext hx2; have E2 := E1.ext hx2; have hE2 := hE1.trans hx2; clear d5 B1 C1 D1 E1)
    | fail)
  obtain ⟨b0, b1, b2, b3, b4, b5, b6⟩ := B2.c7
  obtain ⟨c0, c1, c2'⟩ := C2.c3
  have d2 := D2.at (j := 2) rfl
  go_region_with (first
    | (go_at_call 25; refine (made_1 _ s Av At nv cv nt ct tr us lk od nm vl (fun w9 h9 => HBS.out w9 ((hE2.drew).trans h9))).mono ?_; rintro e w3 ⟨rfl, hx3⟩; have B3 := (B2.ext (Ext.refl _).drew).ext hx3; have E3 := (E2.ext (Ext.refl _).drew).ext hx3; have d3 := ((D2.ext (Ext.refl _).drew).ext hx3).at (j := 2) rfl)
    | (go_at_call 14; refine (status_c _ s _ _ _ _ _ _ _ us _ _ st b HB.out).mono ?_; rintro e w4 ⟨rfl, hx4⟩; have B4 := B3.ext hx4; have E4 := E3.ext hx4; obtain ⟨g0, g1, g2, g3, g4, g5, g6⟩ := B4.c7; obtain ⟨f0, f1, f2, f3, f4, f5, f6⟩ := B4.f7)
    | fail)
  all_goals
    have B5 := B4.sets (ds := (trC s (.slice Av nv cv) (.slice At nt ct) b us lk od)) rfl
    have O5 := On.sets (g := w.heap.size) w4 0 (trC s (.slice Av nv cv) (.slice At nt ct) b us lk od)
    have E5 := E4.on O5 (by omega)
    have hE4 := (hE2.trans (Ext.refl w2).drew).trans (hx3.trans hx4)
    have hE5 := hE4.on O5 (Nat.le_refl _)
    obtain ⟨w5, hw5⟩ : ∃ w5, w5 = World.setCells w4 w.heap.size 0 (trC s (.slice Av nv cv) (.slice At nt ct) b us lk od) := ⟨_, rfl⟩
    rw [← hw5] at B5 E5 hE5
    change Exit.then _ _ _ _ (World.setCells w4 w.heap.size 0 (trC s (.slice Av nv cv) (.slice At nt ct) b us lk od))
    rw [← hw5]
    clear hw5 O5 hE4 B2 C2 D2 E2 hE2 b0 b1 b2 b3 b4 b5 b6 c0 c1 c2' d2 B3 E3 d3 B4 E4 g0 g1 g2 g3 g4 g5 g6 f0 f1 f2 f3 f4 f5 f6 hx2 hE1
    go_wp2_with fail
    go_loop [39] (fun i => i = .int .i64 0) (fun _ => 0)
    case atStart => rfl
    case round =>
      subst hrel
      go_wp2_with (first
        | ((with_reducible show wpList _ _ _ (⟨some 80, _, _, _, _, _⟩ :: _) _ _); refine wpl_load_box rfl _ _ rfl _ rfl B5 Try.underlying35 rfl (by kernel_rfl) ?_)
        | ((with_reducible show wpList _ _ _ (⟨none, Op.store _ _ _, _, _, _, _⟩ :: _) _ _); refine wpl_store_box rfl _ _ _ rfl _ (trC s (.slice Av nv cv) (.slice At nt ct) b us lk od) rfl rfl E5 rfl (by kernel_rfl) (by rfl) ?_; intro w6 E6 O6)
        | fail)
      try simp only [Exit.inBlock, Exit.then]
      refine ret_box rfl rfl rfl rfl E6 Try.underlying35 rfl (by kernel_rfl) ?_
      exact ⟨rfl, hE5.on O6 (by omega)⟩
end Go.Proofs.Ytdjnjhlgpflcjaa
