/- TrackBytes: the walk. -/
import Derived.Test.YtdjnjhlgpflcjaaTrP
import Derived.Deep.RegionHeld3
namespace Go.Proofs.Ytdjnjhlgpflcjaa
open Go.RowKit

theorem Box.hold3 {W0 W : World} {g : Nat} {a b c : Value} (h : Box W0 g [a, b, c]) (e : Ext W0 W) : W.cell? ⟨g, 0, none⟩ = some a ∧ W.cell? ⟨g, 1, none⟩ = some b ∧ W.cell? ⟨g, 2, none⟩ = some c ∧ Ext W0 W :=
  ⟨h.one (j := 0) rfl e, h.one (j := 1) rfl e, h.one (j := 2) rfl e, e⟩

set_option maxRecDepth 100000 in
set_option maxHeartbeats 4000000 in
theorem trackBytes_c (w : World) (va vb : Value) (la lb : List UInt8) (k : Int) (n x : List UInt8) (ha : Rd w va la) (hb : Rd w vb lb) :
    Calls Try.prog 4 #[va, .agg #[.int .i64 k, .string (strL n), .string (strL x)], vb] w (RetTrue w) := by
  have HA := Lib.hid ha
  have HB := Lib.hid hb
  obtain ⟨A, ca, rfl, _⟩ := ha
  obtain ⟨B, cb, rfl, _⟩ := hb
  by_cases h1 : 5000 < (la.length : Int)
  · go_enter Try.func4, Try.ntmps4
    go_wp2_with (first
      | (go_at_call 7; refine (lives23_c _).mono ?_; rintro e w1 ⟨rfl, hx1⟩; have hE := (((Ext.refl w).alloc _).trans hx1))
      | fail)
    go_ret
    exact ⟨rfl, hE⟩
  by_cases h2 : 5000 < ((strL n).size : Int)
  · go_enter Try.func4, Try.ntmps4
    go_wp2_with (first
      | (go_at_call 7; refine (lives23_c _).mono ?_; rintro e w1 ⟨rfl, hx1⟩; have hE := (((Ext.refl w).alloc _).trans hx1); obtain ⟨c0, c1, c2⟩ := ((BoxF.new w [.int .i64 k, .string (strL n), .string (strL x)] 28).ext hx1).c3)
      | fail)
    go_ret
    exact ⟨rfl, hE⟩
  by_cases h3 : 5000 < ((strL x).size : Int)
  · go_enter Try.func4, Try.ntmps4
    go_wp2_with (first
      | (go_at_call 7; refine (lives23_c _).mono ?_; rintro e w1 ⟨rfl, hx1⟩; have hE := (((Ext.refl w).alloc _).trans hx1); obtain ⟨c0, c1, c2⟩ := ((BoxF.new w [.int .i64 k, .string (strL n), .string (strL x)] 28).ext hx1).c3)
      | fail)
    go_ret
    exact ⟨rfl, hE⟩
  by_cases h4 : 5000 < (lb.length : Int)
  · go_enter Try.func4, Try.ntmps4
    go_wp2_with (first
      | (go_at_call 7; refine (lives23_c _).mono ?_; rintro e w1 ⟨rfl, hx1⟩; have hE := (((Ext.refl w).alloc _).trans hx1); obtain ⟨c0, c1, c2⟩ := ((BoxF.new w [.int .i64 k, .string (strL n), .string (strL x)] 28).ext hx1).c3)
      | fail)
    go_ret
    exact ⟨rfl, hE⟩
  have hn : n.length ≤ 10000 := by rw [← strL_size]; omega
  have hx : x.length ≤ 10000 := by rw [← strL_size]; omega
  obtain ⟨R, E, hA⟩ : ∃ R E, appR la (k, n, x) = (R, E) := ⟨_, _, rfl⟩
  obtain ⟨Q, G, hQ⟩ : ∃ Q G, readCs lb = (Q, G) := ⟨_, _, rfl⟩
  have A1 : ∀ w v, Rd w v la → Calls Try.prog 8 #[v, .agg #[.int .i64 k, .string (strL n), .string (strL x)]] w (RetBE w R E) := fun w v hr => by
    have := append_g w v la k n x hr hn hx (by omega); rwa [hA] at this
  have A2 : ∀ w v, Rd w v la → Calls Try.prog 15 #[v, .agg #[.int .i64 k, .string (strL n), .string (strL x)]] w (RetBE w R E) := fun w v hr => by
    have := append_r w v la k n x hr hn hx (by omega); rwa [hA] at this
  have R1 : ∀ w v, Rd w v lb → Calls Try.prog 9 #[v] w (RetRead w (Q, G)) := fun w v hr => by
    have := read_g w v lb hr (by omega); rwa [hQ] at this
  have R2 : ∀ w v, Rd w v lb → Calls Try.prog 16 #[v] w (RetRead w (Q, G)) := fun w v hr => by
    have := read_r w v lb hr (by omega); rwa [hQ] at this
  have A1 := Lib.hid A1
  have A2 := Lib.hid A2
  have R1 := Lib.hid R1
  have R2 := Lib.hid R2
  clear hn hx hA hQ
  go_enter Try.func4, Try.ntmps4
  go_wp2_with (first
    | (go_at_call 7; refine (lives23_c _).mono ?_; rintro e w1 ⟨rfl, hx1⟩; have hE1 := (((Ext.refl w).alloc _).trans hx1); have B1 := ((BoxF.new w [.int .i64 k, .string (strL n), .string (strL x)] 28).ext hx1); obtain ⟨c0, c1, c2⟩ := B1.c3)
    | fail)
  clear c0 c1 c2
  have hbox := B1.box
  have ra := HA.out.ext hE1
  have rb := HB.out.ext hE1
  have hE := Ext.refl w1
  clear B1 hx1
  go_region_held3 (fun W' => W'.cell? ⟨w.heap.size, 0, none⟩ = some (.int .i64 k) ∧ W'.cell? ⟨w.heap.size, 1, none⟩ = some (.string (strL n)) ∧ W'.cell? ⟨w.heap.size, 2, none⟩ = some (.string (strL x)) ∧ Ext w1 W') (first | exact hbox.hold3 hE | exact hbox.hold3 hE.drew | exact hbox.hold3 (hE.alloc _) | exact hbox.hold3 (hE.alloc _).drew | fail)
    (first
      | ((with_reducible show (if Region.wanted (⟨some 40, _, _, _, _, _⟩ : Oper) _ = true then _ else _)); refine step_append_rdg bt ((own_nil w1 w1.heap.size w1.heap.size rfl hE.size).ext (Ext.refl _).drew) (ra.ext ((hE.alloc _).drew)) (by rfl) _ _ (by rfl) (by rfl) (by rfl) (by simp; omega) (by first | (simp; done) | (simp; omega)) ?_; intro v2 w2 ho2 hb2 hg2; replace hE := ((hE.alloc _).drew).below hb2 (Nat.le_refl _))
      | (go_at_call 8; refine (A1.out _ _ (by have := ho2.rd; rwa [List.nil_append] at this)).mono ?_; rintro e w3 ⟨v3, rfl, ho3, hx3⟩; have r3 := ho3.rd; clear ho3; replace hE := hE.trans hx3)
      | fail)
  all_goals
    obtain ⟨c0, c1, c2, _⟩ := hbox.hold3 hE
    go_wp2_with (first
      | (go_at_call 15; refine (A2.out _ _ (ra.ext hE)).mono ?_; rintro e w4 ⟨v4, rfl, ho4, hx4⟩; have hE4 := hE.trans hx4; have r3' := r3.ext hx4; have r4 := ho4.rd; clear ho4 c0 c1 c2)
      | ((with_reducible show wpList _ _ _ (⟨some 54, _, _, _, _, _⟩ :: _) _ _); refine wpl_append_rd bt (own_nil w4 w4.heap.size w4.heap.size rfl (Nat.le_refl _)) ((rb.ext hE4).ext ((Ext.refl _).alloc _)) rfl _ _ rfl rfl rfl (by simp; omega) (by simp) ?_; intro v5 w5 ho5 hb5; have hx5 : Ext w4 w5 := ((Ext.refl w4).alloc _).below hb5 (Nat.le_refl _); have r5 := ho5.rd; rw [List.nil_append] at r5; clear ho5)
      | (go_at_call 9; refine (R1.out _ _ r5).mono ?_; rintro e w6 ⟨v6, rfl, ho6, hx6⟩; have q6 := ho6.rec; clear ho6)
      | (go_at_call 16; refine (R2.out _ _ (rb.ext ((hE4.trans hx5).trans hx6))).mono ?_; rintro e w7 ⟨v7, rfl, ho7, hx7⟩; have q7 := ho7.rec; have hx47 := (hx5.trans hx6).trans hx7; replace q6 := q6.ext hx7; clear ho7)
      | (go_at_call 12; refine (same_c _ _ _ _ _ (r3'.ext hx47) (r4.ext hx47) true (by simp)).mono ?_; rintro e w8 ⟨rfl, rfl⟩)
      | (go_at_call 17; refine (same_t _ _ _ _ q6 q7).mono ?_; rintro e w9 ⟨rfl, hx9⟩)
      | fail)
    go_ret
    exact ⟨rfl, hE1.trans ((hE4.trans hx47).trans hx9)⟩
end Go.Proofs.Ytdjnjhlgpflcjaa
