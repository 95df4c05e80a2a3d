/- TrackPlain: the walk, any. -/
import Derived.Test.YtdjnjhlgpflcjaaTrX1
import Derived.Test.YtdjnjhlgpflcjaaTrX2
namespace Go.Proofs.Ytdjnjhlgpflcjaa
open Go.RowKit

theorem varsAt_of {w : World} {A : Option Addr} {n c : Nat} {vs : List (ByteArray × ByteArray)} (h : Recs w 2 (.slice A n c) (varsC vs)) : n = vs.length ∧ n ≤ c ∧ c ≤ maxLen ∧ VarsAt w A n (fun k => (vs.getD k v00).1) (fun k => (vs.getD k v00).2) := by
  obtain ⟨A', c', hv, h1, h2, h3⟩ := h
  injection hv with e1 e2 e3
  subst e1 e3
  rw [varsC_length] at e2 h1
  subst e2
  refine ⟨rfl, h1, h2, fun h0 => ?_⟩
  obtain ⟨b, o, hA, hc⟩ := h3 (by intro e; have := congrArg List.length e; rw [varsC_length, List.length_nil] at this; omega)
  refine ⟨b, o, hA, fun k hk => ?_⟩
  have := hc k (by rw [varsC_length]; exact hk)
  rw [varsC_getD _ _ hk] at this
  exact ⟨this 0 _ rfl, this 1 _ rfl⟩
theorem ckU_two (n m : Nat) (f g : Nat → ByteArray) : ckU n m f g = 0 ∨ ckU n m f g = 2 := by
  unfold ckU
  split
  · exact .inl rfl
  · exact .inr rfl
def CkIs (w : World) (cs : List Value) (r : Int) : Prop := ∀ w', Ext w w' → Calls Try.prog 18 #[.agg cs.toArray] w' fun e w'' => e = .returned (.int .i64 r) ∧ Ext w' w''

set_option maxRecDepth 100000 in
set_option maxHeartbeats 4000000 in
theorem trackPlain_c (w : World) (s : ByteArray) (vv vt : Value) (tr us lk od : Bool) (vs : List (ByteArray × ByteArray)) (ts : List ByteArray) (wr : Bool) (st : Int)
    (hv : Recs w 2 vv (varsC vs)) (ht : Cells w vt ts.length (fun i => .string (ts.getD i ByteArray.empty))) :
    Calls Try.prog 6 #[.agg (trC s vv vt tr us lk od).toArray, .bool wr, .int .u16 st] w (RetTrue w) := by
  obtain ⟨Av, cv, hvv, _⟩ := id hv
  obtain ⟨At, ct, hvt, ht1, ht2, ht3⟩ := id ht
  obtain ⟨nv, hnv⟩ : ∃ nv, nv = (varsC vs).length := ⟨_, rfl⟩
  obtain ⟨nt, hnt⟩ : ∃ nt, nt = ts.length := ⟨_, rfl⟩
  rw [← hnv] at hvv
  rw [← hnt] at hvt ht1 ht3
  subst hvv hvt
  obtain ⟨hq0, hv1, hv2, hv3⟩ := varsAt_of hv
  clear hv ht hnv hnt hq0
  obtain ⟨f, hf⟩ : ∃ f : Nat → ByteArray, f = fun k => (vs.getD k v00).1 := ⟨_, rfl⟩
  obtain ⟨h, hh⟩ : ∃ h : Nat → ByteArray, h = fun k => (vs.getD k v00).2 := ⟨_, rfl⟩
  obtain ⟨g, hg⟩ : ∃ g : Nat → ByteArray, g = fun i => ts.getD i ByteArray.empty := ⟨_, rfl⟩
  rw [← hf, ← hh] at hv3
  have ht4 : StrsAt w At nt g := by rw [hg]; exact ht3
  clear ht3 hf hh hg
  have hck0 : CkIs w (trC s (.slice Av nv cv) (.slice At nt ct) tr us lk od) (ckU nv nt f g) := fun w' hx => check_any w' s Av At nv cv nt ct tr us lk od f g h ⟨hv1, hv2, hv3.ext hx⟩ ⟨ht1, ht2, ht4.ext hx⟩
  by_cases g1 : 200 < (nv : Int)
  · clear hck0 hv3 ht4
    go_enter Try.func6, Try.ntmps6
    go_wp2_with (first
      | (go_at_call 7; refine (lives23_c _).mono ?_; rintro e w1 ⟨rfl, hx1⟩; have B3 := (BoxF.new w (trC s (.slice Av nv cv) (.slice At nt ct) tr us lk od) 35).ext hx1; have hE : Ext w w1 := ((Ext.refl w).alloc _).trans hx1; obtain ⟨d0, d1, d2, d3, d4, d5, d6⟩ := B3.c7; clear hx1)
      | fail)
    go_ret
    exact ⟨rfl, hE⟩
  by_cases g2 : 200 < (nt : Int)
  · clear hck0 hv3 ht4
    go_enter Try.func6, Try.ntmps6
    go_wp2_with (first
      | (go_at_call 7; refine (lives23_c _).mono ?_; rintro e w1 ⟨rfl, hx1⟩; have B3 := (BoxF.new w (trC s (.slice Av nv cv) (.slice At nt ct) tr us lk od) 35).ext hx1; have hE : Ext w w1 := ((Ext.refl w).alloc _).trans hx1; obtain ⟨d0, d1, d2, d3, d4, d5, d6⟩ := B3.c7; clear hx1)
      | fail)
    go_ret
    exact ⟨rfl, hE⟩
  rcases ckU_two nv nt f g with hc | hc
  · rw [hc] at hck0
    have hbs : AnyBS w (.slice At nt ct) ⟨#[]⟩ := fun w' hx => bs_any w' At nt ct g ⟨#[]⟩ ⟨At, ct, rfl, ht1, ht2, ht4.ext hx⟩ (by omega)
    have hs2 : ∀ pb, (tr || us || lk || od || decide (0 < nt)) = pb → pb = false → ∀ w', Ext w w' → Calls Try.prog 19 #[.agg (trC s (.slice Av nv cv) (.slice At nt ct) tr us lk od).toArray, .agg (trC s (.slice Av nv cv) nilV false false false false).toArray] w' (RetTrue w') := by
      intro pb hp hpb w' hx
      subst hpb
      simp at hp
      obtain ⟨⟨⟨⟨rfl, rfl⟩, rfl⟩, rfl⟩, rfl⟩ := hp
      exact same_tt w' s Av At none nv cv 0 ct 0 false false false false f h g (by omega) (by omega) (hv3.ext hx) (ht4.ext hx) (fun h0 => absurd h0 (by omega))
    cases wr
    · exact plain_1 w s Av At nv cv nt ct tr us lk od st f h g (by omega) (by omega) _ rfl hv3 ht4 hck0 hbs (hs2 _ rfl)
    · exact plain_2 w s Av At nv cv nt ct tr us lk od st f h g (by omega) (by omega) _ rfl hv3 ht4 hck0 hbs (hs2 _ rfl)
  · rw [hc] at hck0
    have HCK := Lib.hid hck0
    clear hck0 hv3 ht4
    go_enter Try.func6, Try.ntmps6
    go_wp2_with (first
      | (go_at_call 7; refine (lives23_c _).mono ?_; rintro e w1 ⟨rfl, hx1⟩; have B3 := (BoxF.new w (trC s (.slice Av nv cv) (.slice At nt ct) tr us lk od) 35).ext hx1; have hE : Ext w w1 := ((Ext.refl w).alloc _).trans hx1; obtain ⟨d0, d1, d2, d3, d4, d5, d6⟩ := B3.c7; clear hx1)
      | (go_at_call 18; refine (HCK.out _ hE).mono ?_; rintro e w2 ⟨rfl, hx2⟩; replace hE := hE.trans hx2)
      | fail)
    go_ret
    exact ⟨rfl, hE⟩
end Go.Proofs.Ytdjnjhlgpflcjaa
