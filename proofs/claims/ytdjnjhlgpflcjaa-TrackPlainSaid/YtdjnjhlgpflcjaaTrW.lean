/- What is known twice is the same. -/
import Derived.Test.YtdjnjhlgpflcjaaTrU
import Derived.Test.YtdjnjhlgpflcjaaTrV
namespace Go.Proofs.Ytdjnjhlgpflcjaa
open Go.RowKit

def VarsAt (w : World) (A : Option Addr) (n : Nat) (f h : Nat → ByteArray) : Prop :=
  0 < n → ∃ b o, A = some ⟨b, o, none⟩ ∧ ∀ k, k < n → w.cell? ⟨b, o + k * 2, none⟩ = some (.string (f k)) ∧ w.cell? ⟨b, o + k * 2 + 1, none⟩ = some (.string (h k))
def StrsAt (w : World) (A : Option Addr) (n : Nat) (g : Nat → ByteArray) : Prop :=
  0 < n → ∃ b o, A = some ⟨b, o, none⟩ ∧ ∀ k, k < n → w.cell? ⟨b, o + k, none⟩ = some (.string (g k))
theorem VarsAt.ext {w w' : World} {A : Option Addr} {n : Nat} {f h : Nat → ByteArray} (H : VarsAt w A n f h) (k : Ext w w') : VarsAt w' A n f h := fun h0 => by
  obtain ⟨b, o, h1, h2⟩ := H h0
  exact ⟨b, o, h1, fun j hj => ⟨k.cell (h2 j hj).1, k.cell (h2 j hj).2⟩⟩
theorem StrsAt.ext {w w' : World} {A : Option Addr} {n : Nat} {g : Nat → ByteArray} (H : StrsAt w A n g) (k : Ext w w') : StrsAt w' A n g := fun h0 => by
  obtain ⟨b, o, h1, h2⟩ := H h0
  exact ⟨b, o, h1, fun j hj => k.cell (h2 j hj)⟩

set_option maxRecDepth 100000 in
set_option maxHeartbeats 1000000 in
theorem eqV_t (w : World) (A B : Option Addr) (n c d : Nat) (f h : Nat → ByteArray) (hn : n ≤ 1000) (hA : VarsAt w A n f h) (hB : VarsAt w B n f h) :
    Calls Try.prog 33 #[.slice A n c, .slice B n d] w (RetTrue w) := by
  have HA := Lib.hid hA
  have HB := Lib.hid hB
  clear hA hB
  go_enter Try.func33, Try.ntmps33
  go_wp2_with fail
  go_loopw [13] (fun i W => ∃ k : Nat, k ≤ n ∧ i = .int .i64 k ∧ Ext w W) (fun i _ => n - (intOf i).toNat)
  case atStart => exact ⟨0, Nat.zero_le _, rfl, Ext.refl _⟩
  case round =>
    obtain ⟨k, hk, rfl, hx⟩ := hrel
    by_cases hkN : k < n
    · have hbk : (k : Int) < (n : Int) := by omega
      obtain ⟨b0, o0, rfl, hp⟩ := HA.out (by omega)
      obtain ⟨b9, o9, rfl, hq⟩ := HB.out (by omega)
      obtain ⟨p0, p1⟩ := hp k hkN
      obtain ⟨q0, q1⟩ := hq k hkN
      generalize f k = x at p0 q0
      generalize h k = y at p1 q1
      clear hp hq
      replace p0 := hx.cell p0
      replace p1 := hx.cell p1
      replace q0 := hx.cell q0
      replace q1 := hx.cell q1
      go_wp2_with fail
      go_region
      all_goals
        go_wp2_with fail
        go_roundw
        case rel => exact ⟨k + 1, by omega, by go_num, hx.drew⟩
        case measure => simp [intOf]; omega
    · obtain rfl : k = n := by omega
      go_wp2_with fail
      go_ret
      exact ⟨rfl, hx⟩

set_option maxRecDepth 100000 in
set_option maxHeartbeats 1000000 in
theorem eqS_t (w : World) (A B : Option Addr) (n c d : Nat) (g : Nat → ByteArray) (hn : n ≤ 1000) (hA : StrsAt w A n g) (hB : StrsAt w B n g) :
    Calls Try.prog 34 #[.slice A n c, .slice B n d] w (RetTrue w) := by
  have HA := Lib.hid hA
  have HB := Lib.hid hB
  clear hA hB
  go_enter Try.func34, Try.ntmps34
  go_wp2_with fail
  go_loopw [13] (fun i W => ∃ k : Nat, k ≤ n ∧ i = .int .i64 k ∧ Ext w W) (fun i _ => n - (intOf i).toNat)
  case atStart => exact ⟨0, Nat.zero_le _, rfl, Ext.refl _⟩
  case round =>
    obtain ⟨k, hk, rfl, hx⟩ := hrel
    by_cases hkN : k < n
    · have hbk : (k : Int) < (n : Int) := by omega
      obtain ⟨b0, o0, rfl, hp⟩ := HA.out (by omega)
      obtain ⟨b9, o9, rfl, hq⟩ := HB.out (by omega)
      have p0 := hp k hkN
      have q0 := hq k hkN
      generalize g k = x at p0 q0
      clear hp hq
      replace p0 := hx.cell p0
      replace q0 := hx.cell q0
      go_wp2_with fail
      go_region
      all_goals
        go_wp2_with fail
        go_roundw
        case rel => exact ⟨k + 1, by omega, by go_num, hx.drew⟩
        case measure => simp [intOf]; omega
    · obtain rfl : k = n := by omega
      go_wp2_with fail
      go_ret
      exact ⟨rfl, hx⟩

set_option maxRecDepth 100000 in
set_option maxHeartbeats 2000000 in
theorem same_tt (w : World) (s : ByteArray) (Av At Bt : Option Addr) (nv cv nt ct dt : Nat) (tr us lk od : Bool) (f h g : Nat → ByteArray) (hnv : nv ≤ 1000) (hnt : nt ≤ 1000)
    (hv : VarsAt w Av nv f h) (ha : StrsAt w At nt g) (hb : StrsAt w Bt nt g) :
    Calls Try.prog 19 #[.agg (trC s (.slice Av nv cv) (.slice At nt ct) tr us lk od).toArray, .agg (trC s (.slice Av nv cv) (.slice Bt nt dt) tr us lk od).toArray] w (RetTrue w) := by
  have HV := Lib.hid hv
  have HA := Lib.hid ha
  have HB := Lib.hid hb
  clear hv ha hb
  go_enter Try.func19, Try.ntmps19
  go_wp2_with (first
    | (go_at_call 33; refine (eqV_t _ Av Av nv cv cv f h hnv (HV.out.ext (((Ext.refl w).alloc _).alloc _)) (HV.out.ext (((Ext.refl w).alloc _).alloc _))).mono ?_; rintro e w1 ⟨rfl, hx1⟩; obtain ⟨B1, B2, hE⟩ := two_rows w w1 (trC s (.slice Av nv cv) (.slice At nt ct) tr us lk od) (trC s (.slice Av nv cv) (.slice Bt nt dt) tr us lk od) _ _ _ _ rfl rfl hx1; obtain ⟨a0, a1, a2, a3, a4, a5, a6⟩ := B1.c7; obtain ⟨b0, b1, b2, b3, b4, b5, b6⟩ := B2.c7; clear hx1)
    | (go_at_call 34; refine (eqS_t _ At Bt nt ct dt g hnt (HA.out.ext hE) (HB.out.ext hE)).mono ?_; rintro e w2 ⟨rfl, hx2⟩; replace hE := hE.trans hx2; clear a0 a1 a2 a3 a4 a5 a6 b0 b1 b2 b3 b4 b5 b6; obtain ⟨a0, a1, a2, a3, a4, a5, a6⟩ := (B1.ext hx2).c7; obtain ⟨b0, b1, b2, b3, b4, b5, b6⟩ := (B2.ext hx2).c7)
    | fail)
  go_ret
  exact ⟨rfl, hE⟩
end Go.Proofs.Ytdjnjhlgpflcjaa
