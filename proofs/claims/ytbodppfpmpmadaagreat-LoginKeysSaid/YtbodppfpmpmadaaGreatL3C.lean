import Derived.Test.YtbodppfpmpmadaaGreatL1C
import Derived.WalkKit
import Derived.WalkSpells
import Derived.Lib.Hide
import Derived.Laws.BitsAllLaws
import Derived.Test.YtbodppfpmpmadaaGreatL2C
import Derived.SizedLaws
import Derived.Deep.Slices
namespace Go.Proofs.YtbodppfpmpmadaaGreat
open Go.RowKit

def rolS (x : Int) (n : Nat) : Int := bits .or .u32 (IntKind.u32.wrap (x * 2 ^ n)) (x / 2 ^ (32 - n))

set_option maxRecDepth 100000 in
theorem rotl_1 (w : World) (x : Int) :
    Calls Tryz.prog 218 #[.int .u32 x, .int .i64 (1)] w fun e w' => e = .returned (.int .u32 (rolS x 1)) ∧ w = w' := by
  have hb : bits .and .u64 1 31 = 1 := by decide
  go_enter Tryz.func218, Tryz.ntmps218
  go_wp2_with fail
  go_ret
  exact ⟨rfl, rfl⟩
theorem rol_1 (w : World) (x : Int) :
    Calls Tryz.prog 213 #[.int .u32 x, .int .u64 1] w fun e w' => e = .returned (.int .u32 (rolS x 1)) ∧ w = w' := by
  go_enter Tryz.func213, Tryz.ntmps213
  go_wp2_with fail
  go_ret
  exact ⟨rfl, rfl⟩

set_option maxRecDepth 100000 in
theorem rotl_5 (w : World) (x : Int) :
    Calls Tryz.prog 218 #[.int .u32 x, .int .i64 (5)] w fun e w' => e = .returned (.int .u32 (rolS x 5)) ∧ w = w' := by
  have hb : bits .and .u64 5 31 = 5 := by decide
  go_enter Tryz.func218, Tryz.ntmps218
  go_wp2_with fail
  go_ret
  exact ⟨rfl, rfl⟩
theorem rol_5 (w : World) (x : Int) :
    Calls Tryz.prog 213 #[.int .u32 x, .int .u64 5] w fun e w' => e = .returned (.int .u32 (rolS x 5)) ∧ w = w' := by
  go_enter Tryz.func213, Tryz.ntmps213
  go_wp2_with fail
  go_ret
  exact ⟨rfl, rfl⟩

set_option maxRecDepth 100000 in
theorem rotl_30 (w : World) (x : Int) :
    Calls Tryz.prog 218 #[.int .u32 x, .int .i64 (30)] w fun e w' => e = .returned (.int .u32 (rolS x 30)) ∧ w = w' := by
  have hb : bits .and .u64 30 31 = 30 := by decide
  go_enter Tryz.func218, Tryz.ntmps218
  go_wp2_with fail
  go_ret
  exact ⟨rfl, rfl⟩
theorem rol_30 (w : World) (x : Int) :
    Calls Tryz.prog 213 #[.int .u32 x, .int .u64 30] w fun e w' => e = .returned (.int .u32 (rolS x 30)) ∧ w = w' := by
  go_enter Tryz.func213, Tryz.ntmps213
  go_wp2_with fail
  go_ret
  exact ⟨rfl, rfl⟩

set_option maxRecDepth 100000 in
theorem rotlm_25 (w : World) (x : Int) :
    Calls Tryz.prog 218 #[.int .u32 x, .int .i64 (-7)] w fun e w' => e = .returned (.int .u32 (rolS x 25)) ∧ w = w' := by
  have hb : bits .and .u64 18446744073709551609 31 = 25 := by decide
  have hw : IntKind.u64.wrap ((-7)) = 18446744073709551609 := by decide
  go_enter Tryz.func218, Tryz.ntmps218
  go_wp2_with fail
  go_ret
  exact ⟨rfl, rfl⟩
theorem ror_25 (w : World) (x : Int) :
    Calls Tryz.prog 219 #[.int .u32 x, .int .i64 7] w fun e w' => e = .returned (.int .u32 (rolS x 25)) ∧ w = w' := by
  go_enter Tryz.func219, Tryz.ntmps219
  go_wp2_with (go_at_call 218; refine (rotlm_25 _ _).mono ?_; rintro e w1 ⟨rfl, rfl⟩)
  go_ret
  exact ⟨rfl, rfl⟩
theorem rol_25 (w : World) (x : Int) :
    Calls Tryz.prog 213 #[.int .u32 x, .int .u64 25] w fun e w' => e = .returned (.int .u32 (rolS x 25)) ∧ w = w' := by
  go_enter Tryz.func213, Tryz.ntmps213
  go_wp2_with fail
  go_ret
  exact ⟨rfl, rfl⟩

set_option maxRecDepth 100000 in
theorem rotlm_14 (w : World) (x : Int) :
    Calls Tryz.prog 218 #[.int .u32 x, .int .i64 (-18)] w fun e w' => e = .returned (.int .u32 (rolS x 14)) ∧ w = w' := by
  have hb : bits .and .u64 18446744073709551598 31 = 14 := by decide
  have hw : IntKind.u64.wrap ((-18)) = 18446744073709551598 := by decide
  go_enter Tryz.func218, Tryz.ntmps218
  go_wp2_with fail
  go_ret
  exact ⟨rfl, rfl⟩
theorem ror_14 (w : World) (x : Int) :
    Calls Tryz.prog 219 #[.int .u32 x, .int .i64 18] w fun e w' => e = .returned (.int .u32 (rolS x 14)) ∧ w = w' := by
  go_enter Tryz.func219, Tryz.ntmps219
  go_wp2_with (go_at_call 218; refine (rotlm_14 _ _).mono ?_; rintro e w1 ⟨rfl, rfl⟩)
  go_ret
  exact ⟨rfl, rfl⟩
theorem rol_14 (w : World) (x : Int) :
    Calls Tryz.prog 213 #[.int .u32 x, .int .u64 14] w fun e w' => e = .returned (.int .u32 (rolS x 14)) ∧ w = w' := by
  go_enter Tryz.func213, Tryz.ntmps213
  go_wp2_with fail
  go_ret
  exact ⟨rfl, rfl⟩

set_option maxRecDepth 100000 in
theorem rotlm_15 (w : World) (x : Int) :
    Calls Tryz.prog 218 #[.int .u32 x, .int .i64 (-17)] w fun e w' => e = .returned (.int .u32 (rolS x 15)) ∧ w = w' := by
  have hb : bits .and .u64 18446744073709551599 31 = 15 := by decide
  have hw : IntKind.u64.wrap ((-17)) = 18446744073709551599 := by decide
  go_enter Tryz.func218, Tryz.ntmps218
  go_wp2_with fail
  go_ret
  exact ⟨rfl, rfl⟩
theorem ror_15 (w : World) (x : Int) :
    Calls Tryz.prog 219 #[.int .u32 x, .int .i64 17] w fun e w' => e = .returned (.int .u32 (rolS x 15)) ∧ w = w' := by
  go_enter Tryz.func219, Tryz.ntmps219
  go_wp2_with (go_at_call 218; refine (rotlm_15 _ _).mono ?_; rintro e w1 ⟨rfl, rfl⟩)
  go_ret
  exact ⟨rfl, rfl⟩
theorem rol_15 (w : World) (x : Int) :
    Calls Tryz.prog 213 #[.int .u32 x, .int .u64 15] w fun e w' => e = .returned (.int .u32 (rolS x 15)) ∧ w = w' := by
  go_enter Tryz.func213, Tryz.ntmps213
  go_wp2_with fail
  go_ret
  exact ⟨rfl, rfl⟩

set_option maxRecDepth 100000 in
theorem rotlm_13 (w : World) (x : Int) :
    Calls Tryz.prog 218 #[.int .u32 x, .int .i64 (-19)] w fun e w' => e = .returned (.int .u32 (rolS x 13)) ∧ w = w' := by
  have hb : bits .and .u64 18446744073709551597 31 = 13 := by decide
  have hw : IntKind.u64.wrap ((-19)) = 18446744073709551597 := by decide
  go_enter Tryz.func218, Tryz.ntmps218
  go_wp2_with fail
  go_ret
  exact ⟨rfl, rfl⟩
theorem ror_13 (w : World) (x : Int) :
    Calls Tryz.prog 219 #[.int .u32 x, .int .i64 19] w fun e w' => e = .returned (.int .u32 (rolS x 13)) ∧ w = w' := by
  go_enter Tryz.func219, Tryz.ntmps219
  go_wp2_with (go_at_call 218; refine (rotlm_13 _ _).mono ?_; rintro e w1 ⟨rfl, rfl⟩)
  go_ret
  exact ⟨rfl, rfl⟩
theorem rol_13 (w : World) (x : Int) :
    Calls Tryz.prog 213 #[.int .u32 x, .int .u64 13] w fun e w' => e = .returned (.int .u32 (rolS x 13)) ∧ w = w' := by
  go_enter Tryz.func213, Tryz.ntmps213
  go_wp2_with fail
  go_ret
  exact ⟨rfl, rfl⟩

set_option maxRecDepth 100000 in
theorem rotlm_26 (w : World) (x : Int) :
    Calls Tryz.prog 218 #[.int .u32 x, .int .i64 (-6)] w fun e w' => e = .returned (.int .u32 (rolS x 26)) ∧ w = w' := by
  have hb : bits .and .u64 18446744073709551610 31 = 26 := by decide
  have hw : IntKind.u64.wrap ((-6)) = 18446744073709551610 := by decide
  go_enter Tryz.func218, Tryz.ntmps218
  go_wp2_with fail
  go_ret
  exact ⟨rfl, rfl⟩
theorem ror_26 (w : World) (x : Int) :
    Calls Tryz.prog 219 #[.int .u32 x, .int .i64 6] w fun e w' => e = .returned (.int .u32 (rolS x 26)) ∧ w = w' := by
  go_enter Tryz.func219, Tryz.ntmps219
  go_wp2_with (go_at_call 218; refine (rotlm_26 _ _).mono ?_; rintro e w1 ⟨rfl, rfl⟩)
  go_ret
  exact ⟨rfl, rfl⟩
theorem rol_26 (w : World) (x : Int) :
    Calls Tryz.prog 213 #[.int .u32 x, .int .u64 26] w fun e w' => e = .returned (.int .u32 (rolS x 26)) ∧ w = w' := by
  go_enter Tryz.func213, Tryz.ntmps213
  go_wp2_with fail
  go_ret
  exact ⟨rfl, rfl⟩

set_option maxRecDepth 100000 in
theorem rotlm_21 (w : World) (x : Int) :
    Calls Tryz.prog 218 #[.int .u32 x, .int .i64 (-11)] w fun e w' => e = .returned (.int .u32 (rolS x 21)) ∧ w = w' := by
  have hb : bits .and .u64 18446744073709551605 31 = 21 := by decide
  have hw : IntKind.u64.wrap ((-11)) = 18446744073709551605 := by decide
  go_enter Tryz.func218, Tryz.ntmps218
  go_wp2_with fail
  go_ret
  exact ⟨rfl, rfl⟩
theorem ror_21 (w : World) (x : Int) :
    Calls Tryz.prog 219 #[.int .u32 x, .int .i64 11] w fun e w' => e = .returned (.int .u32 (rolS x 21)) ∧ w = w' := by
  go_enter Tryz.func219, Tryz.ntmps219
  go_wp2_with (go_at_call 218; refine (rotlm_21 _ _).mono ?_; rintro e w1 ⟨rfl, rfl⟩)
  go_ret
  exact ⟨rfl, rfl⟩
theorem rol_21 (w : World) (x : Int) :
    Calls Tryz.prog 213 #[.int .u32 x, .int .u64 21] w fun e w' => e = .returned (.int .u32 (rolS x 21)) ∧ w = w' := by
  go_enter Tryz.func213, Tryz.ntmps213
  go_wp2_with fail
  go_ret
  exact ⟨rfl, rfl⟩

set_option maxRecDepth 100000 in
theorem rotlm_7 (w : World) (x : Int) :
    Calls Tryz.prog 218 #[.int .u32 x, .int .i64 (-25)] w fun e w' => e = .returned (.int .u32 (rolS x 7)) ∧ w = w' := by
  have hb : bits .and .u64 18446744073709551591 31 = 7 := by decide
  have hw : IntKind.u64.wrap ((-25)) = 18446744073709551591 := by decide
  go_enter Tryz.func218, Tryz.ntmps218
  go_wp2_with fail
  go_ret
  exact ⟨rfl, rfl⟩
theorem ror_7 (w : World) (x : Int) :
    Calls Tryz.prog 219 #[.int .u32 x, .int .i64 25] w fun e w' => e = .returned (.int .u32 (rolS x 7)) ∧ w = w' := by
  go_enter Tryz.func219, Tryz.ntmps219
  go_wp2_with (go_at_call 218; refine (rotlm_7 _ _).mono ?_; rintro e w1 ⟨rfl, rfl⟩)
  go_ret
  exact ⟨rfl, rfl⟩
theorem rol_7 (w : World) (x : Int) :
    Calls Tryz.prog 213 #[.int .u32 x, .int .u64 7] w fun e w' => e = .returned (.int .u32 (rolS x 7)) ∧ w = w' := by
  go_enter Tryz.func213, Tryz.ntmps213
  go_wp2_with fail
  go_ret
  exact ⟨rfl, rfl⟩

set_option maxRecDepth 100000 in
theorem rotlm_30 (w : World) (x : Int) :
    Calls Tryz.prog 218 #[.int .u32 x, .int .i64 (-2)] w fun e w' => e = .returned (.int .u32 (rolS x 30)) ∧ w = w' := by
  have hb : bits .and .u64 18446744073709551614 31 = 30 := by decide
  have hw : IntKind.u64.wrap ((-2)) = 18446744073709551614 := by decide
  go_enter Tryz.func218, Tryz.ntmps218
  go_wp2_with fail
  go_ret
  exact ⟨rfl, rfl⟩
theorem ror_30 (w : World) (x : Int) :
    Calls Tryz.prog 219 #[.int .u32 x, .int .i64 2] w fun e w' => e = .returned (.int .u32 (rolS x 30)) ∧ w = w' := by
  go_enter Tryz.func219, Tryz.ntmps219
  go_wp2_with (go_at_call 218; refine (rotlm_30 _ _).mono ?_; rintro e w1 ⟨rfl, rfl⟩)
  go_ret
  exact ⟨rfl, rfl⟩
set_option maxRecDepth 100000 in
theorem rotlm_19 (w : World) (x : Int) :
    Calls Tryz.prog 218 #[.int .u32 x, .int .i64 (-13)] w fun e w' => e = .returned (.int .u32 (rolS x 19)) ∧ w = w' := by
  have hb : bits .and .u64 18446744073709551603 31 = 19 := by decide
  have hw : IntKind.u64.wrap ((-13)) = 18446744073709551603 := by decide
  go_enter Tryz.func218, Tryz.ntmps218
  go_wp2_with fail
  go_ret
  exact ⟨rfl, rfl⟩
theorem ror_19 (w : World) (x : Int) :
    Calls Tryz.prog 219 #[.int .u32 x, .int .i64 13] w fun e w' => e = .returned (.int .u32 (rolS x 19)) ∧ w = w' := by
  go_enter Tryz.func219, Tryz.ntmps219
  go_wp2_with (go_at_call 218; refine (rotlm_19 _ _).mono ?_; rintro e w1 ⟨rfl, rfl⟩)
  go_ret
  exact ⟨rfl, rfl⟩
theorem rol_19 (w : World) (x : Int) :
    Calls Tryz.prog 213 #[.int .u32 x, .int .u64 19] w fun e w' => e = .returned (.int .u32 (rolS x 19)) ∧ w = w' := by
  go_enter Tryz.func213, Tryz.ntmps213
  go_wp2_with fail
  go_ret
  exact ⟨rfl, rfl⟩

set_option maxRecDepth 100000 in
theorem rotlm_10 (w : World) (x : Int) :
    Calls Tryz.prog 218 #[.int .u32 x, .int .i64 (-22)] w fun e w' => e = .returned (.int .u32 (rolS x 10)) ∧ w = w' := by
  have hb : bits .and .u64 18446744073709551594 31 = 10 := by decide
  have hw : IntKind.u64.wrap ((-22)) = 18446744073709551594 := by decide
  go_enter Tryz.func218, Tryz.ntmps218
  go_wp2_with fail
  go_ret
  exact ⟨rfl, rfl⟩
theorem ror_10 (w : World) (x : Int) :
    Calls Tryz.prog 219 #[.int .u32 x, .int .i64 22] w fun e w' => e = .returned (.int .u32 (rolS x 10)) ∧ w = w' := by
  go_enter Tryz.func219, Tryz.ntmps219
  go_wp2_with (go_at_call 218; refine (rotlm_10 _ _).mono ?_; rintro e w1 ⟨rfl, rfl⟩)
  go_ret
  exact ⟨rfl, rfl⟩
theorem rol_10 (w : World) (x : Int) :
    Calls Tryz.prog 213 #[.int .u32 x, .int .u64 10] w fun e w' => e = .returned (.int .u32 (rolS x 10)) ∧ w = w' := by
  go_enter Tryz.func213, Tryz.ntmps213
  go_wp2_with fail
  go_ret
  exact ⟨rfl, rfl⟩

end Go.Proofs.YtbodppfpmpmadaaGreat

namespace Go.Proofs.YtbodppfpmpmadaaGreat
open Go.RowKit

def wordS (a b c d : UInt8) : Int := bits .or .u32 (bits .or .u32 (bits .or .u32 (IntKind.u32.wrap (IntKind.u32.wrap (a.toNat : Int) * 16777216)) (IntKind.u32.wrap (IntKind.u32.wrap (b.toNat : Int) * 65536))) (IntKind.u32.wrap (IntKind.u32.wrap (c.toNat : Int) * 256))) (IntKind.u32.wrap (d.toNat : Int))

set_option maxRecDepth 100000 in
set_option maxHeartbeats 1000000 in
theorem word_c (w : World) (v : Value) (a b c d : UInt8) (t : List UInt8) (hr : Rd w v (a :: b :: c :: d :: t)) :
    Calls Tryz.prog 217 #[v] w fun e w' => e = .returned (.int .u32 (wordS a b c d)) ∧ Ext w w' := by
  obtain ⟨A, cap, rfl, hle, hm, hA, hc⟩ := hr
  obtain ⟨g, o, rfl, hcs⟩ := hc (by simp)
  obtain ⟨n, hn⟩ : ∃ n, n = (a :: b :: c :: d :: t).length := ⟨_, rfl⟩
  have hn4 : 4 ≤ n := by rw [hn]; simp
  have c0 := hcs 0 (by simp)
  have c1 := hcs 1 (by simp)
  have c2 := hcs 2 (by simp)
  have c3 := hcs 3 (by simp)
  rw [← hn] at hle ⊢
  clear hcs hc hA hn
  have i0 : (0 : Int) < (n : Int) := by omega
  have i0' : 0 < n := by omega
  have i1 : (1 : Int) < (n : Int) := by omega
  have i2 : (2 : Int) < (n : Int) := by omega
  have i3 : (3 : Int) < (n : Int) := by omega
  simp only [List.getD_cons_zero, List.getD_cons_succ, Nat.add_zero] at c0 c1 c2 c3
  go_enter Tryz.func217, Tryz.ntmps217
  go_wp2_with fail
  go_region_held3 (fun W' => W'.cell? ⟨g, o, none⟩ = some (.int .u8 (a.toNat : Int)) ∧ W'.cell? ⟨g, o + 1, none⟩ = some (.int .u8 (b.toNat : Int)) ∧ W'.cell? ⟨g, o + 2, none⟩ = some (.int .u8 (c.toNat : Int)) ∧ W'.cell? ⟨g, o + 3, none⟩ = some (.int .u8 (d.toNat : Int))) ((first | exact ⟨c0, c1, c2, c3⟩ | fail)) (fail)
  go_wp2_with fail
  go_ret
  exact ⟨rfl, (Ext.refl _).drew⟩

set_option maxRecDepth 100000 in
set_option maxHeartbeats 1000000 in
theorem word_r (w : World) (v : Value) (l : List UInt8) (k j : Nat) (hr : Rd w v l) (hj : j = 4 * k) (hk : j + 3 < l.length) :
    Calls Tryz.prog 212 #[v, .int .i64 (k : Int)] w fun e w' => e = .returned (.int .u32 (wordS (l.getD j 0) (l.getD (j + 1) 0) (l.getD (j + 2) 0) (l.getD (j + 3) 0))) ∧ Ext w w' := by
  have hmx := hr.le
  unfold maxLen at hmx
  obtain ⟨A, cap, rfl, hle, hm, hA, hc⟩ := hr
  obtain ⟨g, o, rfl, hcs⟩ := hc (by intro e; subst e; simp at hk)
  have c0 := hcs j (by omega)
  have c1 := hcs (j + 1) (by omega)
  have c2 := hcs (j + 2) (by omega)
  have c3 := hcs (j + 3) (by omega)
  obtain ⟨n, hn⟩ : ∃ n, n = l.length := ⟨_, rfl⟩
  rw [← hn] at hle hk hmx ⊢
  clear hcs hc hA hn
  generalize l.getD j 0 = x0 at c0 ⊢
  generalize l.getD (j + 1) 0 = x1 at c1 ⊢
  generalize l.getD (j + 2) 0 = x2 at c2 ⊢
  generalize l.getD (j + 3) 0 = x3 at c3 ⊢
  have m0 : IntKind.i64.wrap (4 * (k : Int)) = (j : Int) := by rw [IntKind.wrap_i64]; omega
  have m1 : IntKind.i64.wrap ((j : Int) + 1) = ((j + 1 : Nat) : Int) := by rw [IntKind.wrap_i64]; omega
  have m2 : IntKind.i64.wrap ((j : Int) + 2) = ((j + 2 : Nat) : Int) := by rw [IntKind.wrap_i64]; omega
  have m3 : IntKind.i64.wrap ((j : Int) + 3) = ((j + 3 : Nat) : Int) := by rw [IntKind.wrap_i64]; omega
  obtain ⟨j1, hj1⟩ : ∃ j1, j1 = j + 1 := ⟨_, rfl⟩
  obtain ⟨j2, hj2⟩ : ∃ j2, j2 = j + 2 := ⟨_, rfl⟩
  obtain ⟨j3, hj3⟩ : ∃ j3, j3 = j + 3 := ⟨_, rfl⟩
  rw [← hj1] at m1 c1
  rw [← hj2] at m2 c2
  rw [← hj3] at m3 c3
  have p0 : j < n := by omega
  have p1 : j1 < n := by omega
  have p2 : j2 < n := by omega
  have p3 : j3 < n := by omega
  have i0 : (j : Int) < (n : Int) := by omega
  have i1 : (j1 : Int) < (n : Int) := by omega
  have i2 : (j2 : Int) < (n : Int) := by omega
  have i3 : (j3 : Int) < (n : Int) := by omega
  clear hj hj1 hj2 hj3 hk hmx
  go_enter Tryz.func212, Tryz.ntmps212
  go_wp2_with fail
  go_region_held3 (fun W' => W'.cell? ⟨g, o + j, none⟩ = some (.int .u8 (x0.toNat : Int)) ∧ W'.cell? ⟨g, o + j1, none⟩ = some (.int .u8 (x1.toNat : Int)) ∧ W'.cell? ⟨g, o + j2, none⟩ = some (.int .u8 (x2.toNat : Int)) ∧ W'.cell? ⟨g, o + j3, none⟩ = some (.int .u8 (x3.toNat : Int))) ((first | exact ⟨c0, c1, c2, c3⟩ | fail)) (fail)
  go_wp2_with fail
  go_ret
  exact ⟨rfl, (Ext.refl _).drew⟩
end Go.Proofs.YtbodppfpmpmadaaGreat

namespace Go.Proofs.YtbodppfpmpmadaaGreat
open Go.RowKit

def hashC (kind : Int) (ws : List Int) (rest : List UInt8) (n all : Int) : List Value := .int .i64 kind :: (ws.map (Value.int .u32) ++ (bc rest ++ [.int .i64 n, .int .i64 all]))
theorem hashC_length (kind : Int) (ws : List Int) (rest : List UInt8) (n all : Int) : (hashC kind ws rest n all).length = ws.length + rest.length + 3 := by simp [hashC, bc_length]; omega
def arrC (p : List Int) (N : Nat) : List Value := (p ++ List.replicate (N - p.length) 0).map (Value.int .u32)

theorem arrC_length (p : List Int) (N : Nat) (h : p.length ≤ N) : (arrC p N).length = N := by simp [arrC]; omega
theorem arrC_get (p : List Int) (N j : Nat) (h : j < p.length) : (arrC p N)[j]? = some (.int .u32 (p.getD j 0)) := by
  rw [arrC, List.getElem?_map, List.getElem?_append_left h, List.getD_eq_getElem?_getD, List.getElem?_eq_getElem h]
  rfl
theorem arrC_set (p : List Int) (N : Nat) (x : Int) (h : p.length < N) : (arrC p N).set p.length (.int .u32 x) = arrC (p ++ [x]) N := by
  obtain ⟨m, hm⟩ : ∃ m, N - p.length = m + 1 := ⟨N - p.length - 1, by omega⟩
  have h2 : N - (p ++ [x]).length = m := by simp; omega
  rw [arrC, arrC, hm, h2, List.replicate_succ, List.map_append, List.map_cons, List.map_append, List.map_append]
  rw [List.set_append_right _ _ (by simp)]
  simp

def sch1 (rest : List UInt8) : Nat → List Int
  | 0 => []
  | t + 1 => sch1 rest t ++ [if t < 16 then wordS (rest.getD (4 * t) 0) (rest.getD (4 * t + 1) 0) (rest.getD (4 * t + 2) 0) (rest.getD (4 * t + 3) 0)
      else rolS (bits .xor .u32 (bits .xor .u32 (bits .xor .u32 ((sch1 rest t).getD (t - 3) 0) ((sch1 rest t).getD (t - 8) 0)) ((sch1 rest t).getD (t - 14) 0)) ((sch1 rest t).getD (t - 16) 0)) 1]
theorem sch1_length (rest : List UInt8) : ∀ t, (sch1 rest t).length = t
  | 0 => rfl
  | t + 1 => by rw [sch1, List.length_append, sch1_length rest t]; rfl

def add32 (x y : Int) : Int := IntKind.u32.wrap (x + y)
def f1 (t : Nat) (b c d : Int) : Int :=
  if t < 20 then bits .xor .u32 (bits .and .u32 b c) (bits .and .u32 (bits .xor .u32 IntKind.u32.max b) d)
  else if t < 40 then bits .xor .u32 (bits .xor .u32 b c) d
  else if t < 60 then bits .xor .u32 (bits .xor .u32 (bits .and .u32 b c) (bits .and .u32 b d)) (bits .and .u32 c d)
  else bits .xor .u32 (bits .xor .u32 b c) d
def k1 (t : Nat) : Int := if t < 20 then 1518500249 else if t < 40 then 1859775393 else if t < 60 then 2400959708 else 3395469782
def rnd1 (p : List Int) (s : Int × Int × Int × Int × Int) (t : Nat) : Int × Int × Int × Int × Int :=
  (add32 (add32 (add32 (add32 (rolS s.1 5) (f1 t s.2.1 s.2.2.1 s.2.2.2.1)) s.2.2.2.2) (k1 t)) (p.getD t 0), s.1, rolS s.2.1 30, s.2.2.1, s.2.2.2.1)
def rnds1 (p : List Int) (s : Int × Int × Int × Int × Int) : Nat → Int × Int × Int × Int × Int
  | 0 => s
  | t + 1 => rnd1 p (rnds1 p s t) t
theorem f1_a (t : Nat) (b c d : Int) (h : t < 20) : f1 t b c d = bits .xor .u32 (bits .and .u32 b c) (bits .and .u32 (bits .xor .u32 IntKind.u32.max b) d) ∧ k1 t = 1518500249 := by simp [f1, k1, h]
theorem f1_b (t : Nat) (b c d : Int) (h : ¬ t < 20) (h2 : t < 40) : f1 t b c d = bits .xor .u32 (bits .xor .u32 b c) d ∧ k1 t = 1859775393 := by simp [f1, k1, h, h2]
theorem f1_c (t : Nat) (b c d : Int) (h : ¬ t < 20) (h2 : ¬ t < 40) (h3 : t < 60) : f1 t b c d = bits .xor .u32 (bits .xor .u32 (bits .and .u32 b c) (bits .and .u32 b d)) (bits .and .u32 c d) ∧ k1 t = 2400959708 := by simp [f1, k1, h, h2, h3]
theorem f1_d (t : Nat) (b c d : Int) (h : ¬ t < 20) (h2 : ¬ t < 40) (h3 : ¬ t < 60) : f1 t b c d = bits .xor .u32 (bits .xor .u32 b c) d ∧ k1 t = 3395469782 := by simp [f1, k1, h, h2, h3]
theorem rnds1_succ {p : List Int} {s : Int × Int × Int × Int × Int} {t : Nat} {a b c d e f k : Int} (h : rnds1 p s t = (a, b, c, d, e)) (hf : f1 t b c d = f ∧ k1 t = k) :
    rnds1 p s (t + 1) = (add32 (add32 (add32 (add32 (rolS a 5) f) e) k) (p.getD t 0), a, rolS b 30, c, d) := by
  rw [rnds1, h, rnd1]
  dsimp only
  rw [hf.1, hf.2]

def addW (ws vs : List Int) (j : Nat) : List Int := (List.zipWith add32 ws vs).take j ++ ws.drop j
def comp1 (ws : List Int) (rest : List UInt8) : List Int :=
  let r := rnds1 (sch1 rest 80) (ws.getD 0 0, ws.getD 1 0, ws.getD 2 0, ws.getD 3 0, ws.getD 4 0) 80
  addW ws [r.1, r.2.1, r.2.2.1, r.2.2.2.1, r.2.2.2.2] 5

theorem hash_rest {W : World} {g : Nat} {kind : Int} {ws : List Int} {rest : List UInt8} {n all : Int} (h : BoxF W g (hashC kind ws rest n all)) (hw : ws.length = 8) (hr : rest.length = 64) (j m : Nat) (hj : j < 64) (hm : m = 64 - j) :
    Rd W (.slice (some ⟨g, 9 + j, none⟩) m m) (rest.drop j) := by
  refine ⟨_, m, by rw [List.length_drop, hr, hm], by rw [List.length_drop]; omega, by unfold maxLen; omega, (fun h => by cases h), fun _ => ⟨g, 9 + j, rfl, fun i hi => ?_⟩⟩
  rw [List.length_drop, hr] at hi
  have hc := bc_get rest (j + i) (by omega)
  refine (h.at (j := 9 + j + i) ?_)
  rw [hashC, show 9 + j + i = (8 + (j + i)) + 1 by omega, List.getElem?_cons_succ, List.getElem?_append_right (by simp [hw]), List.length_map, hw, show 8 + (j + i) - 8 = j + i by omega, List.getElem?_append_left (by rw [bc_length]; omega), hc]
  simp [List.getD_eq_getElem?_getD, List.getElem?_drop]

section
variable {P : Program} {ops : Array Oper} {rest : List Oper} {o : Oper} {a : Act} {w : World} {Q : Exit → Act → World → Prop}
theorem wpl_alloc (hgd : o.guard = none) (ty : TypeId) (ho : o.op = .alloc ty) (cs : List Value) (hz : (P.info? ty).map (·.zero) = some (some (.agg cs.toArray)))
    (h : ∀ w', BoxF w' w.heap.size cs → Ext w w' → wpList P ops Q rest (a.put o.dst (.pointer (some ⟨w.heap.size, 0, none⟩))) w') : wpList P ops Q (o :: rest) a w := by
  refine wpl_val hgd (v := .pointer (some ⟨w.heap.size, 0, none⟩)) (w' := w.alloc (.cells cs.toArray ty)) ?_ (h _ (BoxF.new w cs ty) ((Ext.refl w).alloc _))
  cases hq : P.info? ty with
  | none => simp [hq] at hz
  | some i =>
    have hs : i.zero = some (.agg cs.toArray) := by simpa [hq] using hz
    unfold execOp
    simp [ho, Instr.alloc, newVar, newRow, zeroValue, typeInfo, hq, hs, Value.cells]
theorem wpl_slice_arr (hgd : o.guard = none) (t e : TypeId) (N : Nat) (ht : P.underlying t = some (.array N e)) (hs : ∀ w, (sizeOf e).run P w = .ok 1 w) (x lo : Operand) (k : IntKind) (ho : o.op = .slice t x (some lo) none none)
    (g b j : Nat) (hx : a.eval x = .pointer (some ⟨g, b, none⟩)) (I : Int) (hlo : a.eval lo = .int k I) (hI : I = (j : Int)) (hj : j < N)
    (h : wpList P ops Q rest (a.put o.dst (.slice (some ⟨g, b + j, none⟩) (N - j) (N - j))) w) : wpList P ops Q (o :: rest) a w := by
  subst hI
  refine wpl_val hgd (v := .slice (some ⟨g, b + j, none⟩) (N - j) (N - j)) (w' := w) ?_ h
  have hl : P.arrayLen t = N := by unfold Program.arrayLen; rw [ht]
  have he : P.elem t = e := by unfold Program.elem; rw [ht]
  have hr := run_sliceAt_array_l (P := P) w t ⟨g, b, none⟩ (by rw [hl, he]; exact ht) k (j : Int) (by omega) (by rw [hl]; omega)
  rw [hl, he, hs w] at hr
  unfold execOp
  simp only [ho, hx, hlo, Option.map_some, Option.map_none, hr, Sem.run_bind, Sem.run_pure, Result.andThen_ok, slicedAt, Int.toNat_natCast, Nat.mul_one]
  rw [if_neg (by omega)]
  simp [Addr.add]
end
end Go.Proofs.YtbodppfpmpmadaaGreat

namespace Go.Proofs.YtbodppfpmpmadaaGreat
open Go.ChangeShapes Go.WideShapes Go.ChangeAt Go.RowKit

def Sz {H : Type} (P : Program) (t : TypeId) (d : DataW H) : Prop := ∀ n ∈ d.weights P t, n ≤ reachBytes
theorem reach_eq : reachBytes = 140737488351232 := rfl

section
variable {H : Type} {enc : TypeId × Value → H} {P : Program} {w : World} {r : Reach} {b0 : Nat}

theorem sz_arg {ts : List TypeId} {ds : List (DataW H)} (h : (DataW.weightsEach P ts ds).all (· ≤ reachBytes) = true) (j : Nat) {t : TypeId} {d : DataW H} (ht : ts[j]? = some t) (hd : ds[j]? = some d) : Sz P t d := fun n hn => by
  simpa using List.all_eq_true.1 h _ (DataW.weights_mem_each ht hd n hn)
theorem weights_all {e : TypeId} {n : Nat} {d : DataW H} (hn : n ∈ d.weights P e) : ∀ {l : List (DataW H)}, d ∈ l → n ∈ DataW.weightsAll P e l
  | a :: l, h => by
    rw [DataW.weightsAll, List.mem_append]
    rcases List.mem_cons.1 h with rfl | h
    · exact .inl hn
    · exact .inr (weights_all hn h)
theorem sz_elem {t e : TypeId} {elems spare : List (DataW H)} (hu : P.underlying t = some (.slice e)) (h : Sz P t (.slice elems spare)) {d : DataW H} (hd : d ∈ elems) : Sz P e d := fun n hn =>
  h n (by simp only [DataW.weights, hu, List.mem_cons, List.mem_append]; exact .inr (.inl (weights_all hn hd)))
theorem sz_len {t e : TypeId} {elems spare : List (DataW H)} (hu : P.underlying t = some (.slice e)) (h : Sz P t (.slice elems spare)) : (elems.length + spare.length) * P.bytesOf e ≤ reachBytes :=
  h _ (by simp [DataW.weights, hu])

theorem leaf_rdz (hT : BT P) (hc : P.cellsOf 5 = 1) (hb : P.bytesOf 5 = 1) {fuel : Nat} {cs : List Value} {d : DataW H} {p : List MemPlace} (h : DataW.trod enc P w 0 (fun _ => true) true fuel 22 cs = some (d, p)) (hs : Sz P 22 d) :
    ∃ v l, cs = [v] ∧ Rd w v l ∧ l.length ≤ 140737488351232 := by
  rcases open_ints hT.sl hT.el hc h with ⟨hcs, _⟩ | ⟨x, l, c, zs, hcs, _, hl, hm, hz, hx, hcell, hwz⟩
  · exact ⟨_, [], hcs, Rd.nil w, by simp⟩
  · obtain ⟨l', hl', hle⟩ := rd_of (w := w) (a := some x) (len := l) (cap := c) (zs := zs) (.inr ⟨x, rfl, hl, hm, by simpa using hz, hcell, hwz⟩)
    refine ⟨_, l', hcs, hl', ?_⟩
    have := congrArg Prod.fst hx
    dsimp only at this
    subst this
    have h2 := sz_len hT.sl hs
    rw [hb, reach_eq] at h2
    simp [lits] at h2 hz
    omega
def Lists (w : World) (v : Value) (ls : List (List UInt8)) : Prop :=
  ∃ (A : Option Addr) (cap : Nat), v = .slice A ls.length cap ∧ ls.length ≤ cap ∧ cap ≤ maxLen ∧
    (ls ≠ [] → ∃ b o, A = some ⟨b, o, none⟩ ∧ ∀ j, j < ls.length → ∃ u, w.cell? ⟨b, o + j, none⟩ = some u ∧ Rd w u (ls.getD j []))
theorem Lists.ext {w w' : World} {v : Value} {ls : List (List UInt8)} (h : Lists w v ls) (k : Ext w w') : Lists w' v ls := by
  obtain ⟨A, cap, h1, h2, h3, h4⟩ := h
  refine ⟨A, cap, h1, h2, h3, fun hn => ?_⟩
  obtain ⟨b, o, hA, hc⟩ := h4 hn
  refine ⟨b, o, hA, fun j hj => ?_⟩
  obtain ⟨u, hu, hr⟩ := hc j hj
  exact ⟨u, k.cell hu, hr.ext k⟩

theorem lists_argz {v : Value} {d : DataW H} {p : List MemPlace} (hT : BT P) (hc : P.cellsOf 5 = 1) (hb : P.bytesOf 5 = 1) (hsl : P.underlying 41 = some (.slice 22)) (hcl : P.cellsOf 22 = 1)
    (hv : Value.okWide P w r b0 41 v) (h : DataW.Trod enc P w 0 (fun _ => true) true 41 v d p) (hs : Sz P 41 d) :
    ∃ ls : List (List UInt8), Lists w v ls ∧ ∀ j, (ls.getD j []).length ≤ 140737488351232 := by
  obtain ⟨a, len, cap, rfl⟩ := okWide_slice hsl hv
  obtain ⟨fuel, hf⟩ := h
  rcases Go.Deep.open_slice1 hsl hcl hf with ⟨hcs, _⟩ | ⟨x, l, c, m, n, V, D, Pl, hcs, _, hl, hm, hmm, hx, hcell⟩
  · simp [Value.cells] at hcs
    obtain ⟨rfl, rfl, rfl⟩ := hcs
    exact ⟨[], ⟨none, 0, rfl, Nat.le_refl _, by unfold maxLen; simp, fun h => absurd rfl h⟩, fun j => by simp⟩
  · simp [Value.cells] at hcs
    obtain ⟨rfl, rfl, rfl⟩ := hcs
    have hd := congrArg Prod.fst hx
    dsimp only at hd
    subst hd
    have hlm : len ≤ m := by rw [hmm]; split <;> omega
    have key : ∀ i, i < len → ∃ L : List UInt8, Rd w (V i) L ∧ L.length ≤ 140737488351232 := fun i hi => by
      obtain ⟨h1, h2⟩ := hcell i (by omega)
      obtain ⟨v', l', e, hr, hl'⟩ := leaf_rdz hT hc hb h2 (sz_elem hsl hs (List.mem_map.2 ⟨i, List.mem_range.2 hi, rfl⟩))
      simp at e
      subst e
      exact ⟨l', hr, hl'⟩
    obtain ⟨F, hF⟩ := Go.Deep.choose_lt (α := List UInt8) key
    have hlen : ((List.range len).map F).length = len := by simp
    have hget : ∀ j, j < len → ((List.range len).map F).getD j [] = F j := fun j hj => by
      simp [List.getD, hj]
    refine ⟨(List.range len).map F, ⟨some x, cap, by rw [hlen], by rw [hlen]; exact hl, hm, fun hne => ?_⟩, fun j => ?_⟩
    · have h0 : 0 < len := by
        rcases Nat.eq_zero_or_pos len with h | h
        · subst h; exact absurd rfl hne
        · exact h
      have h1 := (hcell 0 (by omega)).1
      obtain ⟨b, o, rfl⟩ := addr_spot (x := x) h1
      refine ⟨b, o, rfl, fun j hj => ?_⟩
      rw [hlen] at hj
      refine ⟨V j, ?_, ?_⟩
      · rw [← addrk]
        exact (hcell j (by omega)).1
      · rw [hget j hj]
        exact (hF j hj).1
    · rcases Nat.lt_or_ge j len with hj | hj
      · rw [hget j hj]
        exact (hF j hj).2
      · rw [List.getD_eq_getElem?_getD, List.getElem?_eq_none (by rw [hlen]; exact hj)]
        simp
end
end Go.Proofs.YtbodppfpmpmadaaGreat

namespace Go.Proofs.YtbodppfpmpmadaaGreat
open Go.RowKit

def RetBE (w : World) (l : List UInt8) (r : Int) (e : Ending) (w' : World) : Prop := ∃ v, e = .returned (.tuple #[v, .int .i64 r]) ∧ Own w' w.heap.size v l ∧ Ext w w'

theorem fixOk_cases (x n : Int) : (fixOk x n = false ∧ (n < 1 ∨ 8 < n ∨ (1 ≤ n ∧ n < 8 ∧ (x / 2 ^ (8 * n).toNat != 0) = true))) ∨
    (fixOk x n = true ∧ (n = 8 ∨ (1 ≤ n ∧ n < 8 ∧ (x / 2 ^ (8 * n).toNat != 0) = false))) := by
  unfold fixOk
  by_cases h1 : 1 ≤ n
  · by_cases h2 : n ≤ 8
    · by_cases h3 : n = 8
      · exact .inr ⟨by simp [h3], .inl h3⟩
      · by_cases h4 : x / 2 ^ (8 * n).toNat = 0
        · exact .inr ⟨by simp [h1, h2, h4], .inr ⟨h1, by omega, by simp [h4]⟩⟩
        · exact .inl ⟨by simp [h3, h4], .inr (.inr ⟨h1, by omega, by simp [h4]⟩)⟩
    · exact .inl ⟨by simp [h2], .inr (.inl (by omega))⟩
  · exact .inl ⟨by simp [h1], .inl (by omega)⟩

theorem shr_byte (x : Int) (k : Nat) : 0 ≤ x / 2 ^ (8 * k) % 256 ∧ x / 2 ^ (8 * k) % 256 < 256 := by omega

set_option maxHeartbeats 400000 in
theorem appendFixed_bad_len (w : World) (v : Value) (x n : Int) (h : fixOk x n = false) :
    Calls Tryz.prog 153 #[v, .int .u64 x, .int .i64 n] w (RetBE w [] 2) := by
  rcases fixOk_cases x n with ⟨_, h1 | h1 | ⟨h1, h2, h3⟩⟩ | ⟨h1, _⟩
  all_goals first | (rw [h] at h1; cases h1; done) | skip
  all_goals
    clear h
    go_enter Tryz.func153, Tryz.ntmps153
    go_wp2_with fail
    go_ret2
    exact ⟨_, rfl, Own.nil _ _, Ext.refl _⟩

set_option maxHeartbeats 800000 in
theorem appendFixed_good_len (w : World) (v : Value) (l : List UInt8) (x n : Int) (hr : Rd w v l) (hl : l.length ≤ 9000000) (h : fixOk x n = true) :
    Calls Tryz.prog 153 #[v, .int .u64 x, .int .i64 n] w (RetBE w (l ++ fixB x n.toNat) 0) := by
  have hn : 1 ≤ n ∧ n ≤ 8 := by
    rcases fixOk_cases x n with ⟨h1, _⟩ | ⟨_, h1 | ⟨h1, h2, _⟩⟩
    · rw [h] at h1; cases h1
    · omega
    · omega
  obtain ⟨hn1, hn2⟩ := hn
  obtain ⟨N, rfl⟩ : ∃ N : Nat, n = N := ⟨n.toNat, by omega⟩
  have HR := Lib.hid hr
  clear hr
  have hcase := fixOk_cases x N
  rcases hcase with ⟨h1, _⟩ | ⟨_, h1⟩
  · rw [h] at h1; cases h1
  · clear h
    have hx : (N : Int) = 8 ∨ ((N : Int) < 8 ∧ (x / 2 ^ (8 * N) != 0) = false) := by
      rw [show (8 * (N : Int)).toNat = 8 * N from by omega] at h1
      rcases h1 with h1 | ⟨_, h1, h2⟩
      · exact .inl h1
      · exact .inr ⟨h1, h2⟩
    clear h1
    rw [Int.toNat_natCast]
    have d1 : decide ((N : Int) < 1) = false := by simp; omega
    have d2 : decide ((8 : Int) < (N : Int)) = false := by simp; omega
    rcases hx with hx | ⟨hx, hy⟩
    all_goals
      go_enter Tryz.func153, Tryz.ntmps153
      go_wp2_with (go_at_call 97; refine (clone_c _ _ _ HR.out (by omega)).mono ?_; rintro e w1 ⟨v1, rfl, ho, hx1⟩)
      go_loopw [8, 30] (fun o i wr => ∃ k : Nat, k ≤ N ∧ i = .int .i64 k ∧ Own wr w.heap.size o (l ++ fixB x k) ∧ Ext w wr) (fun _ i _ => N - (intOf i).toNat)
      case atStart => exact ⟨0, Nat.zero_le _, rfl, by simpa [fixB] using ho, hx1⟩
      case round =>
        obtain ⟨k, hk, rfl, ho2, hx2⟩ := hrel
        have hlen := fixB_length x k
        by_cases hlt : k < N
        · go_wp2_with (at_builtin; go_must (refine wpl_append_one bt (x / 2 ^ (8 * k) % 256) ho2 (shr_byte x k).1 (shr_byte x k).2 rfl _ _ rfl rfl rfl (by simp [hlen]; omega) (Ext.size hx2) ?_); intro v3 w3 ho3 hb3)
          go_roundw
          case rel => exact ⟨k + 1, by omega, by go_num, by rw [fixB_succ, ← List.append_assoc]; exact ho3, hx2.below hb3 (Nat.le_refl _)⟩
          case measure => simp [intOf]; omega
        · obtain rfl : k = N := by omega
          go_wp2_with fail
          go_ret2
          exact ⟨_, rfl, ho2, hx2⟩

set_option maxHeartbeats 800000 in
theorem appendFixed_good_ref (w : World) (v : Value) (l : List UInt8) (x n : Int) (hr : Rd w v l) (hl : l.length ≤ 9000000) (h : fixOk x n = true) :
    Calls Tryz.prog 158 #[v, .int .u64 x, .int .i64 n] w (RetBE w (l ++ fixB x n.toNat) 0) := by
  have hn : 1 ≤ n ∧ n ≤ 8 := by
    rcases fixOk_cases x n with ⟨h1, _⟩ | ⟨_, h1 | ⟨h1, h2, _⟩⟩
    · rw [h] at h1; cases h1
    · omega
    · omega
  obtain ⟨hn1, hn2⟩ := hn
  obtain ⟨N, rfl⟩ : ∃ N : Nat, n = N := ⟨n.toNat, by omega⟩
  have HR := Lib.hid hr
  clear hr
  have hcase := fixOk_cases x N
  rcases hcase with ⟨h1, _⟩ | ⟨_, h1⟩
  · rw [h] at h1; cases h1
  · clear h
    have hx : (N : Int) = 8 ∨ ((N : Int) < 8 ∧ (x / 2 ^ (8 * N) != 0) = false) := by
      rw [show (8 * (N : Int)).toNat = 8 * N from by omega] at h1
      rcases h1 with h1 | ⟨_, h1, h2⟩
      · exact .inl h1
      · exact .inr ⟨h1, h2⟩
    clear h1
    rw [Int.toNat_natCast]
    have d1 : decide ((N : Int) < 1) = false := by simp; omega
    have d2 : decide ((8 : Int) < (N : Int)) = false := by simp; omega
    rcases hx with hx | ⟨hx, hy⟩
    all_goals
      go_enter Tryz.func158, Tryz.ntmps158
      go_wp2_with (at_builtin; refine wpl_clone bt HR.out rfl _ _ rfl rfl rfl (by omega) ?_; intro v1 w1 ho hx1)
      go_loopw [8, 9] (fun o i wr => ∃ k : Nat, k ≤ N ∧ i = .int .i64 k ∧ Own wr w.heap.size o (l ++ fixB x k) ∧ Ext w wr) (fun _ i _ => N - (intOf i).toNat)
      case atStart => exact ⟨0, Nat.zero_le _, rfl, by simpa [fixB] using ho, hx1⟩
      case round =>
        obtain ⟨k, hk, rfl, ho2, hx2⟩ := hrel
        have hlen := fixB_length x k
        by_cases hlt : k < N
        · go_wp2_with (at_builtin; go_must (refine wpl_append_one bt (x / 2 ^ (8 * k) % 256) ho2 (shr_byte x k).1 (shr_byte x k).2 rfl _ _ rfl rfl rfl (by simp [hlen]; omega) (Ext.size hx2) ?_); intro v3 w3 ho3 hb3)
          go_roundw
          case rel => exact ⟨k + 1, by omega, by go_num, by rw [fixB_succ, ← List.append_assoc]; exact ho3, hx2.below hb3 (Nat.le_refl _)⟩
          case measure => simp [intOf]; omega
        · obtain rfl : k = N := by omega
          go_wp2_with fail
          go_ret2
          exact ⟨_, rfl, ho2, hx2⟩
end Go.Proofs.YtbodppfpmpmadaaGreat

namespace Go.Proofs.YtbodppfpmpmadaaGreat
open Go.RowKit

set_option maxHeartbeats 400000 in
theorem readFixed_good_len (w : World) (v : Value) (l : List UInt8) (n : Int) (hr : Rd w v l) (h1 : 1 ≤ n) (h2 : n ≤ 8) (h3 : n ≤ l.length) :
    Calls Tryz.prog 136 #[v, .int .i64 n] w fun e w' => e = .returned (.tuple #[.int .u64 (leN (l.take n.toNat)), .int .i64 0]) ∧ w = w' := by
  obtain ⟨N, rfl⟩ : ∃ N : Nat, n = N := ⟨n.toNat, by omega⟩
  rw [Int.toNat_natCast]
  obtain ⟨A, cap, rfl, hle, hm, hA, hc⟩ := hr
  obtain ⟨b, o, rfl, hc2⟩ := hc (by intro h; subst h; simp at h3; omega)
  clear hA hc
  unfold maxLen at hm
  have HC := Lib.hid hc2
  clear hc2
  have d1 : decide ((N : Int) < 1) = false := by simp; omega
  have d2 : decide ((8 : Int) < (N : Int)) = false := by simp; omega
  go_enter Tryz.func136, Tryz.ntmps136
  go_wp2_with fail
  go_loop [6, 19] (fun x i => ∃ k : Nat, k ≤ N ∧ i = .int .i64 k ∧ x = .int .u64 (leN (l.take k))) (fun _ i => N - (intOf i).toNat)
  case atStart => exact ⟨0, Nat.zero_le _, rfl, rfl⟩
  case round =>
    obtain ⟨k, hk, rfl, rfl⟩ := hrel
    by_cases hlt : k < N
    · have hcell := HC.out k (by omega)
      go_wp2_with fail
      go_round
      case rel =>
        refine ⟨k + 1, by omega, by go_num, ?_⟩
        rw [or_byte _ _ _ (leN_take_lt l k) (UInt8.toNat_lt _) (by omega), leN_take_succ l k (by omega)]
      case measure => simp [intOf]; omega
    · obtain rfl : k = N := by omega
      go_wp2_with fail
      go_ret2
      exact ⟨rfl, rfl⟩

set_option maxHeartbeats 400000 in
theorem readFixed_arg_len (w : World) (v : Value) (n : Int) (h : n < 1 ∨ 8 < n) :
    Calls Tryz.prog 136 #[v, .int .i64 n] w fun e w' => e = .returned (.tuple #[.int .u64 0, .int .i64 2]) ∧ w = w' := by
  rcases h with h | h
  all_goals
    go_enter Tryz.func136, Tryz.ntmps136
    go_wp2_with fail
    go_ret2
    exact ⟨rfl, rfl⟩

set_option maxHeartbeats 400000 in
theorem readFixed_short_len (w : World) (v : Value) (l : List UInt8) (n : Int) (hr : Rd w v l) (h1 : 1 ≤ n) (h2 : n ≤ 8) (h3 : l.length < n) :
    Calls Tryz.prog 136 #[v, .int .i64 n] w fun e w' => e = .returned (.tuple #[.int .u64 0, .int .i64 4]) ∧ w = w' := by
  obtain ⟨A, cap, rfl, hle, hm, hA, hc⟩ := hr
  clear hA hc
  unfold maxLen at hm
  go_enter Tryz.func136, Tryz.ntmps136
  go_wp2_with fail
  go_ret2
  exact ⟨rfl, rfl⟩

set_option maxHeartbeats 400000 in
theorem readFixed_good_ref (w : World) (v : Value) (l : List UInt8) (n : Int) (hr : Rd w v l) (h1 : 1 ≤ n) (h2 : n ≤ 8) (h3 : n ≤ l.length) :
    Calls Tryz.prog 160 #[v, .int .i64 n] w fun e w' => e = .returned (.tuple #[.int .u64 (leN (l.take n.toNat)), .int .i64 0]) ∧ w = w' := by
  obtain ⟨N, rfl⟩ : ∃ N : Nat, n = N := ⟨n.toNat, by omega⟩
  rw [Int.toNat_natCast]
  obtain ⟨A, cap, rfl, hle, hm, hA, hc⟩ := hr
  obtain ⟨b, o, rfl, hc2⟩ := hc (by intro h; subst h; simp at h3; omega)
  clear hA hc
  unfold maxLen at hm
  have HC := Lib.hid hc2
  clear hc2
  have d1 : decide ((N : Int) < 1) = false := by simp; omega
  have d2 : decide ((8 : Int) < (N : Int)) = false := by simp; omega
  go_enter Tryz.func160, Tryz.ntmps160
  go_wp2_with fail
  go_loop [6, 7] (fun x i => ∃ k : Nat, k ≤ N ∧ i = .int .i64 k ∧ x = .int .u64 (leN (l.take k))) (fun _ i => N - (intOf i).toNat)
  case atStart => exact ⟨0, Nat.zero_le _, rfl, rfl⟩
  case round =>
    obtain ⟨k, hk, rfl, rfl⟩ := hrel
    by_cases hlt : k < N
    · have hcell := HC.out k (by omega)
      go_wp2_with fail
      go_round
      case rel =>
        refine ⟨k + 1, by omega, by go_num, ?_⟩
        rw [or_byte _ _ _ (leN_take_lt l k) (UInt8.toNat_lt _) (by omega), leN_take_succ l k (by omega)]
      case measure => simp [intOf]; omega
    · obtain rfl : k = N := by omega
      go_wp2_with fail
      go_ret2
      exact ⟨rfl, rfl⟩

set_option maxHeartbeats 400000 in
theorem readFixed_arg_ref (w : World) (v : Value) (n : Int) (h : n < 1 ∨ 8 < n) :
    Calls Tryz.prog 160 #[v, .int .i64 n] w fun e w' => e = .returned (.tuple #[.int .u64 0, .int .i64 2]) ∧ w = w' := by
  rcases h with h | h
  all_goals
    go_enter Tryz.func160, Tryz.ntmps160
    go_wp2_with fail
    go_ret2
    exact ⟨rfl, rfl⟩

set_option maxHeartbeats 400000 in
theorem readFixed_short_ref (w : World) (v : Value) (l : List UInt8) (n : Int) (hr : Rd w v l) (h1 : 1 ≤ n) (h2 : n ≤ 8) (h3 : l.length < n) :
    Calls Tryz.prog 160 #[v, .int .i64 n] w fun e w' => e = .returned (.tuple #[.int .u64 0, .int .i64 4]) ∧ w = w' := by
  obtain ⟨A, cap, rfl, hle, hm, hA, hc⟩ := hr
  clear hA hc
  unfold maxLen at hm
  go_enter Tryz.func160, Tryz.ntmps160
  go_wp2_with fail
  go_ret2
  exact ⟨rfl, rfl⟩

end Go.Proofs.YtbodppfpmpmadaaGreat

namespace Go.Proofs.YtbodppfpmpmadaaGreat
open Go.RowKit

def fixR (l : List UInt8) (x n : Int) : List UInt8 × Int := if fixOk x n = true then (l ++ fixB x n.toNat, 0) else ([], 2)
def readF (l : List UInt8) (n : Int) : Int × Int := if n < 1 ∨ 8 < n then (0, 2) else if (l.length : Int) < n then (0, 4) else ((leN (l.take n.toNat) : Int), 0)

theorem appendFixed_at_len (w : World) (v : Value) (l : List UInt8) (x n : Int) (m : List UInt8) (r : Int) (hr : Rd w v l) (hl : l.length ≤ 9000000) (h : fixR l x n = (m, r)) :
    Calls Tryz.prog 153 #[v, .int .u64 x, .int .i64 n] w (RetBE w m r) := by
  unfold fixR at h
  by_cases hk : fixOk x n = true
  · rw [if_pos hk] at h
    injection h with h1 h2
    subst h1 h2
    exact appendFixed_good_len w v l x n hr hl hk
  · rw [if_neg hk] at h
    injection h with h1 h2
    subst h1 h2
    exact appendFixed_bad_len w v x n (by simpa using hk)

theorem readFixed_at_len (w : World) (v : Value) (l : List UInt8) (n x r : Int) (hr : Rd w v l) (h : readF l n = (x, r)) :
    Calls Tryz.prog 136 #[v, .int .i64 n] w fun e w' => e = .returned (.tuple #[.int .u64 x, .int .i64 r]) ∧ w = w' := by
  unfold readF at h
  by_cases h1 : n < 1 ∨ 8 < n
  · rw [if_pos h1] at h
    injection h with h2 h3
    subst h2 h3
    exact readFixed_arg_len w v n h1
  · rw [if_neg h1] at h
    by_cases h4 : (l.length : Int) < n
    · rw [if_pos h4] at h
      injection h with h2 h3
      subst h2 h3
      exact readFixed_short_len w v l n hr (by omega) (by omega) h4
    · rw [if_neg h4] at h
      injection h with h2 h3
      subst h2 h3
      exact readFixed_good_len w v l n hr (by omega) (by omega) (by omega)

theorem readFixed_at_ref (w : World) (v : Value) (l : List UInt8) (n x r : Int) (hr : Rd w v l) (h : readF l n = (x, r)) :
    Calls Tryz.prog 160 #[v, .int .i64 n] w fun e w' => e = .returned (.tuple #[.int .u64 x, .int .i64 r]) ∧ w = w' := by
  unfold readF at h
  by_cases h1 : n < 1 ∨ 8 < n
  · rw [if_pos h1] at h
    injection h with h2 h3
    subst h2 h3
    exact readFixed_arg_ref w v n h1
  · rw [if_neg h1] at h
    by_cases h4 : (l.length : Int) < n
    · rw [if_pos h4] at h
      injection h with h2 h3
      subst h2 h3
      exact readFixed_short_ref w v l n hr (by omega) (by omega) h4
    · rw [if_neg h4] at h
      injection h with h2 h3
      subst h2 h3
      exact readFixed_good_ref w v l n hr (by omega) (by omega) (by omega)
end Go.Proofs.YtbodppfpmpmadaaGreat

