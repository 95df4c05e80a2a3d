/- Words of a block, both sides. -/
import Derived.Test.YtimelnihiocngaaShaA
import Derived.Test.YtimelnihiocngaaRegion
namespace Go.Proofs.Ytimelnihiocngaa
open Go.RowKit

/-- Four bytes as a word. -/
def wordS (a b c d : UInt8) : Int := bits .or .u32 (bits .or .u32 (bits .or .u32 (IntKind.u32.wrap (IntKind.u32.wrap (a.toNat : Int) * 16777216)) (IntKind.u32.wrap (IntKind.u32.wrap (b.toNat : Int) * 65536))) (IntKind.u32.wrap (IntKind.u32.wrap (c.toNat : Int) * 256))) (IntKind.u32.wrap (d.toNat : Int))

set_option maxRecDepth 100000 in
set_option maxHeartbeats 1000000 in
theorem word_c (w : World) (v : Value) (a b c d : UInt8) (t : List UInt8) (hr : Rd w v (a :: b :: c :: d :: t)) :
    Calls Try.prog 110 #[v] w fun e w' => e = .returned (.int .u32 (wordS a b c d)) ∧ Ext w w' := by
  obtain ⟨A, cap, rfl, hle, hm, hA, hc⟩ := hr
  obtain ⟨g, o, rfl, hcs⟩ := hc (by simp)
  obtain ⟨n, hn⟩ : ∃ n, n = (a :: b :: c :: d :: t).length := ⟨_, rfl⟩
  have hn4 : 4 ≤ n := by rw [hn]; simp
  have c0 := hcs 0 (by simp)
  have c1 := hcs 1 (by simp)
  have c2 := hcs 2 (by simp)
  have c3 := hcs 3 (by simp)
  rw [← hn] at hle ⊢
  clear hcs hc hA hn
  have i0 : (0 : Int) < (n : Int) := by omega
  have i0' : 0 < n := by omega
  have i1 : (1 : Int) < (n : Int) := by omega
  have i2 : (2 : Int) < (n : Int) := by omega
  have i3 : (3 : Int) < (n : Int) := by omega
  simp only [List.getD_cons_zero, List.getD_cons_succ, Nat.add_zero] at c0 c1 c2 c3
  go_enter Try.func110, Try.ntmps110
  go_wp2_with fail
  go_region_held3 (fun W' => W'.cell? ⟨g, o, none⟩ = some (.int .u8 (a.toNat : Int)) ∧ W'.cell? ⟨g, o + 1, none⟩ = some (.int .u8 (b.toNat : Int)) ∧ W'.cell? ⟨g, o + 2, none⟩ = some (.int .u8 (c.toNat : Int)) ∧ W'.cell? ⟨g, o + 3, none⟩ = some (.int .u8 (d.toNat : Int))) ((first | exact ⟨c0, c1, c2, c3⟩ | fail)) (fail)
  go_wp2_with fail
  go_ret
  exact ⟨rfl, (Ext.refl _).drew⟩

set_option maxRecDepth 100000 in
set_option maxHeartbeats 1000000 in
theorem word_r (w : World) (v : Value) (l : List UInt8) (k j : Nat) (hr : Rd w v l) (hj : j = 4 * k) (hk : j + 3 < l.length) :
    Calls Try.prog 61 #[v, .int .i64 (k : Int)] w fun e w' => e = .returned (.int .u32 (wordS (l.getD j 0) (l.getD (j + 1) 0) (l.getD (j + 2) 0) (l.getD (j + 3) 0))) ∧ Ext w w' := by
  have hmx := hr.le
  unfold maxLen at hmx
  obtain ⟨A, cap, rfl, hle, hm, hA, hc⟩ := hr
  obtain ⟨g, o, rfl, hcs⟩ := hc (by intro e; subst e; simp at hk)
  have c0 := hcs j (by omega)
  have c1 := hcs (j + 1) (by omega)
  have c2 := hcs (j + 2) (by omega)
  have c3 := hcs (j + 3) (by omega)
  obtain ⟨n, hn⟩ : ∃ n, n = l.length := ⟨_, rfl⟩
  rw [← hn] at hle hk hmx ⊢
  clear hcs hc hA hn
  generalize l.getD j 0 = x0 at c0 ⊢
  generalize l.getD (j + 1) 0 = x1 at c1 ⊢
  generalize l.getD (j + 2) 0 = x2 at c2 ⊢
  generalize l.getD (j + 3) 0 = x3 at c3 ⊢
  have m0 : IntKind.i64.wrap (4 * (k : Int)) = (j : Int) := by rw [IntKind.wrap_i64]; omega
  have m1 : IntKind.i64.wrap ((j : Int) + 1) = ((j + 1 : Nat) : Int) := by rw [IntKind.wrap_i64]; omega
  have m2 : IntKind.i64.wrap ((j : Int) + 2) = ((j + 2 : Nat) : Int) := by rw [IntKind.wrap_i64]; omega
  have m3 : IntKind.i64.wrap ((j : Int) + 3) = ((j + 3 : Nat) : Int) := by rw [IntKind.wrap_i64]; omega
  obtain ⟨j1, hj1⟩ : ∃ j1, j1 = j + 1 := ⟨_, rfl⟩
  obtain ⟨j2, hj2⟩ : ∃ j2, j2 = j + 2 := ⟨_, rfl⟩
  obtain ⟨j3, hj3⟩ : ∃ j3, j3 = j + 3 := ⟨_, rfl⟩
  rw [← hj1] at m1 c1
  rw [← hj2] at m2 c2
  rw [← hj3] at m3 c3
  have p0 : j < n := by omega
  have p1 : j1 < n := by omega
  have p2 : j2 < n := by omega
  have p3 : j3 < n := by omega
  have i0 : (j : Int) < (n : Int) := by omega
  have i1 : (j1 : Int) < (n : Int) := by omega
  have i2 : (j2 : Int) < (n : Int) := by omega
  have i3 : (j3 : Int) < (n : Int) := by omega
  clear hj hj1 hj2 hj3 hk hmx
  go_enter Try.func61, Try.ntmps61
  go_wp2_with fail
  go_region_held3 (fun W' => W'.cell? ⟨g, o + j, none⟩ = some (.int .u8 (x0.toNat : Int)) ∧ W'.cell? ⟨g, o + j1, none⟩ = some (.int .u8 (x1.toNat : Int)) ∧ W'.cell? ⟨g, o + j2, none⟩ = some (.int .u8 (x2.toNat : Int)) ∧ W'.cell? ⟨g, o + j3, none⟩ = some (.int .u8 (x3.toNat : Int))) ((first | exact ⟨c0, c1, c2, c3⟩ | fail)) (fail)
  go_wp2_with fail
  go_ret
  exact ⟨rfl, (Ext.refl _).drew⟩
end Go.Proofs.Ytimelnihiocngaa
