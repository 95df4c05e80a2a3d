/- What the functions of the package on numbers and texts compute, as plain functions on lists of bytes. No condition; no program. -/
import Derived.Laws.Small
import Derived.Laws.BitsAllLaws
import Derived.IntWalk
namespace Go.Proofs.Ytdjnjhlgpflcjaa

/-- The n lowest bytes of x, the lowest first. -/
def fixB (x : Int) (n : Nat) : List UInt8 := (List.range n).map fun i => UInt8.ofNat (x / 2 ^ (8 * i) % 256).toNat

theorem fixB_length (x : Int) (n : Nat) : (fixB x n).length = n := by simp [fixB]
theorem fixB_succ (x : Int) (n : Nat) : fixB x (n + 1) = fixB x n ++ [UInt8.ofNat (x / 2 ^ (8 * n) % 256).toNat] := by
  simp [fixB, List.range_succ]

/-- May x be written in n bytes? -/
def fixOk (x n : Int) : Bool := decide (1 ≤ n) && decide (n ≤ 8) && (decide (n = 8) || decide (x / 2 ^ (8 * n).toNat = 0))
/-- The number that the bytes say, the lowest first. -/
def leN : List UInt8 → Nat
  | [] => 0
  | b :: t => b.toNat + 256 * leN t

theorem leN_append (l : List UInt8) (b : UInt8) : leN (l ++ [b]) = leN l + b.toNat * 2 ^ (8 * l.length) := by
  induction l with
  | nil => simp [leN]
  | cons a t ih =>
    rw [List.cons_append, leN, ih, leN, List.length_cons, show 8 * (t.length + 1) = 8 + 8 * t.length by omega, Nat.pow_add]
    have : b.toNat * (2 ^ 8 * 2 ^ (8 * t.length)) = 256 * (b.toNat * 2 ^ (8 * t.length)) := by
      rw [show (2 : Nat) ^ 8 = 256 from rfl, ← Nat.mul_assoc, ← Nat.mul_assoc, Nat.mul_comm b.toNat 256]
    omega

theorem leN_lt (l : List UInt8) : leN l < 2 ^ (8 * l.length) := by
  induction l with
  | nil => simp [leN]
  | cons a t ih =>
    have ha := a.toNat_lt
    rw [leN, List.length_cons, show 8 * (t.length + 1) = 8 + 8 * t.length by omega, Nat.pow_add, show (2 : Nat) ^ 8 = 256 from rfl]
    omega

theorem take_succ_getD (l : List UInt8) (k : Nat) (h : k < l.length) : l.take (k + 1) = l.take k ++ [l[k]?.getD 0] := by
  rw [List.take_succ_eq_append_getElem h, List.getElem?_eq_getElem h]; rfl

theorem leN_take_succ (l : List UInt8) (k : Nat) (h : k < l.length) : leN (l.take (k + 1)) = leN (l.take k) + (l[k]?.getD 0).toNat * 2 ^ (8 * k) := by
  rw [take_succ_getD l k h, leN_append, List.length_take, Nat.min_eq_left (by omega)]

theorem leN_take_lt (l : List UInt8) (k : Nat) : leN (l.take k) < 2 ^ (8 * k) := by
  refine Nat.lt_of_lt_of_le (leN_lt _) (Nat.pow_le_pow_right (by decide) ?_)
  have := List.length_take_le k l
  omega

/-- One round of a fixed number's reading, as the walk writes it. -/
theorem or_byte (a k b : Nat) (ha : a < 2 ^ (8 * k)) (hb : b < 256) (hk : k ≤ 7) :
    bits .or .u64 (a : Int) (IntKind.u64.wrap (IntKind.u64.wrap (b : Int) * 2 ^ (8 * k))) = ((a + b * 2 ^ (8 * k) : Nat) : Int) := by
  have hp : (2 : Nat) ^ (8 * k) * 2 ^ (64 - 8 * k) = 18446744073709551616 := by
    rw [← Nat.pow_add, show 8 * k + (64 - 8 * k) = 64 by omega]
  have hq : 256 ≤ (2 : Nat) ^ (64 - 8 * k) := Nat.pow_le_pow_right (n := 2) (by decide) (show 8 ≤ 64 - 8 * k by omega)
  have h1 : b * 2 ^ (8 * k) < 18446744073709551616 := by
    rw [← hp, Nat.mul_comm]
    exact Nat.mul_lt_mul_of_pos_left (by omega) (Nat.two_pow_pos _)
  have h2 : a < 18446744073709551616 := by
    rw [← hp]
    exact Nat.lt_of_lt_of_le ha (Nat.le_mul_of_pos_right _ (by omega))
  rw [IntWalk.u64_in (b : Int) (by omega), show (b : Int) * 2 ^ (8 * k) = ((b * 2 ^ (8 * k) : Nat) : Int) by simp, IntWalk.u64_in _ (by omega), u64_or_nat a _ h2 h1]
  congr 1
  rw [Nat.or_comm, nat_join (8 * k) _ a (Nat.mul_mod_left _ _) ha, Nat.add_comm]
/-- How many bytes a number's shortest form has. -/
def sizeI (x : Int) : Nat := if x ≤ 250 then 1 else if x < 65536 then 3 else if x < 16777216 then 4 else 9

/-- A counted number. -/
def intB (x : Int) : List UInt8 := if x ≤ 250 then fixB x 1 else if x < 65536 then 252 :: fixB x 2 else if x < 16777216 then 253 :: fixB x 3 else 254 :: fixB x 8

theorem intB_length (x : Int) : (intB x).length = sizeI x := by
  unfold intB sizeI
  split
  · exact fixB_length x 1
  · split
    · simp [fixB_length]
    · split <;> simp [fixB_length]

theorem sizeI_le (x : Int) : 1 ≤ sizeI x ∧ sizeI x ≤ 9 := by
  unfold sizeI
  split
  · omega
  · split
    · omega
    · split <;> omega

/-- How many bytes stand behind a counted number's first byte. -/
def wide (c : UInt8) : Nat := if c = 252 then 2 else if c = 253 then 3 else 8

/-- What is read of a counted number: the number, how many bytes it takes, the error. -/
def readI : List UInt8 → Int × Nat × Int
  | [] => (0, 0, 4)
  | c :: t => if c.toNat ≤ 250 then (c.toNat, 1, 0) else if c = 251 ∨ c = 255 then (0, 0, 5) else if t.length < wide c then (0, 0, 4) else (leN (t.take (wide c)), wide c + 1, 0)
end Go.Proofs.Ytdjnjhlgpflcjaa
