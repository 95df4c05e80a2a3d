/- What one of each reply is for the walks. -/
import Derived.Test.YtnlfcknpmemhfaaRepH
namespace Go.Proofs.Ytnlfcknpmemhfaa
open Go.ChangeShapes Go.WideShapes Go.ChangeAt Go.RowKit

section
variable {H : Type} {enc : TypeId × Value → H} {w : World} {r : Reach} {b0 : Nat}
set_option maxRecDepth 100000 in
theorem replies_arg {v : Value} {d : DataW H} {p : List MemPlace} (hv : Value.okWide Try.prog w r b0 36 v) (h : DataW.Trod enc Try.prog w 0 (fun _ => true) true 36 v d p) :
    ∃ (a i st wn : Int) (info : ByteArray) (vt : Value) (trk : List UInt8) (k : Bool) (ec : Int) (es et : ByteArray) (ea eb pi px py pz : Int) (f : ByteArray),
      v = .agg (rep17 a i st wn info vt k ec es et ea eb pi px py pz f).toArray ∧ Rd w vt trk ∧ info.size ≤ maxLen ∧ es.size ≤ maxLen ∧ et.size ≤ maxLen ∧ f.size ≤ maxLen ∧
      (0 ≤ a ∧ a < 18446744073709551616) ∧ (0 ≤ i ∧ i < 18446744073709551616) ∧ (0 ≤ st ∧ st < 65536) ∧ (0 ≤ wn ∧ wn < 65536) ∧ (0 ≤ ec ∧ ec < 65536) ∧ (0 ≤ ea ∧ ea < 65536) ∧ (0 ≤ eb ∧ eb < 65536) ∧
      (0 ≤ pi ∧ pi < 4294967296) ∧ (0 ≤ px ∧ px < 65536) ∧ (0 ≤ py ∧ py < 65536) ∧ (0 ≤ pz ∧ pz < 65536) := by
  have U := Try.underlying36
  have C : Try.prog.cellsOf 36 = 17 := by kernel_rfl
  obtain ⟨cs, rfl, hsz⟩ := okWide_struct U hv
  obtain ⟨l⟩ := cs
  obtain ⟨x0, x1, x2, x3, x4, x5, x6, x7, x8, x9, x10, x11, x12, x13, x14, x15, x16, rfl⟩ := list17 l (by rw [← C]; exact hsz)
  obtain ⟨fuel, hf⟩ := h
  have C6 : Try.prog.cellsOf 28 = 6 := by kernel_rfl
  have C3 : Try.prog.cellsOf 30 = 3 := by kernel_rfl
  have C2 : Try.prog.cellsOf 32 = 2 := by kernel_rfl
  have C4 : Try.prog.cellsOf 34 = 4 := by kernel_rfl
  have D8 : Try.prog.cellsOf 5 = 1 := by kernel_rfl
  have D1 : Try.prog.cellsOf 25 = 1 := by kernel_rfl
  have D2 : Try.prog.cellsOf 26 = 1 := by kernel_rfl
  have D3 : Try.prog.cellsOf 23 = 1 := by kernel_rfl
  have D4 : Try.prog.cellsOf 9 = 1 := by kernel_rfl
  have D5 : Try.prog.cellsOf 22 = 1 := by kernel_rfl
  have D6 : Try.prog.cellsOf 4 = 1 := by kernel_rfl
  obtain ⟨m0, y0, g0⟩ := field_at U hf 0 _ rfl 6 C6
  obtain ⟨m1, y1, g1⟩ := field_at U hf 1 _ rfl 1 D6
  obtain ⟨m2, y2, g2⟩ := field_at U hf 2 _ rfl 3 C3
  obtain ⟨m3, y3, g3⟩ := field_at U hf 3 _ rfl 2 C2
  obtain ⟨m4, y4, g4⟩ := field_at U hf 4 _ rfl 4 C4
  obtain ⟨m5, y5, g5⟩ := field_at U hf 5 _ rfl 1 D4
  have V := Try.underlying28
  have X := Try.underlying30
  have Y := Try.underlying32
  have Z := Try.underlying34
  obtain ⟨a0, b0, e0⟩ := field_at V g0 0 _ rfl 1 D1
  obtain ⟨a1, b1, e1⟩ := field_at V g0 1 _ rfl 1 D1
  obtain ⟨a2, b2, e2⟩ := field_at V g0 2 _ rfl 1 D2
  obtain ⟨a3, b3, e3⟩ := field_at V g0 3 _ rfl 1 D2
  obtain ⟨a4, b4, e4⟩ := field_at V g0 4 _ rfl 1 D4
  obtain ⟨a5, b5, e5⟩ := field_at V g0 5 _ rfl 1 D5
  obtain ⟨a7, b7, e7⟩ := field_at X g2 0 _ rfl 1 D2
  obtain ⟨a8, b8, e8⟩ := field_at X g2 1 _ rfl 1 D4
  obtain ⟨a9, b9, e9⟩ := field_at X g2 2 _ rfl 1 D4
  obtain ⟨a10, b10, e10⟩ := field_at Y g3 0 _ rfl 1 D2
  obtain ⟨a11, b11, e11⟩ := field_at Y g3 1 _ rfl 1 D2
  obtain ⟨a12, b12, e12⟩ := field_at Z g4 0 _ rfl 1 D3
  obtain ⟨a13, b13, e13⟩ := field_at Z g4 1 _ rfl 1 D2
  obtain ⟨a14, b14, e14⟩ := field_at Z g4 2 _ rfl 1 D2
  obtain ⟨a15, b15, e15⟩ := field_at Z g4 3 _ rfl 1 D2
  obtain ⟨n0, k0, w0⟩ := leaf_int Try.underlying25 e0
  obtain ⟨n1, k1, w1⟩ := leaf_int Try.underlying25 e1
  obtain ⟨n2, k2, w2⟩ := leaf_int Try.underlying26 e2
  obtain ⟨n3, k3, w3⟩ := leaf_int Try.underlying26 e3
  obtain ⟨n4, k4, w4⟩ := leaf_str Try.underlying9 e4
  obtain ⟨n5, trk, k5, w5⟩ := leaf_rd bt D8 e5
  obtain ⟨n6, k6⟩ := leaf_bool Try.underlying4 g1
  obtain ⟨n7, k7, w7⟩ := leaf_int Try.underlying26 e7
  obtain ⟨n8, k8, w8⟩ := leaf_str Try.underlying9 e8
  obtain ⟨n9, k9, w9⟩ := leaf_str Try.underlying9 e9
  obtain ⟨n10, k10, w10⟩ := leaf_int Try.underlying26 e10
  obtain ⟨n11, k11, w11⟩ := leaf_int Try.underlying26 e11
  obtain ⟨n12, k12, w12⟩ := leaf_int Try.underlying23 e12
  obtain ⟨n13, k13, w13⟩ := leaf_int Try.underlying26 e13
  obtain ⟨n14, k14, w14⟩ := leaf_int Try.underlying26 e14
  obtain ⟨n15, k15, w15⟩ := leaf_int Try.underlying26 e15
  obtain ⟨n16, k16, w16⟩ := leaf_str Try.underlying9 g5
  obtain rfl : x0 = .int .u64 n0 := (List.cons.inj (show [x0] = [.int .u64 n0] from k0)).1
  obtain rfl : x1 = .int .u64 n1 := (List.cons.inj (show [x1] = [.int .u64 n1] from k1)).1
  obtain rfl : x2 = .int .u16 n2 := (List.cons.inj (show [x2] = [.int .u16 n2] from k2)).1
  obtain rfl : x3 = .int .u16 n3 := (List.cons.inj (show [x3] = [.int .u16 n3] from k3)).1
  obtain rfl : x4 = .string n4 := (List.cons.inj (show [x4] = [.string n4] from k4)).1
  obtain rfl : x5 = n5 := (List.cons.inj (show [x5] = [n5] from k5)).1
  obtain rfl : x6 = .bool n6 := (List.cons.inj (show [x6] = [.bool n6] from k6)).1
  obtain rfl : x7 = .int .u16 n7 := (List.cons.inj (show [x7] = [.int .u16 n7] from k7)).1
  obtain rfl : x8 = .string n8 := (List.cons.inj (show [x8] = [.string n8] from k8)).1
  obtain rfl : x9 = .string n9 := (List.cons.inj (show [x9] = [.string n9] from k9)).1
  obtain rfl : x10 = .int .u16 n10 := (List.cons.inj (show [x10] = [.int .u16 n10] from k10)).1
  obtain rfl : x11 = .int .u16 n11 := (List.cons.inj (show [x11] = [.int .u16 n11] from k11)).1
  obtain rfl : x12 = .int .u32 n12 := (List.cons.inj (show [x12] = [.int .u32 n12] from k12)).1
  obtain rfl : x13 = .int .u16 n13 := (List.cons.inj (show [x13] = [.int .u16 n13] from k13)).1
  obtain rfl : x14 = .int .u16 n14 := (List.cons.inj (show [x14] = [.int .u16 n14] from k14)).1
  obtain rfl : x15 = .int .u16 n15 := (List.cons.inj (show [x15] = [.int .u16 n15] from k15)).1
  obtain rfl : x16 = .string n16 := (List.cons.inj (show [x16] = [.string n16] from k16)).1
  exact ⟨_, _, _, _, _, _, trk, _, _, _, _, _, _, _, _, _, _, _, rfl, w5, w4, w8, w9, w16, wf_u64 w0, wf_u64 w1, wf_u16 w2, wf_u16 w3, wf_u16 w7, wf_u16 w10, wf_u16 w11, wf_u32 w12, wf_u16 w13, wf_u16 w14, wf_u16 w15⟩
end
end Go.Proofs.Ytnlfcknpmemhfaa
