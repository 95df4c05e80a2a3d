import Derived.Test.YtaiakkifefedoaaGrRC
import Derived.Lib.AppendZerosOnto
/- The program's function that reads a switch. (Printed by gen_grF.py.) -/
namespace Go.Proofs.Ytaiakkifefedoaa
open Go.RowKit

def RetSwitch (w : World) (r : (List UInt8 × List UInt8) × Int) (e : Ending) (w' : World) : Prop :=
  ∃ vn, e = .returned (.tuple #[.agg #[.string (strL r.1.1), vn], .int .i64 r.2]) ∧ Rd w' vn r.1.2 ∧ Ext w w'

set_option maxRecDepth 100000 in
set_option maxHeartbeats 4000000 in
theorem readSwitch_g (w : World) (v : Value) (l : List UInt8) (hr : Rd w v l) : Calls Try.prog 8 #[v] w (RetSwitch w (overP switchM ([], []) l)) := by
  obtain ⟨A0, cap0, hv, _, _, _, _⟩ := id hr
  have HR := Lib.hid hr
  clear hr
  subst hv
  obtain ⟨b1, s1, h1⟩ := byte_one (l, 0)
  obtain ⟨x1, hx1⟩ : ∃ x1 : Int, x1 = (b1.toNat : Int) := ⟨_, rfl⟩
  obtain ⟨q1, hk1⟩ : ∃ q, (x1 != 254) = q := ⟨_, rfl⟩
  obtain ⟨s2, h2⟩ : ∃ s, rW q1 s1 = s := ⟨_, rfl⟩
  obtain ⟨pl, s3, h3⟩ : ∃ x s, rZ s2 = (x, s) := ⟨_, _, rfl⟩
  obtain ⟨n, s4, h4⟩ : ∃ x s, rB 20 s3 = (x, s) := ⟨_, _, rfl⟩
  obtain ⟨k1, hn1⟩ : ∃ k, nonceOk n = k := ⟨_, rfl⟩
  obtain ⟨s5, h5⟩ : ∃ s, rW (!k1) s4 = s := ⟨_, rfl⟩
  obtain ⟨s6, h6⟩ : ∃ s, r0 1 s5 = s := ⟨_, rfl⟩
  obtain ⟨s7, h7⟩ : ∃ s, rO s6 = s := ⟨_, rfl⟩
  have hS : overP switchM ([], []) l = (if s7.2 = 0 then (pl, n) else ([], []), s7.2) := by
    have e1 : byteI [b1] = x1 := hx1.symm
    simp only [overP, switchM, bindR, chkR, pureR, h1, e1, hk1, h2, h3, h4, hn1, h5, h6, h7]
  have HX1 := Lib.hid hx1
  have H1 := Lib.hid h1
  have H2 := Lib.hid h2
  have H3 := Lib.hid h3
  have H4 := Lib.hid h4
  have HK1 := Lib.hid hn1
  have H5 := Lib.hid h5
  have H6 := Lib.hid h6
  have H7 := Lib.hid h7
  clear hx1 h1 h2 h3 h4 hn1 h5 h6 h7
  rw [hS]
  clear hS
  by_cases he : s7.2 = 0
  · rw [if_pos he, he]
    have hb : (s7.2 != 0) = false := by simp [he]
    clear he
    go_enter Try.func8, Try.ntmps8
    go_wp2_with fail
    have S0 : St0 w _ (l, 0) [.string ⟨#[]⟩, .slice none 0 0] := St0.start w _ l HR.out [.string ⟨#[]⟩, .slice none 0 0] 28 70 #[.string ⟨#[]⟩, .slice none 0 0] rfl
    generalize (w.alloc _).alloc _ = w0 at S0 ⊢
    go_wp2_with (first
      | (go_at_call 30; refine (take1_g w _ _ _ _ x1 _ HX1.out S0.r H1.out).mono ?_; rintro e w1 ⟨gb1, cb1, rfl, cell1, R1, O1⟩; have S1 := S0.onR R1 O1; clear S0 R1)
      | (go_at_call 29; refine (bad_g w _ _ _ _ (q1) S1.r H2.out).mono ?_; rintro e w2 ⟨rfl, R2, O2⟩; have S2 := S1.onR R2 O2; clear S1 R2)
      | (go_at_call 31; refine (ended_g w _ _ _ _ _ S2.r H3.out).mono ?_; rintro e w3 ⟨rfl, R3, O3⟩; have S3 := S2.onR R3 O3; clear S2 R3)
      | (go_at_call 30; refine (takeS_g w _ _ _ 20 _ _ _ rfl S3.r (by omega) H4.out).mono ?_; rintro e w4 ⟨A4, c4, rfl, ob, R4, O4⟩; have ltob := S3.lt; have S4 := S3.onR R4 O4; clear S3 R4)
      | ((with_reducible show wpList _ _ _ (⟨some 5, _, _, _, _, _⟩ :: _) _ _); refine wpl_alloc rfl _ rfl [.string ⟨#[]⟩, .slice none 0 0] (by kernel_rfl) ?_; intro w5 B5 hx5; have S5 : St w _ w4.heap.size _ [.string ⟨#[]⟩, .slice none 0 0] [.string ⟨#[]⟩, .slice none 0 0] := S4.new hx5 (Nat.le_refl _) B5; have obn : ∀ g9, _ := fun g9 (e : _ = some g9) => (ob.ltB (g := g9) e).2; have obq := ob.ext hx5; clear ob; have ob := obq; clear obq; clear S4)
      | ((with_reducible show wpList _ _ _ (⟨none, Op.store 28 _ _, _, _, _, _⟩ :: _) _ _); refine wpl_store_box rfl _ _ _ rfl _ [.string (strL pl), .slice A4 20 c4] rfl rfl S5.b rfl (by kernel_rfl) (by rfl) ?_; intro w6 B6 O6; have S6 : St w _ w4.heap.size _ [.string ⟨#[]⟩, .slice none 0 0] [.string (strL pl), .slice A4 20 c4] := S5.onV B6 O6; have obq := ob.keepB O6 (fun e => by have h9 := (ob.ltB e).1; have h8 := obn _ e; omega); clear ob; have ob := obq; clear obq; clear S5; have p6_1 : w6.cell? ⟨w4.heap.size, 1, none⟩ = some (.slice A4 20 c4) := S6.b.at (j := 1) rfl)
      | (go_at_call 32; refine (nonce_g _ _ _ k1 ob.rd HK1.out).mono ?_; rintro e wx ⟨rfl, rfl⟩)
      | (go_at_call 29; refine (bad_g w _ _ _ _ (!k1) S6.r H5.out).mono ?_; rintro e w7 ⟨rfl, R7, O7⟩; have S7 := S6.onR R7 O7; have obq := ob.keepB O7 (fun e => by have h9 := (ob.ltB e).1; omega); clear ob; have ob := obq; clear obq; clear S6 R7)
      | (go_at_call 33; refine (zeros_g1 w _ _ _ _ S7.r H6.out).mono ?_; rintro e w8 ⟨rfl, R8, O8⟩; have S8 := S7.onR R8 O8; have obq := ob.keepB O8 (fun e => by have h9 := (ob.ltB e).1; omega); clear ob; have ob := obq; clear obq; clear S7 R8)
      | (go_at_call 34; refine (over_g w _ _ _ _ S8.r H7.out).mono ?_; rintro e w9 ⟨rfl, R9, O9⟩; have S9 := S8.onR R9 O9; have obq := ob.keepB O9 (fun e => by have h9 := (ob.ltB e).1; omega); clear ob; have ob := obq; clear obq; clear S8 R9; have p9_1 : w9.cell? ⟨w4.heap.size, 1, none⟩ = some (.slice A4 20 c4) := S9.b.at (j := 1) rfl; have c1 := S9.r.c1)
      | ((with_reducible show wpList _ _ _ (⟨some 36, _, _, _, _, _⟩ :: _) _ _); refine wpl_load_box rfl _ _ rfl _ rfl S9.b Try.underlying28 rfl (by kernel_rfl) ?_)
      | ((with_reducible show wpList _ _ _ (⟨none, Op.store 28 _ _, _, _, _, _⟩ :: _) _ _); refine wpl_store_box rfl _ _ _ rfl _ [.string (strL pl), .slice A4 20 c4] rfl rfl S9.b0 rfl (by kernel_rfl) (by rfl) ?_; intro wz Bz Oz; have obq := ob.keepB Oz (fun e => by have h9 := (ob.ltB e).1; have := w.heap.size; omega); clear ob; have ob := obq; clear obq)
      | fail)
    try simp only [Exit.inBlock, Exit.then]
    refine ret_box rfl rfl rfl rfl Bz Try.underlying28 rfl (by kernel_rfl) ?_
    exact ⟨_, rfl, ob.rd, S9.ext.on Oz (Nat.le_refl _)⟩
  · rw [if_neg he]
    have hb : (s7.2 != 0) = true := by simpa using he
    clear he
    go_enter Try.func8, Try.ntmps8
    go_wp2_with fail
    have S0 : St0 w _ (l, 0) [.string ⟨#[]⟩, .slice none 0 0] := St0.start w _ l HR.out [.string ⟨#[]⟩, .slice none 0 0] 28 70 #[.string ⟨#[]⟩, .slice none 0 0] rfl
    generalize (w.alloc _).alloc _ = w0 at S0 ⊢
    go_wp2_with (first
      | (go_at_call 30; refine (take1_g w _ _ _ _ x1 _ HX1.out S0.r H1.out).mono ?_; rintro e w1 ⟨gb1, cb1, rfl, cell1, R1, O1⟩; have S1 := S0.onR R1 O1; clear S0 R1)
      | (go_at_call 29; refine (bad_g w _ _ _ _ (q1) S1.r H2.out).mono ?_; rintro e w2 ⟨rfl, R2, O2⟩; have S2 := S1.onR R2 O2; clear S1 R2)
      | (go_at_call 31; refine (ended_g w _ _ _ _ _ S2.r H3.out).mono ?_; rintro e w3 ⟨rfl, R3, O3⟩; have S3 := S2.onR R3 O3; clear S2 R3)
      | (go_at_call 30; refine (takeS_g w _ _ _ 20 _ _ _ rfl S3.r (by omega) H4.out).mono ?_; rintro e w4 ⟨A4, c4, rfl, ob, R4, O4⟩; have ltob := S3.lt; have S4 := S3.onR R4 O4; clear S3 R4)
      | ((with_reducible show wpList _ _ _ (⟨some 5, _, _, _, _, _⟩ :: _) _ _); refine wpl_alloc rfl _ rfl [.string ⟨#[]⟩, .slice none 0 0] (by kernel_rfl) ?_; intro w5 B5 hx5; have S5 : St w _ w4.heap.size _ [.string ⟨#[]⟩, .slice none 0 0] [.string ⟨#[]⟩, .slice none 0 0] := S4.new hx5 (Nat.le_refl _) B5; have obn : ∀ g9, _ := fun g9 (e : _ = some g9) => (ob.ltB (g := g9) e).2; have obq := ob.ext hx5; clear ob; have ob := obq; clear obq; clear S4)
      | ((with_reducible show wpList _ _ _ (⟨none, Op.store 28 _ _, _, _, _, _⟩ :: _) _ _); refine wpl_store_box rfl _ _ _ rfl _ [.string (strL pl), .slice A4 20 c4] rfl rfl S5.b rfl (by kernel_rfl) (by rfl) ?_; intro w6 B6 O6; have S6 : St w _ w4.heap.size _ [.string ⟨#[]⟩, .slice none 0 0] [.string (strL pl), .slice A4 20 c4] := S5.onV B6 O6; have obq := ob.keepB O6 (fun e => by have h9 := (ob.ltB e).1; have h8 := obn _ e; omega); clear ob; have ob := obq; clear obq; clear S5; have p6_1 : w6.cell? ⟨w4.heap.size, 1, none⟩ = some (.slice A4 20 c4) := S6.b.at (j := 1) rfl)
      | (go_at_call 32; refine (nonce_g _ _ _ k1 ob.rd HK1.out).mono ?_; rintro e wx ⟨rfl, rfl⟩)
      | (go_at_call 29; refine (bad_g w _ _ _ _ (!k1) S6.r H5.out).mono ?_; rintro e w7 ⟨rfl, R7, O7⟩; have S7 := S6.onR R7 O7; have obq := ob.keepB O7 (fun e => by have h9 := (ob.ltB e).1; omega); clear ob; have ob := obq; clear obq; clear S6 R7)
      | (go_at_call 33; refine (zeros_g1 w _ _ _ _ S7.r H6.out).mono ?_; rintro e w8 ⟨rfl, R8, O8⟩; have S8 := S7.onR R8 O8; have obq := ob.keepB O8 (fun e => by have h9 := (ob.ltB e).1; omega); clear ob; have ob := obq; clear obq; clear S7 R8)
      | (go_at_call 34; refine (over_g w _ _ _ _ S8.r H7.out).mono ?_; rintro e w9 ⟨rfl, R9, O9⟩; have S9 := S8.onR R9 O9; have obq := ob.keepB O9 (fun e => by have h9 := (ob.ltB e).1; omega); clear ob; have ob := obq; clear obq; clear S8 R9; have p9_1 : w9.cell? ⟨w4.heap.size, 1, none⟩ = some (.slice A4 20 c4) := S9.b.at (j := 1) rfl; have c1 := S9.r.c1)
      | ((with_reducible show wpList _ _ _ (⟨none, Op.store 28 _ _, _, _, _, _⟩ :: _) _ _); refine wpl_store_box rfl _ _ _ rfl _ [.string ⟨#[]⟩, .slice none 0 0] rfl rfl S9.b0 rfl (by kernel_rfl) (by rfl) ?_; intro wz Bz Oz; have obq := ob.keepB Oz (fun e => by have h9 := (ob.ltB e).1; have := w.heap.size; omega); clear ob; have ob := obq; clear obq)
      | fail)
    try simp only [Exit.inBlock, Exit.then]
    refine ret_box rfl rfl rfl rfl Bz Try.underlying28 rfl (by kernel_rfl) ?_
    exact ⟨_, rfl, Rd.nil _, S9.ext.on Oz (Nat.le_refl _)⟩
end Go.Proofs.Ytaiakkifefedoaa
/- 'append(out, make([]byte, n)...)', where the call owns out. -/
namespace Go.Proofs.Ytaiakkifefedoaa
open Go.RowKit

section
variable {P : Program} {w : World}
theorem zeroCells_bc (k : Nat) : (Builtin.zeroCells (Value.int .u8 0).cells k).toList = bc (List.replicate k 0) := by
  show ((Array.range (k * 1)).map fun i => (#[Value.int .u8 0] : Array Value)[i % 1]!).toList = _
  rw [Array.toList_map, Nat.mul_one]
  apply List.ext_getElem
  · simp [bc]
  · intro i h1 h2
    simp [bc, Nat.mod_one]
theorem run_append_room_zeros (t tn ty e : TypeId) (i : TypeInfo) (z : Value) (kq kn : IntKind) (ht : P.underlying t = some (.slice e)) (htn : P.underlying tn = some (.int kn)) (hi : P.info? e = some i) (hz : i.zero = some z)
    (g sLen sCap : Nat) (cur : Array Value) (hg : w.heap[g]? = some (.cells cur e (0, 0))) (k : Nat) (h0 : 0 < k) (hs : 0 < i.size) (zs : List Value) (hzs : (Builtin.zeroCells z.cells k).toList = zs) (h1 : ∀ v ∈ zs, v.oneCell' = true)
    (hroom : sLen + k ≤ sCap) (hfit : sLen * i.size + zs.length ≤ cur.size) (h63 : (k : Int) ≤ 9223372036854775807) (h48 : k * i.bytes ≤ 281474976710656) :
    (Builtin.append_ #[t, tn] ty #[.slice (some ⟨g, 0, none⟩) sLen sCap, .int kq k]).run P w =
      .ok (.slice (some ⟨g, 0, none⟩) (sLen + k) sCap) (w.setRow g (cur.toList.take (sLen * i.size) ++ zs ++ cur.toList.drop (sLen * i.size + zs.length)).toArray) := by
  subst hzs
  have hw : IntKind.i64.wrap (k : Int) = k := by rw [IntKind.wrap_i64]; omega
  have hst := run_storeCells_at P g (sLen * i.size) e _ 0 cur w hg (by simpa using hfit) h1
  simp only [Nat.add_zero] at hst
  have h48i : ¬ (281474976710656 < (k : Int) * (i.bytes : Int)) := by
    rw [← Int.natCast_mul]
    omega
  have hneg : ¬ ((k : Int) < 0) := by omega
  have hns : ¬ (k * i.size = 0) := Nat.mul_ne_zero (by omega) (by omega)
  simp [Builtin.append_, run_underlying ht, run_underlying htn, sizeOf, typeInfo, zeroValue, hi, hz, asInt, asIntOf, hw, hneg, hns, h48i, hroom, Addr.add_lit]
  rw [hst]
  simp

theorem run_append_zerosN (hT : BT P) (htn : P.underlying 3 = some (.int .i64)) (ty : TypeId) {base : Nat} {v : Value} {l : List UInt8} (hown : Own w base v l) (k : Nat) (h0 : 0 < k) (hk : l.length + k ≤ 100000000) (hbase : base ≤ w.heap.size) (kq : IntKind) :
    ∃ v' w', (Builtin.append_ #[22, 3] ty #[v, .int kq (k : Int)]).run P w = .ok v' w' ∧ Own w' base v' (l ++ List.replicate k 0) ∧ w.grownBy w' v.ownBlock := by
  obtain ⟨i, hi, hz, hs1, hb1⟩ := hT.info
  have hzc := zeroCells_bc k
  have hzl : (Builtin.zeroCells (Value.int .u8 0).cells k).size = k := by rw [← Array.length_toList, hzc, bc_length, List.length_replicate]
  have hlen : (bc (l ++ List.replicate k 0)).length = (l.length + k) * 1 := by rw [bc_length, List.length_append, List.length_replicate, Nat.mul_one]
  unfold Own
  rw [List.length_append, List.length_replicate]
  rcases hown.2 with ⟨rfl, hl0⟩ | ⟨g, cap, cur, rfl, hbg, hg, hnc, hcm, hcs, htake⟩
  · have hl : l = [] := List.eq_nil_of_length_eq_zero hl0
    subst hl
    have hr := Lib.run_append_nil_zeros (P := P) w 22 3 ty 5 i (.int .u8 0) kq .i64 hT.sl htn hi hz k h0 (by omega) (by simp at hk; omega) (by simp at hk; rw [hb1]; omega)
    have hge := grownCap_ge w k 0 5
    have hcm := grownCap_le_maxLen w k 0 5 (by simp at hk; unfold maxLen; omega)
    refine ⟨_, _, hr, ⟨hlen, .inr ⟨w.heap.size, _, _, by simp, hbase, _root_.Go.heap_alloc_new w.drew _, by simpa using hge, hcm, ?_, ?_⟩⟩, ⟨rfl, rfl, rfl, by simp, fun j hj _ => _root_.Go.heap_alloc_old w.drew _ hj⟩⟩
    · rw [Array.size_append, hzl, size_zeroCells]
      show k + (grownCap w k 0 5 - k) * 1 = _
      omega
    · rw [Array.toList_append, hzc]
      simp only [List.length_nil, Nat.zero_add, Nat.mul_one, List.nil_append]
      have e : k = (bc (List.replicate k 0)).length := by rw [bc_length, List.length_replicate]
      conv => lhs; arg 1; rw [e]
      exact List.take_left
  · by_cases hroom : l.length + k ≤ cap
    · have hr := run_append_room_zeros (P := P) (w := w) 22 3 ty 5 i (.int .u8 0) kq .i64 hT.sl htn hi hz g l.length cap cur hg k h0 (by omega) _ hzc (bc_one _) hroom (by rw [hs1, bc_length, List.length_replicate, hcs]; omega) (by omega) (by rw [hb1]; omega)
      refine ⟨_, _, hr, ⟨hlen, .inr ⟨g, cap, _, rfl, hbg, setRow_heap w g cur _ _ _ hg, hroom, hcm, ?_, ?_⟩⟩, ⟨rfl, rfl, rfl, by simp, fun k _ hk => setRow_other w g k _ (fun e => hk (by simp [Value.ownBlock, e]))⟩⟩
      · simp only [List.size_toArray, List.length_append, List.length_take, List.length_drop, Array.length_toList, bc_length, List.length_replicate, hs1]
        omega
      · rw [hs1, htake, bc_append]
        have e : (l.length + k) * 1 = (bc l ++ bc (List.replicate k 0)).length := by rw [List.length_append, bc_length, bc_length, List.length_replicate, Nat.mul_one]
        rw [e]
        exact List.take_left
    · have holds : ∀ j u, (bc l)[j]? = some u → w.drew.cell? ((⟨g, 0, none⟩ : Addr).add j) = some u := fun j u hj => World.ownsRow.cells (g := g) hown rfl j u hj
      have hold := run_firstCells_some (P := P) w.drew i.size l.length ⟨g, 0, none⟩ l.length cap (bc l) (by rw [bc_length, hs1, Nat.mul_one]) holds
      have hr := Lib.run_append_grow_zeros (P := P) w 22 3 ty 5 i (.int .u8 0) kq .i64 hT.sl htn hi hz (some ⟨g, 0, none⟩) l.length cap (bc l) hold k h0 (by omega) (by omega) (by omega) (by rw [hb1]; omega) (growslice_fits (by omega) (by rw [hb1]; omega))
      have hge := grownCap_ge w (l.length + k) cap 5
      have hcm := grownCap_le_maxLen w (l.length + k) cap 5 (by unfold maxLen; omega)
      refine ⟨_, _, hr, ⟨hlen, .inr ⟨w.heap.size, _, _, rfl, hbase, _root_.Go.heap_alloc_new w.drew _, hge, hcm, ?_, ?_⟩⟩, ⟨rfl, rfl, rfl, by simp, fun j hj _ => _root_.Go.heap_alloc_old w.drew _ hj⟩⟩
      · rw [Array.size_append, Array.size_append, hzl, size_zeroCells, List.size_toArray, bc_length]
        show l.length + k + (grownCap w (l.length + k) cap 5 - (l.length + k)) * 1 = _
        omega
      · rw [Array.toList_append, Array.toList_append, hzc, bc_append]
        have e : (l.length + k) * 1 = (bc l ++ bc (List.replicate k 0)).length := by rw [List.length_append, bc_length, bc_length, List.length_replicate, Nat.mul_one]
        rw [e]
        exact List.take_left
end
section
variable {P : Program} {ops : Array Oper} {rest : List Oper} {o : Oper} {a : Act} {w : World} {Q : Exit → Act → World → Prop}
theorem wpl_append_zeros (hT : BT P) (htn : P.underlying 3 = some (.int .i64)) {base : Nat} {v : Value} {l : List UInt8} (hown : Own w base v l) (k : Nat) (h0 : 0 < k)
    (hgd : o.guard = none) (s x : Operand) (ho : o.op = .call { callee := .builtin .append, args := #[s, x], argTypes := #[22, 3] })
    (hs : a.eval s = v) (kq : IntKind) (hx : a.eval x = .int kq (k : Int)) (hlen : l.length + k ≤ 100000000) (hbase : base ≤ w.heap.size)
    (h : ∀ v' w', Own w' base v' (l ++ List.replicate k 0) → Below base w w' → w.grownBy w' v.ownBlock → wpList P ops Q rest (a.put o.dst v') w') : wpList P ops Q (o :: rest) a w := by
  refine wpList_plain hgd fun K hK => ?_
  obtain ⟨v', w', hr, h2, h3⟩ := run_append_zerosN (P := P) (w := w) hT htn o.type hown k h0 hlen hbase kq
  unfold Oper.wp execOp
  simp only [ho, resolve, invoke, builtin, Sem.run_bind, Sem.run_pure, Result.andThen_ok, List.map_toArray, List.map_cons, List.map_nil, hs, hx, hr]
  exact hK _ _ (h v' w' h2 (Own.below_of hown hbase h3) h3)
end
end Go.Proofs.Ytaiakkifefedoaa
