import Derived.Test.YtbodppfpmpmadaaGreatL1C
import Derived.Deep.QuietTactic
import Derived.BigQuiet
import Derived.ProofKit
import Derived.SliceStrings
import Derived.Deep.CutRange
import Derived.WalkKit
import Derived.WalkSpells
import Derived.Lib.Hide
import Derived.Laws.BitsAllLaws
/- Logins: what both sides can do. -/
namespace Go.Proofs.YtbodppfpmpmadaaGreat
open Go.RowKit

/-- All that is needed is there. -/
def checkC (c : Int) : Int := if bits .and .u32 c 565760 == 565760 then 0 else 5
theorem needed_c (w : World) : Calls Tryz.prog 91 #[] w fun e w' => e = .returned (.int .u32 565760) ∧ w = w' := by
  go_enter Tryz.func91, Tryz.ntmps91
  go_wp2_with fail
  go_ret
  exact ⟨rfl, rfl⟩
theorem capsCheck_c (w : World) (c : Int) : Calls Tryz.prog 56 #[.int .u32 c] w fun e w' => e = .returned (.int .i64 (checkC c)) ∧ w = w' := by
  obtain ⟨m, hm⟩ : ∃ m, bits .and .u32 c 565760 = m := ⟨_, rfl⟩
  unfold checkC
  rw [hm]
  by_cases h : m = 565760
  · subst h
    go_enter Tryz.func56, Tryz.ntmps56
    go_wp2_with (go_at_call 91; refine (needed_c _).mono ?_; rintro e wx ⟨rfl, rfl⟩)
    go_ret
    exact ⟨rfl, rfl⟩
  · have hb : (m == 565760) = false := by simp [h]
    have hn : (m != 565760) = true := by simp [h]
    rw [hb]
    go_enter Tryz.func56, Tryz.ntmps56
    go_wp2_with (go_at_call 91; refine (needed_c _).mono ?_; rintro e wx ⟨rfl, rfl⟩)
    go_ret
    exact ⟨rfl, rfl⟩

/-- What hangs on what: the cells. -/
def hangsL : List Value := [.int .u32 29294760, .int .u32 512, .int .u32 3145728, .int .u32 524288, .int .u32 65536, .int .u32 131072]
theorem hangs_c (w : World) : Calls Tryz.prog 155 #[] w fun e w' => ∃ g, e = .returned (.slice (some ⟨g, 0, none⟩) 3 3) ∧ Box w' g hangsL ∧ Ext w w' := by
  go_enter Tryz.func155, Tryz.ntmps155
  go_wp2_with fail
  go_ret
  exact ⟨_, rfl, Box.new w hangsL _, (Ext.refl w).alloc _⟩
def dropC (c mask on : Int) : Int := if bits .and .u32 c on == 0 then bits .andNot .u32 c mask else c
def bothK (c : Int) : Nat → Int
  | 0 => c
  | 1 => dropC c 29294760 512
  | 2 => dropC (dropC c 29294760 512) 3145728 524288
  | _ => dropC (dropC (dropC c 29294760 512) 3145728 524288) 65536 131072
/-- What is done between two sides. -/
def bothC (s c : Int) : Int := bothK (bits .and .u32 s c) 3
set_option maxHeartbeats 1000000 in
theorem both_c (w : World) (s c : Int) : Calls Tryz.prog 100 #[.int .u32 s, .int .u32 c] w fun e w' => e = .returned (.int .u32 (bothC s c)) ∧ Ext w w' := by
  obtain ⟨m, hm⟩ : ∃ m, bits .and .u32 s c = m := ⟨_, rfl⟩
  unfold bothC
  rw [hm]
  go_enter Tryz.func100, Tryz.ntmps100
  go_wp2_with (go_at_call 155; refine (hangs_c _).mono ?_; rintro e w1 ⟨g, rfl, hb1, hx1⟩)
  have HB := Lib.hid hb1
  have HX := Lib.hid hx1
  clear hb1 hx1 hm
  go_loopw [5, 7, 13] (fun v _ i W => ∃ k : Nat, k ≤ 3 ∧ i = .int .i64 k ∧ v = .int .u32 (bothK m k) ∧ Ext w1 W) (fun _ _ i _ => 3 - (intOf i).toNat)
  case atStart => exact ⟨0, by omega, rfl, rfl, Ext.refl _⟩
  case round =>
    obtain ⟨k, hk, rfl, rfl, hx⟩ := hrel
    have B := HB.out.ext hx
    have p0 : wr.cell? ⟨g, 0, none⟩ = some (.int .u32 29294760) := B 0 (by decide)
    have p1 : wr.cell? ⟨g, 1, none⟩ = some (.int .u32 512) := B 1 (by decide)
    have p2 : wr.cell? ⟨g, 2, none⟩ = some (.int .u32 3145728) := B 2 (by decide)
    have p3 : wr.cell? ⟨g, 3, none⟩ = some (.int .u32 524288) := B 3 (by decide)
    have p4 : wr.cell? ⟨g, 4, none⟩ = some (.int .u32 65536) := B 4 (by decide)
    have p5 : wr.cell? ⟨g, 5, none⟩ = some (.int .u32 131072) := B 5 (by decide)
    clear B
    have hc : k = 0 ∨ k = 1 ∨ k = 2 ∨ k = 3 := by omega
    rcases hc with rfl | rfl | rfl | rfl
    · obtain ⟨v0, hv0⟩ : ∃ v0, v0 = bothK m 0 := ⟨_, rfl⟩
      have hs : bothK m 1 = if bits .and .u32 v0 512 == 0 then bits .andNot .u32 v0 29294760 else v0 := by rw [hv0]; rfl
      rw [← hv0]
      obtain ⟨a9, ha9⟩ : ∃ a9, bits .and .u32 v0 512 = a9 := ⟨_, rfl⟩
      rw [ha9] at hs
      have HS := Lib.hid hs
      clear hv0 hs
      by_cases h0 : a9 = 0
      · have hq : (a9 == 0) = true := by simp [h0]
        have e : bothK m 1 = bits .andNot .u32 v0 29294760 := by rw [HS.out, hq]; rfl
        have HE := Lib.hid e
        clear e
        go_wp2_with fail
        go_roundw
        case rel => exact ⟨1, by omega, rfl, by rw [HE.out], (by first | exact hx | exact hx.alloc _)⟩
        case measure => simp [intOf]
      · have hq : (a9 == 0) = false := by simp [h0]
        have e : bothK m 1 = v0 := by rw [HS.out, hq]; rfl
        have HE := Lib.hid e
        clear e
        go_wp2_with fail
        go_roundw
        case rel => exact ⟨1, by omega, rfl, by rw [HE.out], (by first | exact hx | exact hx.alloc _)⟩
        case measure => simp [intOf]
    · obtain ⟨v0, hv0⟩ : ∃ v0, v0 = bothK m 1 := ⟨_, rfl⟩
      have hs : bothK m 2 = if bits .and .u32 v0 524288 == 0 then bits .andNot .u32 v0 3145728 else v0 := by rw [hv0]; rfl
      rw [← hv0]
      obtain ⟨a9, ha9⟩ : ∃ a9, bits .and .u32 v0 524288 = a9 := ⟨_, rfl⟩
      rw [ha9] at hs
      have HS := Lib.hid hs
      clear hv0 hs
      by_cases h0 : a9 = 0
      · have hq : (a9 == 0) = true := by simp [h0]
        have e : bothK m 2 = bits .andNot .u32 v0 3145728 := by rw [HS.out, hq]; rfl
        have HE := Lib.hid e
        clear e
        go_wp2_with fail
        go_roundw
        case rel => exact ⟨2, by omega, rfl, by rw [HE.out], (by first | exact hx | exact hx.alloc _)⟩
        case measure => simp [intOf]
      · have hq : (a9 == 0) = false := by simp [h0]
        have e : bothK m 2 = v0 := by rw [HS.out, hq]; rfl
        have HE := Lib.hid e
        clear e
        go_wp2_with fail
        go_roundw
        case rel => exact ⟨2, by omega, rfl, by rw [HE.out], (by first | exact hx | exact hx.alloc _)⟩
        case measure => simp [intOf]
    · obtain ⟨v0, hv0⟩ : ∃ v0, v0 = bothK m 2 := ⟨_, rfl⟩
      have hs : bothK m 3 = if bits .and .u32 v0 131072 == 0 then bits .andNot .u32 v0 65536 else v0 := by rw [hv0]; rfl
      rw [← hv0]
      obtain ⟨a9, ha9⟩ : ∃ a9, bits .and .u32 v0 131072 = a9 := ⟨_, rfl⟩
      rw [ha9] at hs
      have HS := Lib.hid hs
      clear hv0 hs
      by_cases h0 : a9 = 0
      · have hq : (a9 == 0) = true := by simp [h0]
        have e : bothK m 3 = bits .andNot .u32 v0 65536 := by rw [HS.out, hq]; rfl
        have HE := Lib.hid e
        clear e
        go_wp2_with fail
        go_roundw
        case rel => exact ⟨3, by omega, rfl, by rw [HE.out], (by first | exact hx | exact hx.alloc _)⟩
        case measure => simp [intOf]
      · have hq : (a9 == 0) = false := by simp [h0]
        have e : bothK m 3 = v0 := by rw [HS.out, hq]; rfl
        have HE := Lib.hid e
        clear e
        go_wp2_with fail
        go_roundw
        case rel => exact ⟨3, by omega, rfl, by rw [HE.out], (by first | exact hx | exact hx.alloc _)⟩
        case measure => simp [intOf]
    · go_wp2_with fail
      go_ret
      exact ⟨rfl, HX.out.trans hx⟩
end Go.Proofs.YtbodppfpmpmadaaGreat
/- Logins: helpers on bytes; texts of users; users. -/
namespace Go.Proofs.YtbodppfpmpmadaaGreat
open Go.RowKit

theorem rd_cells {w : World} {A : Option Addr} {n cap : Nat} {l : List UInt8} (h : Rd w (.slice A n cap) l) (hn : 0 < n) : ∃ b o, A = some ⟨b, o, none⟩ ∧ n = l.length ∧ ∀ k, k < n → w.cell? ⟨b, o + k, none⟩ = some (.int .u8 ((l.getD k 0).toNat : Int)) := by
  obtain ⟨A', cap', hv, _, _, _, h4⟩ := h
  injection hv with e1 e2 e3
  subst e1 e2
  obtain ⟨b, o, rfl, hc⟩ := h4 (by intro e; subst e; simp at hn)
  exact ⟨b, o, rfl, rfl, hc⟩
theorem getD_of {l : List UInt8} {k : Nat} (h : k < l.length) : l.getD k 0 = l[k] := by rw [List.getD_eq_getElem?_getD, List.getElem?_eq_getElem h]; rfl
theorem not_contains_of {l : List UInt8} {b : UInt8} (h : ∀ j, j < l.length → l.getD j 0 ≠ b) : l.contains b = false := by
  rw [Bool.eq_false_iff]
  intro hc
  have hm := List.contains_iff_mem.1 hc
  obtain ⟨j, hj, e⟩ := List.getElem_of_mem hm
  exact h j hj (by rw [getD_of hj, e])
theorem contains_of {l : List UInt8} {b : UInt8} {k : Nat} (h : k < l.length) (e : l.getD k 0 = b) : l.contains b = true := by
  rw [List.contains_iff_mem, ← e, getD_of h]
  exact List.getElem_mem _

set_option maxHeartbeats 1000000 in
theorem index_c (w : World) (v : Value) (l : List UInt8) (b : UInt8) (hr : Rd w v l) :
    Calls Tryz.prog 151 #[v, .int .u8 (b.toNat : Int)] w fun e w' => (∃ r : Int, e = .returned (.int .i64 r) ∧ l.contains b = decide (0 ≤ r) ∧ -1 ≤ r ∧ r ≤ 9223372036854775807) ∧ Ext w w' := by
  have HR := Lib.hid hr
  obtain ⟨A, cap, rfl, hle, hm, _⟩ := id hr
  obtain ⟨N, hN⟩ : ∃ N, N = l.length := ⟨_, rfl⟩
  rw [← hN] at hle ⊢
  unfold maxLen at hm
  have HN := Lib.hid hN
  obtain ⟨x, hx0⟩ : ∃ x : Int, x = (b.toNat : Int) := ⟨_, rfl⟩
  rw [← hx0]
  have HX0 := Lib.hid hx0
  clear hr hN hx0
  go_enter Tryz.func151, Tryz.ntmps151
  go_wp2_with fail
  go_loopw [5, 8] (fun _ i W => ∃ k : Nat, k ≤ N ∧ i = .int .i64 k ∧ Hid (∀ j, j < k → l.getD j 0 ≠ b) ∧ Ext w W) (fun _ i _ => N - (intOf i).toNat)
  case atStart => exact ⟨0, Nat.zero_le _, rfl, Lib.hid (fun j hj => absurd hj (by omega)), Ext.refl _⟩
  case round =>
    obtain ⟨k, hk, rfl, HA, hx⟩ := hrel
    by_cases hkN : k < N
    · have hbk : (k : Int) < (N : Int) := by omega
      have hr9 := HR.out.ext hx
      rw [← HN.out] at hr9
      obtain ⟨b0, o0, rfl, hn2, hcs⟩ := rd_cells hr9 (by omega)
      have p0 := hcs k hkN
      obtain ⟨y, hy⟩ : ∃ y : Int, y = ((l.getD k 0).toNat : Int) := ⟨_, rfl⟩
      rw [← hy] at p0
      have HY := Lib.hid hy
      have HK := Lib.hid (show k < l.length by have := HN.out; omega)
      clear hr9 hn2 hcs hy
      by_cases he : x = y
      · have hq : (x == y) = true := by simp [he]
        have hc : l.contains b = true := contains_of HK.out (by have h1 := HX0.out; have h2 := HY.out; apply UInt8.toNat_inj.1; omega)
        have HC := Lib.hid hc
        have HE := Lib.hid he
        clear he hc
        go_wp2_with fail
        go_ret
        exact ⟨⟨_, rfl, by rw [HC.out]; simp, by omega, by omega⟩, hx⟩
      · have hq : (x == y) = false := by simp [he]
        have hne : l.getD k 0 ≠ b := fun e9 => he (by rw [HX0.out, HY.out, e9])
        have HE := Lib.hid hne
        clear he hne
        go_wp2_with fail
        go_roundw
        case rel => exact ⟨k + 1, by omega, by go_num, Lib.hid (fun j hj => by rcases Nat.lt_succ_iff_lt_or_eq.1 hj with h | h; exact HA.out j h; subst h; exact HE.out), hx⟩
        case measure => simp [intOf]; omega
    · obtain rfl : k = N := by omega
      have hc : l.contains b = false := not_contains_of (fun j hj => HA.out j (by have := HN.out; omega))
      have HC := Lib.hid hc
      clear hc
      go_wp2_with fail
      go_ret
      exact ⟨⟨_, rfl, by rw [HC.out]; rfl, by omega, by omega⟩, hx⟩
theorem contains_c (w : World) (v : Value) (l : List UInt8) (b : UInt8) (hr : Rd w v l) :
    Calls Tryz.prog 94 #[v, .int .u8 (b.toNat : Int)] w fun e w' => e = .returned (.bool (l.contains b)) ∧ Ext w w' := by
  have HR := Lib.hid hr
  obtain ⟨A, cap, rfl, _⟩ := hr
  obtain ⟨q, hq⟩ : ∃ q, q = l.contains b := ⟨_, rfl⟩
  rw [← hq]
  have HQ := Lib.hid hq
  clear hq
  go_enter Tryz.func94, Tryz.ntmps94
  go_wp2_with (go_at_call 151; refine (index_c _ _ l b HR.out).mono ?_; rintro e w1 ⟨⟨r, rfl, hr1, _, _⟩, hx1⟩)
  go_ret
  exact ⟨congrArg (fun z => Ending.returned (.bool z)) (by rw [HQ.out, hr1]), hx1⟩
end Go.Proofs.YtbodppfpmpmadaaGreat
/- What an argument that came in as a slice of bytes is for the walks: it reads as a list. -/
namespace Go.Proofs.YtbodppfpmpmadaaGreat
open Go.RowKit

theorem rd_of {w : World} {a : Option Addr} {len cap : Nat} {zs : List Int}
    (h : (a = none ∧ len = 0 ∧ cap = 0 ∧ zs = []) ∨ ∃ x, a = some x ∧ len ≤ cap ∧ cap ≤ maxLen ∧ zs.length = cap ∧ (∀ i, i < zs.length → w.cell? (x.add i) = some (.int .u8 (zs.getD i 0))) ∧ ∀ n ∈ zs, (Lit.int .u8 n).wf = true) :
    ∃ l : List UInt8, Rd w (.slice a len cap) l ∧ l.length = len := by
  rcases h with ⟨rfl, rfl, rfl, rfl⟩ | ⟨x, rfl, hl, hm, hz, hc, hw⟩
  · exact ⟨[], Rd.nil w, rfl⟩
  · have hlen : ((zs.take len).map fun n => UInt8.ofNat n.toNat).length = len := by rw [List.length_map, List.length_take, hz, Nat.min_eq_left hl]
    refine ⟨(zs.take len).map fun n => UInt8.ofNat n.toNat, ⟨some x, cap, by rw [hlen], by rw [hlen]; exact hl, hm, (fun h => by cases h), fun hne => ?_⟩, hlen⟩
    have hpos : 0 < len := by
      rcases Nat.eq_zero_or_pos len with h0 | h0
      · exact absurd (List.eq_nil_of_length_eq_zero (by rw [hlen]; exact h0)) hne
      · exact h0
    have h0 := hc 0 (by omega)
    obtain ⟨b, o, sp⟩ := x
    have hsp : sp = none := by
      cases sp with
      | none => rfl
      | some s =>
        have e : (⟨b, o, some s⟩ : Addr).add 0 = ⟨b, o, some s⟩ := rfl
        rw [e] at h0
        unfold World.cell? at h0
        split at h0 <;> simp at h0
    subst hsp
    refine ⟨b, o, rfl, fun j hj => ?_⟩
    rw [hlen] at hj
    have h1 := hc j (by omega)
    rw [addrk] at h1
    rw [h1]
    have hjz : j < zs.length := by omega
    have hwf := hw zs[j] (List.getElem_mem hjz)
    have hb : 0 ≤ zs[j] ∧ zs[j] ≤ 255 := by
      simp [Lit.wf, IntKind.min, IntKind.max, IntKind.signed, IntKind.bits] at hwf
      omega
    have e1 : zs.getD j 0 = zs[j] := by rw [List.getD_eq_getElem?_getD, List.getElem?_eq_getElem hjz]; rfl
    have e2 : ((zs.take len).map fun n => UInt8.ofNat n.toNat).getD j 0 = UInt8.ofNat zs[j].toNat := by
      rw [List.getD_eq_getElem?_getD, List.getElem?_map, List.getElem?_take, if_pos hj, List.getElem?_eq_getElem hjz]; rfl
    rw [e1, e2]
    congr 2
    rw [UInt8.toNat_ofNat']
    omega

theorem wf_u64 {x : Int} (h : (Lit.int .u64 x).wf = true) : 0 ≤ x ∧ x < 18446744073709551616 := by
  simp [Lit.wf, IntKind.min, IntKind.max, IntKind.signed, IntKind.bits] at h
  omega
theorem wf_u32 {x : Int} (h : (Lit.int .u32 x).wf = true) : 0 ≤ x ∧ x < 4294967296 := by
  simp [Lit.wf, IntKind.min, IntKind.max, IntKind.signed, IntKind.bits] at h
  omega
theorem wf_u16 {x : Int} (h : (Lit.int .u16 x).wf = true) : 0 ≤ x ∧ x < 65536 := by
  simp [Lit.wf, IntKind.min, IntKind.max, IntKind.signed, IntKind.bits] at h
  omega
theorem wf_i64 {x : Int} (h : (Lit.int .i64 x).wf = true) : -9223372036854775808 ≤ x ∧ x ≤ 9223372036854775807 := by
  simp [Lit.wf, IntKind.min, IntKind.max, IntKind.signed, IntKind.bits] at h
  omega
end Go.Proofs.YtbodppfpmpmadaaGreat
/- What the arguments that came in are for the walks: bytes, numbers and texts that lie in memory, one by one. -/
namespace Go.Proofs.YtbodppfpmpmadaaGreat
open Go.ChangeShapes Go.WideShapes Go.ChangeAt Go.RowKit

section
variable {H : Type} {enc : TypeId × Value → H} {P : Program} {w : World} {base : Nat} {spare : Nat → Bool} {held : Bool} {r : Reach} {b0 : Nat}

theorem addr_spot {w : World} {x : Addr} {u : Value} (h : w.cell? x = some u) : ∃ b o, x = ⟨b, o, none⟩ := by
  obtain ⟨b, o, sp⟩ := x
  cases sp with
  | none => exact ⟨b, o, rfl⟩
  | some s =>
    unfold World.cell? at h
    split at h <;> simp at h

theorem cells_ints {t e : TypeId} {k : IntKind} {v : Value} {d : DataW H} {p : List MemPlace} (ht : P.underlying t = some (.slice e)) (he : P.underlying e = some (.int k)) (hc : P.cellsOf e = 1)
    (hv : Value.okWide P w r b0 t v) (h : DataW.Trod enc P w 0 (fun _ => true) true t v d p) :
    ∃ xs : List Int, Cells w v xs.length (fun i => .int k (xs.getD i 0)) ∧ ∀ i, i < xs.length → (Lit.int k (xs.getD i 0)).wf = true := by
  obtain ⟨a, len, cap, rfl⟩ := okWide_slice ht hv
  obtain ⟨fuel, hf⟩ := h
  rcases open_ints ht he hc hf with ⟨hcs, _⟩ | ⟨x, l, c, zs, hcs, _, hl, hm, hz, _, hcell, hwz⟩
  · simp [Value.cells] at hcs
    obtain ⟨rfl, rfl, rfl⟩ := hcs
    exact ⟨[], ⟨none, 0, rfl, Nat.le_refl _, by unfold maxLen; simp, fun h => by simp at h⟩, fun i hi => by simp at hi⟩
  · simp [Value.cells] at hcs
    obtain ⟨rfl, rfl, rfl⟩ := hcs
    simp only [if_true] at hz
    have hlen : (zs.take len).length = len := by rw [List.length_take]; omega
    have hget : ∀ i, i < len → (zs.take len).getD i 0 = zs.getD i 0 := fun i hi => by
      rw [List.getD_eq_getElem?_getD, List.getD_eq_getElem?_getD, List.getElem?_take, if_pos hi]
    refine ⟨zs.take len, ⟨some x, cap, by rw [hlen], by rw [hlen]; exact hl, hm, fun h0 => ?_⟩, fun i hi => ?_⟩
    · rw [hlen] at h0
      have h1 := hcell 0 (by omega)
      obtain ⟨b, o, rfl⟩ := addr_spot (x := x) h1
      refine ⟨b, o, rfl, fun j hj => ?_⟩
      rw [hlen] at hj
      simp only [hget j hj]
      rw [← addrk]
      exact hcell j (by omega)
    · rw [hlen] at hi
      rw [hget i hi, List.getD_eq_getElem?_getD, List.getElem?_eq_getElem (by omega)]
      exact hwz _ (List.getElem_mem _)

theorem cells_strings {t e : TypeId} {v : Value} {d : DataW H} {p : List MemPlace} (ht : P.underlying t = some (.slice e)) (he : P.underlying e = some .string) (hc : P.cellsOf e = 1)
    (hv : Value.okWide P w r b0 t v) (h : DataW.Trod enc P w 0 (fun _ => true) true t v d p) :
    ∃ ss : List ByteArray, Cells w v ss.length (fun i => .string (ss.getD i ByteArray.empty)) ∧ ∀ i, i < ss.length → (ss.getD i ByteArray.empty).size ≤ maxLen := by
  obtain ⟨a, len, cap, rfl⟩ := okWide_slice ht hv
  obtain ⟨fuel, hf⟩ := h
  rcases open_strings ht he hc hf with ⟨hcs, _⟩ | ⟨x, l, c, zs, hcs, _, hl, hm, hz, _, hcell, hwz⟩
  · simp [Value.cells] at hcs
    obtain ⟨rfl, rfl, rfl⟩ := hcs
    exact ⟨[], ⟨none, 0, rfl, Nat.le_refl _, by unfold maxLen; simp, fun h => by simp at h⟩, fun i hi => by simp at hi⟩
  · simp [Value.cells] at hcs
    obtain ⟨rfl, rfl, rfl⟩ := hcs
    simp only [if_true] at hz
    have hlen : (zs.take len).length = len := by rw [List.length_take]; omega
    have hget : ∀ i, i < len → (zs.take len).getD i ByteArray.empty = zs.getD i ByteArray.empty := fun i hi => by
      rw [List.getD_eq_getElem?_getD, List.getD_eq_getElem?_getD, List.getElem?_take, if_pos hi]
    refine ⟨zs.take len, ⟨some x, cap, by rw [hlen], by rw [hlen]; exact hl, hm, fun h0 => ?_⟩, fun i hi => ?_⟩
    · rw [hlen] at h0
      have h1 := hcell 0 (by omega)
      obtain ⟨b, o, rfl⟩ := addr_spot (x := x) h1
      refine ⟨b, o, rfl, fun j hj => ?_⟩
      rw [hlen] at hj
      simp only [hget j hj]
      rw [← addrk]
      exact hcell j (by omega)
    · rw [hlen] at hi
      rw [hget i hi, List.getD_eq_getElem?_getD, List.getElem?_eq_getElem (by omega)]
      exact hwz _ (List.getElem_mem _)

/-- A slice of bytes that came in. -/
theorem rd_arg {v : Value} {d : DataW H} {p : List MemPlace} (hT : BT P) (hc : P.cellsOf 5 = 1)
    (hv : Value.okWide P w r b0 22 v) (h : DataW.Trod enc P w 0 (fun _ => true) true 22 v d p) : ∃ l : List UInt8, Rd w v l := by
  obtain ⟨a, len, cap, rfl⟩ := okWide_slice hT.sl hv
  obtain ⟨fuel, hf⟩ := h
  rcases open_ints hT.sl hT.el hc hf with ⟨hcs, _⟩ | ⟨x, l, c, zs, hcs, _, hl, hm, hz, _, hcell, hwz⟩
  · simp [Value.cells] at hcs
    obtain ⟨rfl, rfl, rfl⟩ := hcs
    exact ⟨[], Rd.nil w⟩
  · simp [Value.cells] at hcs
    obtain ⟨rfl, rfl, rfl⟩ := hcs
    obtain ⟨l, hl, _⟩ := rd_of (w := w) (a := some x) (len := len) (cap := cap) (zs := zs) (.inr ⟨x, rfl, hl, hm, by simpa using hz, hcell, hwz⟩)
    exact ⟨l, hl⟩
end
end Go.Proofs.YtbodppfpmpmadaaGreat
/- What a struct that came in is for the walks: its fields, one by one. -/
namespace Go.Proofs.YtbodppfpmpmadaaGreat
open Go.ChangeShapes Go.WideShapes Go.ChangeAt Go.RowKit

section
variable {H : Type} {enc : TypeId × Value → H} {P : Program} {w : World} {base : Nat} {spare : Nat → Bool} {held : Bool} {r : Reach} {b0 : Nat}

/-- A field of a struct that is read whole. -/
theorem field_at {t : TypeId} {fs : Array Field} {fuel : Nat} {cs : List Value} {x : DataW H × List MemPlace} (ht : P.underlying t = some (.struct fs)) (h : DataW.trod enc P w base spare held fuel t cs = some x)
    (i : Nat) (f : Field) (hf : fs[i]? = some f) (n : Nat) (hn : P.cellsOf f.type = n) : ∃ m y, DataW.trod enc P w base spare held m f.type ((cs.drop f.offset).take n) = some y := by
  obtain ⟨xs, m, _, _, _, hlen, hg⟩ := DataW.trod_struct ht h
  obtain ⟨hi, _⟩ := Array.getElem?_eq_some_iff.1 hf
  have h1 := hg i f hf
  rw [hn, List.getElem?_eq_getElem (by omega)] at h1
  exact ⟨m, _, h1⟩

/-- A slice of bytes among a struct's cells. -/
theorem leaf_rd (hT : BT P) (hc : P.cellsOf 5 = 1) {fuel : Nat} {cs : List Value} {x : DataW H × List MemPlace} (h : DataW.trod enc P w 0 (fun _ => true) true fuel 22 cs = some x) :
    ∃ v l, cs = [v] ∧ Rd w v l := by
  rcases open_ints hT.sl hT.el hc h with ⟨hcs, _⟩ | ⟨x, l, c, zs, hcs, _, hl, hm, hz, _, hcell, hwz⟩
  · exact ⟨_, [], hcs, Rd.nil w⟩
  · obtain ⟨l', hl', _⟩ := rd_of (w := w) (a := some x) (len := l) (cap := c) (zs := zs) (.inr ⟨x, rfl, hl, hm, by simpa using hz, hcell, hwz⟩)
    exact ⟨_, l', hcs, hl'⟩
theorem leaf_str {t : TypeId} (ht : P.underlying t = some .string) {fuel : Nat} {cs : List Value} {x : DataW H × List MemPlace} (h : DataW.trod enc P w base spare held fuel t cs = some x) : ∃ s : ByteArray, cs = [.string s] ∧ s.size ≤ maxLen := by
  obtain ⟨s, h1, _, h2⟩ := DataW.trod_string ht h
  exact ⟨s, h1, h2⟩
theorem leaf_bool {t : TypeId} (ht : P.underlying t = some .bool) {fuel : Nat} {cs : List Value} {x : DataW H × List MemPlace} (h : DataW.trod enc P w base spare held fuel t cs = some x) : ∃ b, cs = [.bool b] := by
  obtain ⟨s, h1, _⟩ := DataW.trod_bool ht h
  exact ⟨s, h1⟩
theorem leaf_int {t : TypeId} {k : IntKind} (ht : P.underlying t = some (.int k)) {fuel : Nat} {cs : List Value} {x : DataW H × List MemPlace} (h : DataW.trod enc P w base spare held fuel t cs = some x) : ∃ n, cs = [.int k n] ∧ (Lit.int k n).wf = true := by
  obtain ⟨s, h1, _, h2⟩ := DataW.trod_int ht h
  exact ⟨s, h1, h2⟩
/-- A list's cells, as many as are said. -/
theorem list17 {α : Type} (l : List α) (h : l.length = 17) : ∃ a b c d e f g h i j k m n o p q r, l = [a, b, c, d, e, f, g, h, i, j, k, m, n, o, p, q, r] := by
  match l, h with
  | [a, b, c, d, e, f, g, h, i, j, k, m, n, o, p, q, r], _ => exact ⟨a, b, c, d, e, f, g, h, i, j, k, m, n, o, p, q, r, rfl⟩
end
end Go.Proofs.YtbodppfpmpmadaaGreat
/- Logins: copies, sameness; texts of users. -/
namespace Go.Proofs.YtbodppfpmpmadaaGreat
open Go.RowKit

theorem cloneS_c (w : World) (v : Value) (l : List UInt8) (hr : Rd w v l) (hl : l.length ≤ 100000000) : Calls Tryz.prog 43 #[v] w (RetB w l) := by
  have H := Lib.hid hr
  obtain ⟨A, cap, rfl, hle, hm, hA, hc⟩ := hr
  rcases A with _ | ad
  · have hl0 : l = [] := by
      rcases l with _ | ⟨x, l⟩
      · rfl
      · obtain ⟨b, o, h, _⟩ := hc (by simp)
        cases h
    subst hl0
    clear hc hA
    have hn := fun wx => Lib.run_eql_slice_nil (P := Tryz.prog) wx 22 5 none 0 cap 0 0 Tryz.underlying22
    go_enter Tryz.func43, Tryz.ntmps43
    go_wp2_with fail
    go_ret
    exact ⟨_, rfl, Own.nil _ _, Ext.refl _⟩
  · clear hc hA
    have hn := fun wx => Lib.run_eql_slice_nil (P := Tryz.prog) wx 22 5 (some ad) l.length cap 0 0 Tryz.underlying22
    go_enter Tryz.func43, Tryz.ntmps43
    go_wp2_with (at_builtin; refine wpl_append_rd bt (base := w.heap.size) (l := []) (own_new w #[] [] rfl 0 rfl (by decide) (Nat.le_refl _)) ((H.out).ext ((Ext.refl w).alloc _)) rfl _ _ rfl rfl rfl (by simp; omega) (by simp) ?_; intro v1 w1 ho hb)
    go_ret
    exact ⟨_, rfl, ho, ((Ext.refl w).alloc _).below hb (Nat.le_refl _)⟩

set_option maxHeartbeats 1000000 in
theorem equalS_c (w : World) (va vb : Value) (l m : List UInt8) (ha : Rd w va l) (hb : Rd w vb m) :
    Calls Tryz.prog 139 #[va, vb] w fun e w' => e = .returned (.bool (l == m)) ∧ Ext w w' := by
  have HA := Lib.hid ha
  have HB := Lib.hid hb
  obtain ⟨A, cA, rfl, hle, hmA, _⟩ := id ha
  obtain ⟨B, cB, rfl, _⟩ := id hb
  obtain ⟨N, hN⟩ : ∃ N, N = l.length := ⟨_, rfl⟩
  obtain ⟨M, hM⟩ : ∃ M, M = m.length := ⟨_, rfl⟩
  obtain ⟨q, hq⟩ : ∃ q, q = (l == m) := ⟨_, rfl⟩
  rw [← hN, ← hM, ← hq]
  rw [← hN] at hle
  unfold maxLen at hmA
  have HN := Lib.hid hN
  have HM := Lib.hid hM
  have HQ := Lib.hid hq
  clear ha hb hN hM hq
  by_cases hNM : N = M
  · subst hNM
    go_enter Tryz.func139, Tryz.ntmps139
    go_wp2_with fail
    go_loopw [5, 13] (fun _ i W => ∃ k : Nat, k ≤ N ∧ i = .int .i64 k ∧ Hid (∀ j, j < k → l.getD j 0 = m.getD j 0) ∧ Ext w W) (fun _ i _ => N - (intOf i).toNat)
    case atStart => exact ⟨0, Nat.zero_le _, rfl, Lib.hid (fun j hj => absurd hj (by omega)), Ext.refl _⟩
    case round =>
      obtain ⟨k, hk, rfl, HK, hx⟩ := hrel
      by_cases hkN : k < N
      · have hbk : (k : Int) < (N : Int) := by omega
        have hr9 := HA.out.ext hx
        rw [← HN.out] at hr9
        obtain ⟨b0, o0, rfl, _, hcs⟩ := rd_cells hr9 (by omega)
        have hs9 := HB.out.ext hx
        rw [← HM.out] at hs9
        obtain ⟨b1, o1, rfl, _, hds⟩ := rd_cells hs9 (by omega)
        have p0 := hcs k hkN
        have q0 := hds k hkN
        obtain ⟨x, hx1⟩ : ∃ x : Int, x = ((l.getD k 0).toNat : Int) := ⟨_, rfl⟩
        obtain ⟨y, hy1⟩ : ∃ y : Int, y = ((m.getD k 0).toNat : Int) := ⟨_, rfl⟩
        rw [← hx1] at p0
        rw [← hy1] at q0
        have HX := Lib.hid hx1
        have HY := Lib.hid hy1
        clear hr9 hs9 hcs hds hx1 hy1
        by_cases he : x = y
        · have hqn : (x != y) = false := by simp [he]
          have hne : l.getD k 0 = m.getD k 0 := by apply UInt8.toNat_inj.1; have h1 := HX.out; have h2 := HY.out; omega
          have HE := Lib.hid hne
          clear he hne
          go_wp2_with fail
          (try dsimp only [Act.put])
          go_quiet (fail)
          go_wp2_with fail
          go_roundw
          case rel => exact ⟨k + 1, by omega, by go_num, Lib.hid (fun j hj => by rcases Nat.lt_succ_iff_lt_or_eq.1 hj with h | h; exact HK.out j h; subst h; exact HE.out), hx.drewN _⟩
          case measure => simp [intOf]; omega
        · have hqn : (x != y) = true := by simp [he]
          have hf : q = false := by
            rw [HQ.out, beq_eq_false_iff_ne]
            intro e9
            rw [e9] at HX
            exact he (by rw [HX.out, HY.out])
          subst hf
          clear he
          go_wp2_with fail
          (try dsimp only [Act.put])
          go_quiet (fail)
          go_wp2_with fail
          go_ret
          exact ⟨rfl, hx.drewN _⟩
      · obtain rfl : k = N := by omega
        have ht : q = true := by
          rw [HQ.out, beq_iff_eq]
          refine List.ext_getElem (by rw [← HN.out, ← HM.out]) (fun j h1 h2 => ?_)
          rw [← getD_of h1, ← getD_of h2]
          exact HK.out j (by have := HN.out; omega)
        subst ht
        go_wp2_with fail
        go_ret
        exact ⟨rfl, hx⟩
  · have hne : ((N : Int) != (M : Int)) = true := by simp; omega
    have hf : q = false := by
      rw [HQ.out, beq_eq_false_iff_ne]
      intro e9
      exact hNM (by rw [HN.out, HM.out, e9])
    subst hf
    go_enter Tryz.func139, Tryz.ntmps139
    go_wp2_with fail
    go_ret
    exact ⟨rfl, Ext.refl _⟩

section
variable {P : Program} {ops : Array Oper} {rest : List Oper} {o : Oper} {a : Act} {w : World} {Q : Exit → Act → World → Prop}
/-- '[]byte(s)', guarded. -/
theorem wpl_bytes_g (hT : BT P) (s : ByteArray) (hn : s.size ≤ maxLen) {j : Nat} {b c : Bool} (hg : o.guard = some (j, b)) (hy : yielded ops a.tmps j = some c) (hc : c = b) (x : Operand) (ho : o.op = .convert 9 22 x) (hx : a.eval x = .string s)
    (h : ∀ A m c w', Rd w' (.slice A m c) s.data.toList → Ext w w' → wpList P ops Q rest (a.put o.dst (.slice A m c)) w') : wpList P ops Q (o :: rest) a w :=
  wpList_step fun K hK => by
    have hw : Region.wanted o (yielded ops a.tmps) = true := by
      subst hc
      simp [Region.wanted, hg, hy]
    rw [if_pos hw]
    have hr := Lib.run_convert_string_bytes (P := P) w 9 22 5 s hT.st hT.sl hT.el
    unfold Oper.wp execOp
    simp only [ho, hx, hr, Sem.run_bind, Sem.run_pure, Result.andThen_ok]
    refine hK _ _ (h _ _ _ _ ?_ ?_)
    · refine ⟨_, _, by rw [size_toList], by rw [size_toList]; exact grownCap_ge _ _ _ _, grownCap_le_maxLen _ _ _ _ hn, (fun h => by cases h), fun _ => ⟨_, 0, rfl, fun j hj => ?_⟩⟩
      rw [size_toList] at hj
      rw [Nat.zero_add]
      exact Lib.bytesWorld_cell w 5 s j hj
    · exact ⟨rfl, rfl, rfl, by rw [Lib.bytesWorld_size]; omega, fun k hk => Lib.bytesWorld_at_old w 5 s k hk⟩
end
/-- A text of a user that may be. -/
def plainU (l : List UInt8) : Bool := decide (l.length ≤ 64) && !l.contains 0
set_option maxHeartbeats 1000000 in
theorem plainU_c (w : World) (l : List UInt8) : Calls Tryz.prog 53 #[.string (strL l)] w fun e w' => e = .returned (.bool (plainU l)) ∧ Ext w w' := by
  obtain ⟨t, ht⟩ : ∃ t, t = strL l := ⟨_, rfl⟩
  obtain ⟨q, hq⟩ : ∃ q, q = plainU l := ⟨_, rfl⟩
  have hsz : t.size = l.length := by rw [ht, strL_size]
  rw [← ht, ← hq]
  unfold plainU at hq
  have HT := Lib.hid ht
  by_cases h64 : l.length ≤ 64
  · have hb : (t.size : Int) ≤ 64 := by omega
    have hq2 : q = !l.contains 0 := by rw [hq]; simp [h64]
    have HQ := Lib.hid hq2
    have HS := Lib.hid (show t.size ≤ maxLen by unfold maxLen; omega)
    clear hq hq2 hsz h64 ht
    go_enter Tryz.func53, Tryz.ntmps53
    go_wp2_with (first
      | ((with_reducible show wpList _ _ _ (⟨some 8, _, _, _, _, _⟩ :: _) _ _); refine wpl_bytes_g bt t HS.out (j := 3) rfl rfl rfl _ rfl rfl ?_; intro A m c w1 hr1 hx1; rw [HT.out, strL_toList] at hr1)
      | (go_at_call 94; refine (contains_c _ _ l 0 hr1).mono ?_; rintro e w2 ⟨rfl, hx2⟩)
      | fail)
    go_ret
    exact ⟨congrArg (fun z => Ending.returned (.bool z)) (by rw [HQ.out]; simp), hx1.trans hx2⟩
  · have hb : ¬ (t.size : Int) ≤ 64 := by omega
    have hf : q = false := by rw [hq]; simp [h64]
    subst hf
    clear hq hsz h64 ht
    go_enter Tryz.func53, Tryz.ntmps53
    go_wp2_with fail
    go_ret
    exact ⟨rfl, Ext.refl _⟩
end Go.Proofs.YtbodppfpmpmadaaGreat
/- Logins: users that may be. -/
namespace Go.Proofs.YtbodppfpmpmadaaGreat
open Go.RowKit

def natL : List UInt8 := [109, 121, 115, 113, 108, 95, 110, 97, 116, 105, 118, 101, 95, 112, 97, 115, 115, 119, 111, 114, 100]
def fastL : List UInt8 := [99, 97, 99, 104, 105, 110, 103, 95, 115, 104, 97, 50, 95, 112, 97, 115, 115, 119, 111, 114, 100]
/-- A user: name, password, plugin, schema, admin. -/
structure UserV where
  name : List UInt8
  pw : List UInt8
  pl : List UInt8
  sc : List UInt8
  adm : Bool
def userC (u : UserV) : List Value := [.string (strL u.name), .string (strL u.pw), .string (strL u.pl), .string (strL u.sc), .bool u.adm]
def oursP (pl : List UInt8) : Bool := pl == natL || pl == fastL
def okU (u : UserV) : Bool := !u.name.isEmpty && (plainU u.name && (plainU u.pw && (plainU u.sc && oursP u.pl)))
def checkU (u : UserV) : Int := if okU u then 0 else 2
theorem strL_eq (a b : List UInt8) : ((strL a).toList == (strL b).toList) = (a == b) := by rw [strL_tl, strL_tl]
set_option maxHeartbeats 4000000 in
theorem checkU_c (w : World) (name pw pl sc : List UInt8) (adm : Bool) : Calls Tryz.prog 19 #[.agg #[.string (strL name), .string (strL pw), .string (strL pl), .string (strL sc), .bool adm]] w fun e w' => e = .returned (.int .i64 (checkU ⟨name, pw, pl, sc, adm⟩)) ∧ Ext w w' := by
  obtain ⟨q0, e0⟩ : ∃ q, (strL name).toList.isEmpty = q := ⟨_, rfl⟩
  obtain ⟨q1, e1⟩ : ∃ q, plainU name = q := ⟨_, rfl⟩
  obtain ⟨q2, e2⟩ : ∃ q, plainU pw = q := ⟨_, rfl⟩
  obtain ⟨q3, e3⟩ : ∃ q, plainU sc = q := ⟨_, rfl⟩
  have hr : checkU ⟨name, pw, pl, sc, adm⟩ = if (!q0 && (q1 && (q2 && (q3 && oursP pl)))) then 0 else 2 := by
    unfold checkU okU
    rw [e1, e2, e3]
    rw [strL_tl] at e0
    rw [e0]
  rw [hr]
  clear hr
  have H1 := Lib.hid e1
  have H2 := Lib.hid e2
  have H3 := Lib.hid e3
  clear e1 e2 e3
  cases q0 with
  | true =>
    go_enter Tryz.func19, Tryz.ntmps19
    go_wp2_with fail
    go_ret
    exact ⟨rfl, (Ext.refl _).alloc _⟩
  | false =>
    obtain ⟨q4, e4⟩ : ∃ q, q = (pl == natL) := ⟨_, rfl⟩
    obtain ⟨q5, e5⟩ : ∃ q, q = (pl == fastL) := ⟨_, rfl⟩
    have ho : oursP pl = (q4 || q5) := by unfold oursP; rw [← e4, ← e5]
    rw [ho]
    have g4 : ((strL pl).toList == [109, 121, 115, 113, 108, 95, 110, 97, 116, 105, 118, 101, 95, 112, 97, 115, 115, 119, 111, 114, 100]) = q4 := by rw [strL_tl]; exact e4.symm
    have g5 : ((strL pl).toList == [99, 97, 99, 104, 105, 110, 103, 95, 115, 104, 97, 50, 95, 112, 97, 115, 115, 119, 111, 114, 100]) = q5 := by rw [strL_tl]; exact e5.symm
    clear ho e4 e5
    cases q1 <;> cases q2 <;> cases q3 <;> cases q4 <;> cases q5
    all_goals
      have tok1 : True := trivial
      go_enter Tryz.func19, Tryz.ntmps19
      go_upto_region 1 with fail
      generalize hW0 : w.alloc _ = wS
      have HB := Lib.hid (show BoxF wS w.heap.size [.string (strL name), .string (strL pw), .string (strL pl), .string (strL sc), .bool adm] by rw [← hW0]; exact BoxF.new w _ _)
      have HX0 := Lib.hid (show Ext w wS by rw [← hW0]; exact (Ext.refl w).alloc _)
      clear hW0
      have c0 := HB.out.at (j := 0) rfl
      go_wp2_with (first
      | ((with_reducible show Calls _ _ #[Value.string (strL name)] _ _); have _t := tok1; go_at_call 53; refine (plainU_c _ name).mono ?_; rintro e w1 ⟨rfl, hx1⟩; rw [H1.out]; clear tok1; have tok2 : True := trivial; have hE := hx1; have B1 := HB.out.ext hE; have c1 := B1.at (j := 1) rfl; have c2 := B1.at (j := 2) rfl; have c3 := B1.at (j := 3) rfl; clear B1)
      | ((with_reducible show Calls _ _ #[Value.string (strL pw)] _ _); have _t := tok2; go_at_call 53; refine (plainU_c _ pw).mono ?_; rintro e w2 ⟨rfl, hx2⟩; rw [H2.out]; clear tok2 c1 c2 c3; have tok3 : True := trivial; replace hE := hE.trans hx2; have B1 := HB.out.ext hE; have c2 := B1.at (j := 2) rfl; have c3 := B1.at (j := 3) rfl; clear B1)
      | ((with_reducible show Calls _ _ #[Value.string (strL sc)] _ _); have _t := tok3; go_at_call 53; refine (plainU_c _ sc).mono ?_; rintro e w3 ⟨rfl, hx3⟩; rw [H3.out]; clear tok3 c2 c3; replace hE := hE.trans hx3; have B1 := HB.out.ext hE; have c2 := B1.at (j := 2) rfl; clear B1)
      | fail)
      go_ret
      exact ⟨rfl, HX0.out.trans hE⟩
end Go.Proofs.YtbodppfpmpmadaaGreat
/- Logins: a door's small methods. (Cells: 0 users, 1 to 7 the greeting, 8 hello, 9 state, 10 capabilities, 11 next, 12 to 16 the user, 17 known, 18 schema.) -/
namespace Go.Proofs.YtbodppfpmpmadaaGreat
open Go.RowKit

theorem dnone_c (w : World) (g : Nat) (st : Int) (c9 : w.cell? ⟨g, 9, none⟩ = some (.int .i64 st)) :
    Calls Tryz.prog 38 #[.pointer (some ⟨g, 0, none⟩)] w fun e w' => e = .returned (.bool (st == 0)) ∧ w = w' := by
  go_enter Tryz.func38, Tryz.ntmps38
  go_wp2_with fail
  go_ret
  exact ⟨rfl, rfl⟩
theorem dnone_nil (w : World) : Calls Tryz.prog 38 #[.pointer none] w fun e w' => e = .returned (.bool true) ∧ w = w' := by
  go_enter Tryz.func38, Tryz.ntmps38
  go_wp2_with fail
  go_ret
  exact ⟨rfl, rfl⟩
theorem dstate_c (w : World) (g : Nat) (st : Int) (c9 : w.cell? ⟨g, 9, none⟩ = some (.int .i64 st)) :
    Calls Tryz.prog 10 #[.pointer (some ⟨g, 0, none⟩)] w fun e w' => e = .returned (.int .i64 st) ∧ w = w' := by
  obtain ⟨q, hq⟩ : ∃ q, (st == 0) = q := ⟨_, rfl⟩
  have HQ := Lib.hid hq
  cases q with
  | true =>
    have hz : st = 0 := by simpa using hq
    subst hz
    clear hq HQ
    go_enter Tryz.func10, Tryz.ntmps10
    go_wp2_with (go_at_call 38; refine (dnone_c _ g 0 c9).mono ?_; rintro e wx ⟨rfl, rfl⟩)
    go_ret
    exact ⟨rfl, rfl⟩
  | false =>
    clear hq
    go_enter Tryz.func10, Tryz.ntmps10
    go_wp2_with (go_at_call 38; refine (dnone_c _ g st c9).mono ?_; rintro e wx ⟨rfl, rfl⟩; rw [HQ.out])
    go_ret
    exact ⟨rfl, rfl⟩
theorem ddone_c (w : World) (g : Nat) (st : Int) (c9 : w.cell? ⟨g, 9, none⟩ = some (.int .i64 st)) :
    Calls Tryz.prog 47 #[.pointer (some ⟨g, 0, none⟩)] w fun e w' => e = .returned (.bool (st == 2)) ∧ w = w' := by
  obtain ⟨q, hq⟩ : ∃ q, (st == 0) = q := ⟨_, rfl⟩
  have HQ := Lib.hid hq
  cases q with
  | true =>
    have hz : st = 0 := by simpa using hq
    subst hz
    clear hq HQ
    go_enter Tryz.func47, Tryz.ntmps47
    go_wp2_with (go_at_call 38; refine (dnone_c _ g 0 c9).mono ?_; rintro e wx ⟨rfl, rfl⟩)
    go_ret
    exact ⟨rfl, rfl⟩
  | false =>
    clear hq
    go_enter Tryz.func47, Tryz.ntmps47
    go_wp2_with (go_at_call 38; refine (dnone_c _ g st c9).mono ?_; rintro e wx ⟨rfl, rfl⟩; rw [HQ.out])
    go_ret
    exact ⟨rfl, rfl⟩
theorem dschema_c (w : World) (g : Nat) (st : Int) (t : ByteArray) (c9 : w.cell? ⟨g, 9, none⟩ = some (.int .i64 st)) (c18 : w.cell? ⟨g, 18, none⟩ = some (.string t)) :
    Calls Tryz.prog 13 #[.pointer (some ⟨g, 0, none⟩)] w fun e w' => e = .returned (.string (if st = 2 then t else ByteArray.empty)) ∧ w = w' := by
  by_cases hq : st = 2
  · subst hq
    rw [if_pos rfl]
    go_enter Tryz.func13, Tryz.ntmps13
    go_wp2_with (go_at_call 47; refine (ddone_c _ g 2 c9).mono ?_; rintro e wx ⟨rfl, rfl⟩)
    go_ret
    exact ⟨rfl, rfl⟩
  · rw [if_neg hq]
    have HQ := Lib.hid (show (st == 2) = false by simp [hq])
    clear hq
    go_enter Tryz.func13, Tryz.ntmps13
    go_wp2_with (go_at_call 47; refine (ddone_c _ g st c9).mono ?_; rintro e wx ⟨rfl, rfl⟩; rw [HQ.out])
    go_ret
    exact ⟨rfl, rfl⟩
/-- It ends, ill. -/
theorem dfail_c (w : World) (g : Nat) (cs : List Value) (v : Value) (B : BoxF w g cs) (hl : cs.length = 19) :
    Calls Tryz.prog 41 #[.pointer (some ⟨g, 0, none⟩), v] w fun e w' => e = .returned v ∧ BoxF w' g (cs.set 9 (.int .i64 3)) ∧ On g w w' := by
  have HB := Lib.hid B
  have HL := Lib.hid hl
  clear B hl
  go_enter Tryz.func41, Tryz.ntmps41
  go_wp2_with ((with_reducible show wpList _ _ _ (⟨none, Op.store _ _ _, _, _, _, _⟩ :: _) _ _); refine wpl_store_cell rfl _ _ _ rfl g 9 (.int .i64 3) rfl rfl rfl rfl (by kernel_rfl) HB.out (by have := HL.out; omega) ?_; intro w1 B1 O1)
  go_ret
  exact ⟨rfl, B1, O1⟩
end Go.Proofs.YtbodppfpmpmadaaGreat
/- Words of 32 bits: what is turned to the left. (Printed by gen_shaA.py.) -/
namespace Go.Proofs.YtbodppfpmpmadaaGreat
open Go.RowKit

/-- x turned to the left by n, as the program writes it. -/
def rolS (x : Int) (n : Nat) : Int := bits .or .u32 (IntKind.u32.wrap (x * 2 ^ n)) (x / 2 ^ (32 - n))

set_option maxRecDepth 100000 in
theorem rotl_1 (w : World) (x : Int) :
    Calls Tryz.prog 218 #[.int .u32 x, .int .i64 (1)] w fun e w' => e = .returned (.int .u32 (rolS x 1)) ∧ w = w' := by
  have hb : bits .and .u64 1 31 = 1 := by decide
  go_enter Tryz.func218, Tryz.ntmps218
  go_wp2_with fail
  go_ret
  exact ⟨rfl, rfl⟩
theorem rol_1 (w : World) (x : Int) :
    Calls Tryz.prog 213 #[.int .u32 x, .int .u64 1] w fun e w' => e = .returned (.int .u32 (rolS x 1)) ∧ w = w' := by
  go_enter Tryz.func213, Tryz.ntmps213
  go_wp2_with fail
  go_ret
  exact ⟨rfl, rfl⟩

set_option maxRecDepth 100000 in
theorem rotl_5 (w : World) (x : Int) :
    Calls Tryz.prog 218 #[.int .u32 x, .int .i64 (5)] w fun e w' => e = .returned (.int .u32 (rolS x 5)) ∧ w = w' := by
  have hb : bits .and .u64 5 31 = 5 := by decide
  go_enter Tryz.func218, Tryz.ntmps218
  go_wp2_with fail
  go_ret
  exact ⟨rfl, rfl⟩
theorem rol_5 (w : World) (x : Int) :
    Calls Tryz.prog 213 #[.int .u32 x, .int .u64 5] w fun e w' => e = .returned (.int .u32 (rolS x 5)) ∧ w = w' := by
  go_enter Tryz.func213, Tryz.ntmps213
  go_wp2_with fail
  go_ret
  exact ⟨rfl, rfl⟩

set_option maxRecDepth 100000 in
theorem rotl_30 (w : World) (x : Int) :
    Calls Tryz.prog 218 #[.int .u32 x, .int .i64 (30)] w fun e w' => e = .returned (.int .u32 (rolS x 30)) ∧ w = w' := by
  have hb : bits .and .u64 30 31 = 30 := by decide
  go_enter Tryz.func218, Tryz.ntmps218
  go_wp2_with fail
  go_ret
  exact ⟨rfl, rfl⟩
theorem rol_30 (w : World) (x : Int) :
    Calls Tryz.prog 213 #[.int .u32 x, .int .u64 30] w fun e w' => e = .returned (.int .u32 (rolS x 30)) ∧ w = w' := by
  go_enter Tryz.func213, Tryz.ntmps213
  go_wp2_with fail
  go_ret
  exact ⟨rfl, rfl⟩

set_option maxRecDepth 100000 in
theorem rotlm_25 (w : World) (x : Int) :
    Calls Tryz.prog 218 #[.int .u32 x, .int .i64 (-7)] w fun e w' => e = .returned (.int .u32 (rolS x 25)) ∧ w = w' := by
  have hb : bits .and .u64 18446744073709551609 31 = 25 := by decide
  have hw : IntKind.u64.wrap ((-7)) = 18446744073709551609 := by decide
  go_enter Tryz.func218, Tryz.ntmps218
  go_wp2_with fail
  go_ret
  exact ⟨rfl, rfl⟩
theorem ror_25 (w : World) (x : Int) :
    Calls Tryz.prog 219 #[.int .u32 x, .int .i64 7] w fun e w' => e = .returned (.int .u32 (rolS x 25)) ∧ w = w' := by
  go_enter Tryz.func219, Tryz.ntmps219
  go_wp2_with (go_at_call 218; refine (rotlm_25 _ _).mono ?_; rintro e w1 ⟨rfl, rfl⟩)
  go_ret
  exact ⟨rfl, rfl⟩
theorem rol_25 (w : World) (x : Int) :
    Calls Tryz.prog 213 #[.int .u32 x, .int .u64 25] w fun e w' => e = .returned (.int .u32 (rolS x 25)) ∧ w = w' := by
  go_enter Tryz.func213, Tryz.ntmps213
  go_wp2_with fail
  go_ret
  exact ⟨rfl, rfl⟩

set_option maxRecDepth 100000 in
theorem rotlm_14 (w : World) (x : Int) :
    Calls Tryz.prog 218 #[.int .u32 x, .int .i64 (-18)] w fun e w' => e = .returned (.int .u32 (rolS x 14)) ∧ w = w' := by
  have hb : bits .and .u64 18446744073709551598 31 = 14 := by decide
  have hw : IntKind.u64.wrap ((-18)) = 18446744073709551598 := by decide
  go_enter Tryz.func218, Tryz.ntmps218
  go_wp2_with fail
  go_ret
  exact ⟨rfl, rfl⟩
theorem ror_14 (w : World) (x : Int) :
    Calls Tryz.prog 219 #[.int .u32 x, .int .i64 18] w fun e w' => e = .returned (.int .u32 (rolS x 14)) ∧ w = w' := by
  go_enter Tryz.func219, Tryz.ntmps219
  go_wp2_with (go_at_call 218; refine (rotlm_14 _ _).mono ?_; rintro e w1 ⟨rfl, rfl⟩)
  go_ret
  exact ⟨rfl, rfl⟩
theorem rol_14 (w : World) (x : Int) :
    Calls Tryz.prog 213 #[.int .u32 x, .int .u64 14] w fun e w' => e = .returned (.int .u32 (rolS x 14)) ∧ w = w' := by
  go_enter Tryz.func213, Tryz.ntmps213
  go_wp2_with fail
  go_ret
  exact ⟨rfl, rfl⟩

set_option maxRecDepth 100000 in
theorem rotlm_15 (w : World) (x : Int) :
    Calls Tryz.prog 218 #[.int .u32 x, .int .i64 (-17)] w fun e w' => e = .returned (.int .u32 (rolS x 15)) ∧ w = w' := by
  have hb : bits .and .u64 18446744073709551599 31 = 15 := by decide
  have hw : IntKind.u64.wrap ((-17)) = 18446744073709551599 := by decide
  go_enter Tryz.func218, Tryz.ntmps218
  go_wp2_with fail
  go_ret
  exact ⟨rfl, rfl⟩
theorem ror_15 (w : World) (x : Int) :
    Calls Tryz.prog 219 #[.int .u32 x, .int .i64 17] w fun e w' => e = .returned (.int .u32 (rolS x 15)) ∧ w = w' := by
  go_enter Tryz.func219, Tryz.ntmps219
  go_wp2_with (go_at_call 218; refine (rotlm_15 _ _).mono ?_; rintro e w1 ⟨rfl, rfl⟩)
  go_ret
  exact ⟨rfl, rfl⟩
theorem rol_15 (w : World) (x : Int) :
    Calls Tryz.prog 213 #[.int .u32 x, .int .u64 15] w fun e w' => e = .returned (.int .u32 (rolS x 15)) ∧ w = w' := by
  go_enter Tryz.func213, Tryz.ntmps213
  go_wp2_with fail
  go_ret
  exact ⟨rfl, rfl⟩

set_option maxRecDepth 100000 in
theorem rotlm_13 (w : World) (x : Int) :
    Calls Tryz.prog 218 #[.int .u32 x, .int .i64 (-19)] w fun e w' => e = .returned (.int .u32 (rolS x 13)) ∧ w = w' := by
  have hb : bits .and .u64 18446744073709551597 31 = 13 := by decide
  have hw : IntKind.u64.wrap ((-19)) = 18446744073709551597 := by decide
  go_enter Tryz.func218, Tryz.ntmps218
  go_wp2_with fail
  go_ret
  exact ⟨rfl, rfl⟩
theorem ror_13 (w : World) (x : Int) :
    Calls Tryz.prog 219 #[.int .u32 x, .int .i64 19] w fun e w' => e = .returned (.int .u32 (rolS x 13)) ∧ w = w' := by
  go_enter Tryz.func219, Tryz.ntmps219
  go_wp2_with (go_at_call 218; refine (rotlm_13 _ _).mono ?_; rintro e w1 ⟨rfl, rfl⟩)
  go_ret
  exact ⟨rfl, rfl⟩
theorem rol_13 (w : World) (x : Int) :
    Calls Tryz.prog 213 #[.int .u32 x, .int .u64 13] w fun e w' => e = .returned (.int .u32 (rolS x 13)) ∧ w = w' := by
  go_enter Tryz.func213, Tryz.ntmps213
  go_wp2_with fail
  go_ret
  exact ⟨rfl, rfl⟩

set_option maxRecDepth 100000 in
theorem rotlm_26 (w : World) (x : Int) :
    Calls Tryz.prog 218 #[.int .u32 x, .int .i64 (-6)] w fun e w' => e = .returned (.int .u32 (rolS x 26)) ∧ w = w' := by
  have hb : bits .and .u64 18446744073709551610 31 = 26 := by decide
  have hw : IntKind.u64.wrap ((-6)) = 18446744073709551610 := by decide
  go_enter Tryz.func218, Tryz.ntmps218
  go_wp2_with fail
  go_ret
  exact ⟨rfl, rfl⟩
theorem ror_26 (w : World) (x : Int) :
    Calls Tryz.prog 219 #[.int .u32 x, .int .i64 6] w fun e w' => e = .returned (.int .u32 (rolS x 26)) ∧ w = w' := by
  go_enter Tryz.func219, Tryz.ntmps219
  go_wp2_with (go_at_call 218; refine (rotlm_26 _ _).mono ?_; rintro e w1 ⟨rfl, rfl⟩)
  go_ret
  exact ⟨rfl, rfl⟩
theorem rol_26 (w : World) (x : Int) :
    Calls Tryz.prog 213 #[.int .u32 x, .int .u64 26] w fun e w' => e = .returned (.int .u32 (rolS x 26)) ∧ w = w' := by
  go_enter Tryz.func213, Tryz.ntmps213
  go_wp2_with fail
  go_ret
  exact ⟨rfl, rfl⟩

set_option maxRecDepth 100000 in
theorem rotlm_21 (w : World) (x : Int) :
    Calls Tryz.prog 218 #[.int .u32 x, .int .i64 (-11)] w fun e w' => e = .returned (.int .u32 (rolS x 21)) ∧ w = w' := by
  have hb : bits .and .u64 18446744073709551605 31 = 21 := by decide
  have hw : IntKind.u64.wrap ((-11)) = 18446744073709551605 := by decide
  go_enter Tryz.func218, Tryz.ntmps218
  go_wp2_with fail
  go_ret
  exact ⟨rfl, rfl⟩
theorem ror_21 (w : World) (x : Int) :
    Calls Tryz.prog 219 #[.int .u32 x, .int .i64 11] w fun e w' => e = .returned (.int .u32 (rolS x 21)) ∧ w = w' := by
  go_enter Tryz.func219, Tryz.ntmps219
  go_wp2_with (go_at_call 218; refine (rotlm_21 _ _).mono ?_; rintro e w1 ⟨rfl, rfl⟩)
  go_ret
  exact ⟨rfl, rfl⟩
theorem rol_21 (w : World) (x : Int) :
    Calls Tryz.prog 213 #[.int .u32 x, .int .u64 21] w fun e w' => e = .returned (.int .u32 (rolS x 21)) ∧ w = w' := by
  go_enter Tryz.func213, Tryz.ntmps213
  go_wp2_with fail
  go_ret
  exact ⟨rfl, rfl⟩

set_option maxRecDepth 100000 in
theorem rotlm_7 (w : World) (x : Int) :
    Calls Tryz.prog 218 #[.int .u32 x, .int .i64 (-25)] w fun e w' => e = .returned (.int .u32 (rolS x 7)) ∧ w = w' := by
  have hb : bits .and .u64 18446744073709551591 31 = 7 := by decide
  have hw : IntKind.u64.wrap ((-25)) = 18446744073709551591 := by decide
  go_enter Tryz.func218, Tryz.ntmps218
  go_wp2_with fail
  go_ret
  exact ⟨rfl, rfl⟩
theorem ror_7 (w : World) (x : Int) :
    Calls Tryz.prog 219 #[.int .u32 x, .int .i64 25] w fun e w' => e = .returned (.int .u32 (rolS x 7)) ∧ w = w' := by
  go_enter Tryz.func219, Tryz.ntmps219
  go_wp2_with (go_at_call 218; refine (rotlm_7 _ _).mono ?_; rintro e w1 ⟨rfl, rfl⟩)
  go_ret
  exact ⟨rfl, rfl⟩
theorem rol_7 (w : World) (x : Int) :
    Calls Tryz.prog 213 #[.int .u32 x, .int .u64 7] w fun e w' => e = .returned (.int .u32 (rolS x 7)) ∧ w = w' := by
  go_enter Tryz.func213, Tryz.ntmps213
  go_wp2_with fail
  go_ret
  exact ⟨rfl, rfl⟩

set_option maxRecDepth 100000 in
theorem rotlm_30 (w : World) (x : Int) :
    Calls Tryz.prog 218 #[.int .u32 x, .int .i64 (-2)] w fun e w' => e = .returned (.int .u32 (rolS x 30)) ∧ w = w' := by
  have hb : bits .and .u64 18446744073709551614 31 = 30 := by decide
  have hw : IntKind.u64.wrap ((-2)) = 18446744073709551614 := by decide
  go_enter Tryz.func218, Tryz.ntmps218
  go_wp2_with fail
  go_ret
  exact ⟨rfl, rfl⟩
theorem ror_30 (w : World) (x : Int) :
    Calls Tryz.prog 219 #[.int .u32 x, .int .i64 2] w fun e w' => e = .returned (.int .u32 (rolS x 30)) ∧ w = w' := by
  go_enter Tryz.func219, Tryz.ntmps219
  go_wp2_with (go_at_call 218; refine (rotlm_30 _ _).mono ?_; rintro e w1 ⟨rfl, rfl⟩)
  go_ret
  exact ⟨rfl, rfl⟩
set_option maxRecDepth 100000 in
theorem rotlm_19 (w : World) (x : Int) :
    Calls Tryz.prog 218 #[.int .u32 x, .int .i64 (-13)] w fun e w' => e = .returned (.int .u32 (rolS x 19)) ∧ w = w' := by
  have hb : bits .and .u64 18446744073709551603 31 = 19 := by decide
  have hw : IntKind.u64.wrap ((-13)) = 18446744073709551603 := by decide
  go_enter Tryz.func218, Tryz.ntmps218
  go_wp2_with fail
  go_ret
  exact ⟨rfl, rfl⟩
theorem ror_19 (w : World) (x : Int) :
    Calls Tryz.prog 219 #[.int .u32 x, .int .i64 13] w fun e w' => e = .returned (.int .u32 (rolS x 19)) ∧ w = w' := by
  go_enter Tryz.func219, Tryz.ntmps219
  go_wp2_with (go_at_call 218; refine (rotlm_19 _ _).mono ?_; rintro e w1 ⟨rfl, rfl⟩)
  go_ret
  exact ⟨rfl, rfl⟩
theorem rol_19 (w : World) (x : Int) :
    Calls Tryz.prog 213 #[.int .u32 x, .int .u64 19] w fun e w' => e = .returned (.int .u32 (rolS x 19)) ∧ w = w' := by
  go_enter Tryz.func213, Tryz.ntmps213
  go_wp2_with fail
  go_ret
  exact ⟨rfl, rfl⟩

set_option maxRecDepth 100000 in
theorem rotlm_10 (w : World) (x : Int) :
    Calls Tryz.prog 218 #[.int .u32 x, .int .i64 (-22)] w fun e w' => e = .returned (.int .u32 (rolS x 10)) ∧ w = w' := by
  have hb : bits .and .u64 18446744073709551594 31 = 10 := by decide
  have hw : IntKind.u64.wrap ((-22)) = 18446744073709551594 := by decide
  go_enter Tryz.func218, Tryz.ntmps218
  go_wp2_with fail
  go_ret
  exact ⟨rfl, rfl⟩
theorem ror_10 (w : World) (x : Int) :
    Calls Tryz.prog 219 #[.int .u32 x, .int .i64 22] w fun e w' => e = .returned (.int .u32 (rolS x 10)) ∧ w = w' := by
  go_enter Tryz.func219, Tryz.ntmps219
  go_wp2_with (go_at_call 218; refine (rotlm_10 _ _).mono ?_; rintro e w1 ⟨rfl, rfl⟩)
  go_ret
  exact ⟨rfl, rfl⟩
theorem rol_10 (w : World) (x : Int) :
    Calls Tryz.prog 213 #[.int .u32 x, .int .u64 10] w fun e w' => e = .returned (.int .u32 (rolS x 10)) ∧ w = w' := by
  go_enter Tryz.func213, Tryz.ntmps213
  go_wp2_with fail
  go_ret
  exact ⟨rfl, rfl⟩

end Go.Proofs.YtbodppfpmpmadaaGreat
/- Words of a block, both sides. -/
namespace Go.Proofs.YtbodppfpmpmadaaGreat
open Go.RowKit

/-- Four bytes as a word. -/
def wordS (a b c d : UInt8) : Int := bits .or .u32 (bits .or .u32 (bits .or .u32 (IntKind.u32.wrap (IntKind.u32.wrap (a.toNat : Int) * 16777216)) (IntKind.u32.wrap (IntKind.u32.wrap (b.toNat : Int) * 65536))) (IntKind.u32.wrap (IntKind.u32.wrap (c.toNat : Int) * 256))) (IntKind.u32.wrap (d.toNat : Int))

set_option maxRecDepth 100000 in
set_option maxHeartbeats 1000000 in
theorem word_c (w : World) (v : Value) (a b c d : UInt8) (t : List UInt8) (hr : Rd w v (a :: b :: c :: d :: t)) :
    Calls Tryz.prog 217 #[v] w fun e w' => e = .returned (.int .u32 (wordS a b c d)) ∧ Ext w w' := by
  obtain ⟨A, cap, rfl, hle, hm, hA, hc⟩ := hr
  obtain ⟨g, o, rfl, hcs⟩ := hc (by simp)
  obtain ⟨n, hn⟩ : ∃ n, n = (a :: b :: c :: d :: t).length := ⟨_, rfl⟩
  have hn4 : 4 ≤ n := by rw [hn]; simp
  have c0 := hcs 0 (by simp)
  have c1 := hcs 1 (by simp)
  have c2 := hcs 2 (by simp)
  have c3 := hcs 3 (by simp)
  rw [← hn] at hle ⊢
  clear hcs hc hA hn
  have i0 : (0 : Int) < (n : Int) := by omega
  have i0' : 0 < n := by omega
  have i1 : (1 : Int) < (n : Int) := by omega
  have i2 : (2 : Int) < (n : Int) := by omega
  have i3 : (3 : Int) < (n : Int) := by omega
  simp only [List.getD_cons_zero, List.getD_cons_succ, Nat.add_zero] at c0 c1 c2 c3
  go_enter Tryz.func217, Tryz.ntmps217
  go_wp2_with fail
  go_region_held3 (fun W' => W'.cell? ⟨g, o, none⟩ = some (.int .u8 (a.toNat : Int)) ∧ W'.cell? ⟨g, o + 1, none⟩ = some (.int .u8 (b.toNat : Int)) ∧ W'.cell? ⟨g, o + 2, none⟩ = some (.int .u8 (c.toNat : Int)) ∧ W'.cell? ⟨g, o + 3, none⟩ = some (.int .u8 (d.toNat : Int))) ((first | exact ⟨c0, c1, c2, c3⟩ | fail)) (fail)
  go_wp2_with fail
  go_ret
  exact ⟨rfl, (Ext.refl _).drew⟩

set_option maxRecDepth 100000 in
set_option maxHeartbeats 1000000 in
theorem word_r (w : World) (v : Value) (l : List UInt8) (k j : Nat) (hr : Rd w v l) (hj : j = 4 * k) (hk : j + 3 < l.length) :
    Calls Tryz.prog 212 #[v, .int .i64 (k : Int)] w fun e w' => e = .returned (.int .u32 (wordS (l.getD j 0) (l.getD (j + 1) 0) (l.getD (j + 2) 0) (l.getD (j + 3) 0))) ∧ Ext w w' := by
  have hmx := hr.le
  unfold maxLen at hmx
  obtain ⟨A, cap, rfl, hle, hm, hA, hc⟩ := hr
  obtain ⟨g, o, rfl, hcs⟩ := hc (by intro e; subst e; simp at hk)
  have c0 := hcs j (by omega)
  have c1 := hcs (j + 1) (by omega)
  have c2 := hcs (j + 2) (by omega)
  have c3 := hcs (j + 3) (by omega)
  obtain ⟨n, hn⟩ : ∃ n, n = l.length := ⟨_, rfl⟩
  rw [← hn] at hle hk hmx ⊢
  clear hcs hc hA hn
  generalize l.getD j 0 = x0 at c0 ⊢
  generalize l.getD (j + 1) 0 = x1 at c1 ⊢
  generalize l.getD (j + 2) 0 = x2 at c2 ⊢
  generalize l.getD (j + 3) 0 = x3 at c3 ⊢
  have m0 : IntKind.i64.wrap (4 * (k : Int)) = (j : Int) := by rw [IntKind.wrap_i64]; omega
  have m1 : IntKind.i64.wrap ((j : Int) + 1) = ((j + 1 : Nat) : Int) := by rw [IntKind.wrap_i64]; omega
  have m2 : IntKind.i64.wrap ((j : Int) + 2) = ((j + 2 : Nat) : Int) := by rw [IntKind.wrap_i64]; omega
  have m3 : IntKind.i64.wrap ((j : Int) + 3) = ((j + 3 : Nat) : Int) := by rw [IntKind.wrap_i64]; omega
  obtain ⟨j1, hj1⟩ : ∃ j1, j1 = j + 1 := ⟨_, rfl⟩
  obtain ⟨j2, hj2⟩ : ∃ j2, j2 = j + 2 := ⟨_, rfl⟩
  obtain ⟨j3, hj3⟩ : ∃ j3, j3 = j + 3 := ⟨_, rfl⟩
  rw [← hj1] at m1 c1
  rw [← hj2] at m2 c2
  rw [← hj3] at m3 c3
  have p0 : j < n := by omega
  have p1 : j1 < n := by omega
  have p2 : j2 < n := by omega
  have p3 : j3 < n := by omega
  have i0 : (j : Int) < (n : Int) := by omega
  have i1 : (j1 : Int) < (n : Int) := by omega
  have i2 : (j2 : Int) < (n : Int) := by omega
  have i3 : (j3 : Int) < (n : Int) := by omega
  clear hj hj1 hj2 hj3 hk hmx
  go_enter Tryz.func212, Tryz.ntmps212
  go_wp2_with fail
  go_region_held3 (fun W' => W'.cell? ⟨g, o + j, none⟩ = some (.int .u8 (x0.toNat : Int)) ∧ W'.cell? ⟨g, o + j1, none⟩ = some (.int .u8 (x1.toNat : Int)) ∧ W'.cell? ⟨g, o + j2, none⟩ = some (.int .u8 (x2.toNat : Int)) ∧ W'.cell? ⟨g, o + j3, none⟩ = some (.int .u8 (x3.toNat : Int))) ((first | exact ⟨c0, c1, c2, c3⟩ | fail)) (fail)
  go_wp2_with fail
  go_ret
  exact ⟨rfl, (Ext.refl _).drew⟩
end Go.Proofs.YtbodppfpmpmadaaGreat
