/- The sum of a hash. -/
import Derived.Test.YtimelnihiocngaaShaG
namespace Go.Proofs.Ytimelnihiocngaa
open Go.RowKit

def lenC (all i : Nat) : UInt8 := UInt8.ofNat (all * 8 / 2 ^ (8 * i) % 256)
def tailH (all : Nat) : List UInt8 := [lenC all 7, lenC all 6, lenC all 5, lenC all 4, lenC all 3, lenC all 2, lenC all 1, lenC all 0]
def leftN (n : Nat) : Nat := (120 - n) % 64
def leftW (W : World) (g : Nat) : Nat := match W.cell? ⟨g, 73, none⟩ with | some (.int _ n) => leftN n.toNat | _ => 0
def padH (kind : Int) (s : List Int × List UInt8 × Nat) : List Int × List UInt8 × Nat := feedH kind (stepH kind s 128) (List.replicate (leftN (stepH kind s 128).2.2) 0)
def finH (kind : Int) (s : List Int × List UInt8 × Nat) (all : Nat) : List Int × List UInt8 × Nat := feedH kind (padH kind s) (tailH all)
def u8 (x : Int) : UInt8 := UInt8.ofNat (x % 256).toNat
def u4 (x : Int) : List UInt8 := [u8 (x / 16777216), u8 (x / 65536), u8 (x / 256), u8 x]
def outH (ws : List Int) : List UInt8 := ws.flatMap u4
def sumH (kind : Int) (s : List Int × List UInt8 × Nat) (all : Nat) : List UInt8 := outH (if kind = 1 then (finH kind s all).1.take 5 else (finH kind s all).1)

theorem goodH_pad (kind : Int) {s : List Int × List UInt8 × Nat} (h : goodH s) : goodH (padH kind s) := goodH_feed kind _ (goodH_step kind _ h)
theorem goodH_fin (kind : Int) {s : List Int × List UInt8 × Nat} (all : Nat) (h : goodH s) : goodH (finH kind s all) := goodH_feed kind _ (goodH_pad kind h)
theorem leftW_of {W : World} {g : Nat} {kind : Int} {s : List Int × List UInt8 × Nat} {all : Int} (B : BoxF W g (hashS kind s all)) (hg : goodH s) : leftW W g = leftN s.2.2 := by
  unfold leftW
  rw [B.at (hashC_n hg.1 hg.2.1)]
  rfl
theorem leftN_step (kind : Int) (s : List Int × List UInt8 × Nat) (c : UInt8) (hg : goodH s) (hn : s.2.2 ≠ 56) : leftN (stepH kind s c).2.2 + 1 = leftN s.2.2 := by
  have h := hg.2.2
  unfold stepH leftN
  split
  · dsimp only
    omega
  · dsimp only
    omega

theorem add1_c (w : World) (h : Nat) (kind : Int) (s : List Int × List UInt8 × Nat) (all : Int) (c : UInt8) (x : Int) (hx : x = (c.toNat : Int)) (H : BoxF w h (hashS kind s all)) (hg : goodH s) :
    Calls Try.prog 67 #[.pointer (some ⟨h, 0, none⟩), .slice (some ⟨w.heap.size, 0, none⟩) 1 1] (w.alloc (.cells #[.int .u8 x] 5)) fun e w' => e = .returned (.tuple #[]) ∧ On h w w' ∧ BoxF w' h (hashS kind (stepH kind s c) all) := by
  subst hx
  have hlt := H.lt
  refine (add_c _ h kind s all _ [c] (H.ext ((Ext.refl w).alloc _)) hg (rd_new w _ [c] rfl 1 rfl (by unfold maxLen; simp)) (fun _ => by simp [Value.ownBlock]; omega)).mono ?_
  rintro e w' ⟨rfl, O, B⟩
  exact ⟨rfl, (On.of ((Ext.refl w).alloc _)).trans O, B⟩

theorem lenC_int (all i : Nat) : ((lenC all i).toNat : Int) = (all : Int) * 8 / ((2 ^ (8 * i) : Nat) : Int) % 256 := by
  unfold lenC
  rw [UInt8.toNat_ofNat', Nat.mod_mod, Int.natCast_emod, Int.natCast_ediv, Int.natCast_mul]
  rfl
theorem feedH_tail (kind : Int) (S : List Int × List UInt8 × Nat) (all k : Nat) (c : UInt8) (hk : (tailH all)[k]? = some c) : feedH kind S ((tailH all).take (k + 1)) = stepH kind (feedH kind S ((tailH all).take k)) c := by
  rw [List.take_add_one, hk, feedH_append]
  rfl

theorem hashC_word {kind : Int} {ws : List Int} {rest : List UInt8} {n all : Int} (h1 : ws.length = 8) (j : Nat) (hj : j < 8) : (hashC kind ws rest n all)[1 + j]? = some (.int .u32 (ws.getD j 0)) := by
  rw [hashC, show 1 + j = j + 1 by omega, List.getElem?_cons_succ, List.getElem?_append_left (by simp [h1]; omega), List.getElem?_map, List.getElem?_eq_getElem (by omega), List.getD_eq_getElem?_getD, List.getElem?_eq_getElem (by omega)]
  rfl
theorem u8_int (x : Int) : ((u8 x).toNat : Int) = x % 256 := by
  unfold u8
  rw [UInt8.toNat_ofNat']
  omega
theorem u4_cells (x : Int) : (#[.int .u8 (x / 16777216 % 256), .int .u8 (x / 65536 % 256), .int .u8 (x / 256 % 256), .int .u8 (x % 256)] : Array Value) = (bc (u4 x)).toArray := by
  show _ = (#[Value.int .u8 ((u8 (x / 16777216)).toNat : Int), Value.int .u8 ((u8 (x / 65536)).toNat : Int), Value.int .u8 ((u8 (x / 256)).toNat : Int), Value.int .u8 ((u8 x).toNat : Int)] : Array Value)
  rw [u8_int, u8_int, u8_int, u8_int]
theorem outH_length (l : List Int) : (outH l).length = 4 * l.length := by
  induction l with
  | nil => rfl
  | cons x l ih => rw [outH, List.flatMap_cons, List.length_append, ← outH, ih]; simp [u4]; omega
theorem outH_take (l : List Int) (j : Nat) (hj : j < l.length) : outH (l.take (j + 1)) = outH (l.take j) ++ u4 (l.getD j 0) := by
  rw [List.take_add_one, List.getElem?_eq_getElem hj, List.getD_eq_getElem?_getD, List.getElem?_eq_getElem hj, outH, List.flatMap_append]
  simp [outH]

/-- The cells of a hash that nobody made. -/
def hash0 : List Value := hashC 0 [0, 0, 0, 0, 0, 0, 0, 0] (List.replicate 64 0) 0 0

set_option maxRecDepth 100000 in
set_option maxHeartbeats 2000000 in
theorem sum_c (w : World) (h : Nat) (kind : Int) (s : List Int × List UInt8 × Nat) (all : Nat) (H : BoxF w h (hashS kind s (all : Int))) (hg : goodH s) (hk : kind ≠ 0) (hall : all ≤ 100000000) :
    Calls Try.prog 25 #[.pointer (some ⟨h, 0, none⟩)] w fun e w' => ∃ v, e = .returned v ∧ Own w' w.heap.size v (sumH kind s all) ∧ Ext w w' := by
  have HK := Lib.hid hk
  have p0 : w.cell? ⟨h, 0, none⟩ = some (.int .i64 kind) := H.at rfl
  have P0 := Lib.hid p0
  have H0 := Lib.hid H
  have HG := Lib.hid hg
  have hlen : (hashS kind s (all : Int)).length = 75 := by rw [hashS, hashC_length, hg.1, hg.2.1]
  have HL := Lib.hid hlen
  have hlt := H.lt
  have HLT := Lib.hid hlt
  clear hk H hg p0 hlen hlt
  have hone : (hashS kind s (all : Int)).all (·.oneCell') = true := by
    simp only [hashS, hashC, List.all_cons, List.all_append, List.all_eq_true, Bool.and_eq_true]
    refine ⟨rfl, ?_, ?_, rfl, rfl, fun _ h => by cases h⟩
    · intro x hx
      obtain ⟨b, _, rfl⟩ := List.mem_map.1 hx
      rfl
    · exact bc_one _
  go_enter Try.func25, Try.ntmps25
  go_wp2_with (first
    | (go_at_call 66; refine (none_c _ h kind HK.out P0.out).mono ?_; rintro e w1 ⟨rfl, rfl⟩)
    | ((with_reducible show wpList _ _ _ (⟨some 14, Op.load _ _, _, _, _, _⟩ :: _) _ _); refine wpl_load_box rfl _ _ rfl h rfl H0.out Try.underlying40 rfl (by rw [HL.out]; rfl) ?_)
    | ((with_reducible show wpList _ _ _ (⟨some 3, Op.alloc _, _, _, _, _⟩ :: _) _ _); refine wpl_alloc rfl _ rfl hash0 (by kernel_rfl) ?_; intro w1 B1 hx1)
    | ((with_reducible show wpList _ _ _ (⟨none, Op.store _ (Operand.tmp 3) (Operand.tmp 14), _, _, _, _⟩ :: _) _ _); refine wpl_store_box rfl _ _ _ rfl w.heap.size (hashS kind s (all : Int)) rfl rfl B1 (by rw [HL.out]; rfl) (by rw [HL.out]; rfl) hone ?_; intro w2 B2 O2)
    | (go_at_call 67; refine (add1_c _ w.heap.size kind s _ 128 _ rfl B2 HG.out).mono ?_; rintro e w3 ⟨rfl, O3, B3⟩)
    | fail)
  have hx2 := hx1.on O2 (Nat.le_refl _)
  have hx3 := hx2.on O3 (Nat.le_refl _)
  have hG3 := goodH_step kind 128 HG.out
  have HG3 := Lib.hid hG3
  obtain ⟨s1, hs1⟩ : ∃ s1, s1 = stepH kind s 128 := ⟨_, rfl⟩
  rw [← hs1] at B3 HG3
  have HS1 := Lib.hid hs1
  clear hs1 hG3
  obtain ⟨z, hz⟩ : ∃ z, z = leftN s1.2.2 := ⟨_, rfl⟩
  have HZ := Lib.hid hz
  clear hz
  go_loopw [18] (fun _ W => ∃ k : Nat, k + leftN (feedH kind s1 (List.replicate k 0)).2.2 = z ∧ BoxF W w.heap.size (hashS kind (feedH kind s1 (List.replicate k 0)) (all : Int)) ∧ Ext w W) (fun _ W => leftW W w.heap.size)
  case atStart => exact ⟨0, by rw [HZ.out]; exact Nat.zero_add _, B3, hx3⟩
  case round =>
    clear B1 hx1 B2 O2 B3 O3 hx2 hx3 hone
    obtain ⟨k, hkz, B, hx⟩ := hrel
    have hT : feedH kind s1 (List.replicate (k + 1) 0) = stepH kind (feedH kind s1 (List.replicate k 0)) 0 := by
      rw [List.replicate_succ', feedH_append]
      rfl
    have hG := goodH_feed kind (List.replicate k 0) HG3.out
    have hlw := leftW_of B hG
    obtain ⟨S, hS⟩ : ∃ S, S = feedH kind s1 (List.replicate k 0) := ⟨_, rfl⟩
    rw [← hS] at hkz B hT hG hlw
    have HB := Lib.hid B
    have HT := Lib.hid hT
    have HGS := Lib.hid hG
    have HLW := Lib.hid hlw
    have p73 := B.at (hashC_n hG.1 hG.2.1)
    have HS := Lib.hid hS
    clear hS hT B hG hlw
    by_cases h56 : S.2.2 = 56
    · have hn : ((S.2.2 : Int) != 56) = false := by simp [h56]
      have hk0 : k = leftN s1.2.2 := by rw [h56] at hkz; have := HZ.out; unfold leftN at hkz; simp at hkz; omega
      have p74 := (H0.out.ext hx).at (hashC_all HG.out.1 HG.out.2.1)
      have hall2 : (all : Int) ≤ 100000000 := by omega
      go_wp2_with fail
      have hpad : padH kind s = S := by
        rw [padH, ← HS1.out, ← hk0]
        exact HS.out.symm
      have HPAD := Lib.hid hpad
      have HX := Lib.hid hx
      have BB := HB.out
      clear hkz HT HLW p73 hn hk0 p74 hpad hx HZ
      go_loopw [5] (fun i W => ∃ k : Nat, k ≤ 8 ∧ i = .int .i64 (7 - (k : Int)) ∧ BoxF W w.heap.size (hashS kind (feedH kind S ((tailH all).take k)) (all : Int)) ∧ Ext w W) (fun i _ => (intOf i + 1).toNat)
      case atStart => exact ⟨0, Nat.zero_le _, rfl, BB, HX.out⟩
      case round =>
        clear BB
        obtain ⟨k, hk8, rfl, B, hx⟩ := hrel
        have hG := goodH_feed kind ((tailH all).take k) HGS.out
        have h8 : k = 0 ∨ k = 1 ∨ k = 2 ∨ k = 3 ∨ k = 4 ∨ k = 5 ∨ k = 6 ∨ k = 7 ∨ k = 8 := by omega
        rcases h8 with rfl | rfl | rfl | rfl | rfl | rfl | rfl | rfl | rfl
        · go_wp2_with (first
            | (go_at_call 67; refine (add1_c _ w.heap.size kind _ _ (lenC all 7) _ ?hx B hG).mono ?_; (case hx => (have e := lenC_int all 7; rw [show ((2 ^ (8 * 7) : Nat) : Int) = 72057594037927936 from rfl] at e; omega)); rintro e w3 ⟨rfl, O3, B3⟩)
            | fail)
          go_roundw
          case rel => exact ⟨1, by omega, rfl, by rw [feedH_tail kind S all 0 _ rfl]; exact B3, hx.on O3 (Nat.le_refl _)⟩
          case measure => simp [intOf]
        · go_wp2_with (first
            | (go_at_call 67; refine (add1_c _ w.heap.size kind _ _ (lenC all 6) _ ?hx B hG).mono ?_; (case hx => (have e := lenC_int all 6; rw [show ((2 ^ (8 * 6) : Nat) : Int) = 281474976710656 from rfl] at e; omega)); rintro e w3 ⟨rfl, O3, B3⟩)
            | fail)
          go_roundw
          case rel => exact ⟨2, by omega, rfl, by rw [feedH_tail kind S all 1 _ rfl]; exact B3, hx.on O3 (Nat.le_refl _)⟩
          case measure => simp [intOf]
        · go_wp2_with (first
            | (go_at_call 67; refine (add1_c _ w.heap.size kind _ _ (lenC all 5) _ ?hx B hG).mono ?_; (case hx => (have e := lenC_int all 5; rw [show ((2 ^ (8 * 5) : Nat) : Int) = 1099511627776 from rfl] at e; omega)); rintro e w3 ⟨rfl, O3, B3⟩)
            | fail)
          go_roundw
          case rel => exact ⟨3, by omega, rfl, by rw [feedH_tail kind S all 2 _ rfl]; exact B3, hx.on O3 (Nat.le_refl _)⟩
          case measure => simp [intOf]
        · go_wp2_with (first
            | (go_at_call 67; refine (add1_c _ w.heap.size kind _ _ (lenC all 4) _ ?hx B hG).mono ?_; (case hx => (have e := lenC_int all 4; rw [show ((2 ^ (8 * 4) : Nat) : Int) = 4294967296 from rfl] at e; omega)); rintro e w3 ⟨rfl, O3, B3⟩)
            | fail)
          go_roundw
          case rel => exact ⟨4, by omega, rfl, by rw [feedH_tail kind S all 3 _ rfl]; exact B3, hx.on O3 (Nat.le_refl _)⟩
          case measure => simp [intOf]
        · go_wp2_with (first
            | (go_at_call 67; refine (add1_c _ w.heap.size kind _ _ (lenC all 3) _ ?hx B hG).mono ?_; (case hx => (have e := lenC_int all 3; rw [show ((2 ^ (8 * 3) : Nat) : Int) = 16777216 from rfl] at e; omega)); rintro e w3 ⟨rfl, O3, B3⟩)
            | fail)
          go_roundw
          case rel => exact ⟨5, by omega, rfl, by rw [feedH_tail kind S all 4 _ rfl]; exact B3, hx.on O3 (Nat.le_refl _)⟩
          case measure => simp [intOf]
        · go_wp2_with (first
            | (go_at_call 67; refine (add1_c _ w.heap.size kind _ _ (lenC all 2) _ ?hx B hG).mono ?_; (case hx => (have e := lenC_int all 2; rw [show ((2 ^ (8 * 2) : Nat) : Int) = 65536 from rfl] at e; omega)); rintro e w3 ⟨rfl, O3, B3⟩)
            | fail)
          go_roundw
          case rel => exact ⟨6, by omega, rfl, by rw [feedH_tail kind S all 5 _ rfl]; exact B3, hx.on O3 (Nat.le_refl _)⟩
          case measure => simp [intOf]
        · go_wp2_with (first
            | (go_at_call 67; refine (add1_c _ w.heap.size kind _ _ (lenC all 1) _ ?hx B hG).mono ?_; (case hx => (have e := lenC_int all 1; rw [show ((2 ^ (8 * 1) : Nat) : Int) = 256 from rfl] at e; omega)); rintro e w3 ⟨rfl, O3, B3⟩)
            | fail)
          go_roundw
          case rel => exact ⟨7, by omega, rfl, by rw [feedH_tail kind S all 6 _ rfl]; exact B3, hx.on O3 (Nat.le_refl _)⟩
          case measure => simp [intOf]
        · go_wp2_with (first
            | (go_at_call 67; refine (add1_c _ w.heap.size kind _ _ (lenC all 0) _ ?hx B hG).mono ?_; (case hx => (have e := lenC_int all 0; rw [show ((2 ^ (8 * 0) : Nat) : Int) = 1 from rfl] at e; omega)); rintro e w3 ⟨rfl, O3, B3⟩)
            | fail)
          go_roundw
          case rel => exact ⟨8, by omega, rfl, by rw [feedH_tail kind S all 7 _ rfl]; exact B3, hx.on O3 (Nat.le_refl _)⟩
          case measure => simp [intOf]
        · rw [show ((7 : Int) - ((8 : Nat) : Int)) = -1 from rfl]
          have p0 : wr.cell? ⟨h, 0, none⟩ = some (.int .i64 kind) := (H0.out.ext hx).at rfl
          have hfin : feedH kind S (List.take 8 (tailH all)) = finH kind s all := by
            rw [finH, HPAD.out]
            rfl
          rw [hfin] at B hG
          have hsum : sumH kind s all = outH (if kind = 1 then (finH kind s all).1.take 5 else (finH kind s all).1) := rfl
          unfold hashS at B
          obtain ⟨hw8, hr64, _⟩ := hG
          generalize (finH kind s all).1 = ws at B hw8 hsum
          generalize (finH kind s all).2.1 = rst at B hr64
          generalize ((finH kind s all).2.2 : Int) = nn at B
          have HSUM := Lib.hid hsum
          clear hsum hfin
          by_cases hk1 : kind = 1
          · have hkb : (kind == 1) = true := by simpa using hk1
            have HK1 := Lib.hid hk1
            clear hk1
            go_wp2_with fail
            clear p0
            have OW0 : Own wr wr.heap.size (.slice none 0 0) (outH (ws.take 0)) := Own.nil wr _
            have BX0 : Box wr w.heap.size (hashC kind ws rst nn (all : Int)) := B.box
            have BL0 := Below.refl wr.heap.size wr
            go_loopw [7, 9, 50] (fun v _ i W => ∃ j : Nat, j ≤ 5 ∧ i = .int .i64 (j : Int) ∧ Own W wr.heap.size v (outH (ws.take j)) ∧ Box W w.heap.size (hashC kind ws rst nn (all : Int)) ∧ Below wr.heap.size wr W) (fun _ _ i _ => 5 - (intOf i).toNat)
            case atStart => exact ⟨0, Nat.zero_le _, rfl, OW0, BX0, BL0⟩
            case round =>
              clear OW0 BX0 BL0
              obtain ⟨j, hj, rfl, OW, BX, BL⟩ := hrel
              by_cases hjM : j < 5
              · have hji : (j : Int) < 5 := by omega
                have pj := BX.range (1 + j) _ (hashC_word hw8 j (by omega))
                rw [Nat.zero_add] at pj
                have ht := outH_take ws j (by omega)
                have hl := outH_length (ws.take j)
                rw [List.length_take, Nat.min_eq_left (by omega)] at hl
                generalize ws.getD j 0 = x at pj ht
                have hlen : (outH (ws.take j)).length + (u4 x).length ≤ 100000000 := by rw [hl]; simp [u4]; omega
                have HT := Lib.hid ht
                clear ht hl
                go_wp2_with (first
                  | ((with_reducible show wpList _ _ _ (⟨some 67, _, _, _, _, _⟩ :: _) _ _); refine wpl_append_rd bt (OW.ext ((Ext.refl _).alloc _)) (rd_new _ _ (u4 x) (u4_cells x) 4 rfl (by unfold maxLen; simp [u4])) rfl _ _ rfl rfl rfl hlen (Nat.le_trans (Below.size BL) (by simp)) ?_; intro v' w' OW' BL'; have BL2 := (BL.alloc (Below.size BL) _).trans BL'; have BX2 := (BX.ext ((Ext.refl _).alloc _)).below BL' B.lt)
                  | fail)
                go_roundw
                case rel => exact ⟨j + 1, by omega, by go_num, by rw [HT.out]; exact OW', BX2, BL2⟩
                case measure => simp [intOf]; omega
              · obtain rfl : j = 5 := by omega
                simp only [Int.cast_ofNat_Int]
                go_wp2_with fail
                go_ret
                refine ⟨_, rfl, ?_, hx.below BL (Ext.size hx)⟩
                rw [HSUM.out]
                rw [if_pos HK1.out]
                exact OW.more (Ext.size hx)
          · have hkb : (kind == 1) = false := by simpa using hk1
            have HK1 := Lib.hid hk1
            clear hk1
            go_wp2_with fail
            clear p0
            have OW0 : Own wr wr.heap.size (.slice none 0 0) (outH (ws.take 0)) := Own.nil wr _
            have BX0 : Box wr w.heap.size (hashC kind ws rst nn (all : Int)) := B.box
            have BL0 := Below.refl wr.heap.size wr
            go_loopw [7, 9, 50] (fun v _ i W => ∃ j : Nat, j ≤ 8 ∧ i = .int .i64 (j : Int) ∧ Own W wr.heap.size v (outH (ws.take j)) ∧ Box W w.heap.size (hashC kind ws rst nn (all : Int)) ∧ Below wr.heap.size wr W) (fun _ _ i _ => 8 - (intOf i).toNat)
            case atStart => exact ⟨0, Nat.zero_le _, rfl, OW0, BX0, BL0⟩
            case round =>
              clear OW0 BX0 BL0
              obtain ⟨j, hj, rfl, OW, BX, BL⟩ := hrel
              by_cases hjM : j < 8
              · have hji : (j : Int) < 8 := by omega
                have pj := BX.range (1 + j) _ (hashC_word hw8 j (by omega))
                rw [Nat.zero_add] at pj
                have ht := outH_take ws j (by omega)
                have hl := outH_length (ws.take j)
                rw [List.length_take, Nat.min_eq_left (by omega)] at hl
                generalize ws.getD j 0 = x at pj ht
                have hlen : (outH (ws.take j)).length + (u4 x).length ≤ 100000000 := by rw [hl]; simp [u4]; omega
                have HT := Lib.hid ht
                clear ht hl
                go_wp2_with (first
                  | ((with_reducible show wpList _ _ _ (⟨some 67, _, _, _, _, _⟩ :: _) _ _); refine wpl_append_rd bt (OW.ext ((Ext.refl _).alloc _)) (rd_new _ _ (u4 x) (u4_cells x) 4 rfl (by unfold maxLen; simp [u4])) rfl _ _ rfl rfl rfl hlen (Nat.le_trans (Below.size BL) (by simp)) ?_; intro v' w' OW' BL'; have BL2 := (BL.alloc (Below.size BL) _).trans BL'; have BX2 := (BX.ext ((Ext.refl _).alloc _)).below BL' B.lt)
                  | fail)
                go_roundw
                case rel => exact ⟨j + 1, by omega, by go_num, by rw [HT.out]; exact OW', BX2, BL2⟩
                case measure => simp [intOf]; omega
              · obtain rfl : j = 8 := by omega
                simp only [Int.cast_ofNat_Int]
                go_wp2_with fail
                go_ret
                refine ⟨_, rfl, ?_, hx.below BL (Ext.size hx)⟩
                rw [HSUM.out]
                rw [if_neg HK1.out]
                rw [List.take_of_length_le (by omega)] at OW
                exact OW.more (Ext.size hx)
    · have hn : ((S.2.2 : Int) != 56) = true := by simp; omega
      go_wp2_with (first
        | (go_at_call 67; refine (add1_c _ w.heap.size kind S _ 0 _ rfl HB.out HGS.out).mono ?_; rintro e w3 ⟨rfl, O3, B3⟩)
        | fail)
      go_roundw
      case rel => exact ⟨k + 1, by rw [HT.out]; have := leftN_step kind S 0 HGS.out h56; omega, by rw [HT.out]; exact B3, hx.on O3 (Nat.le_refl _)⟩
      case measure =>
        have := leftN_step kind S 0 HGS.out h56
        have h2 := leftW_of B3 (goodH_step kind 0 HGS.out)
        have h1 := HLW.out
        omega
end Go.Proofs.Ytimelnihiocngaa
