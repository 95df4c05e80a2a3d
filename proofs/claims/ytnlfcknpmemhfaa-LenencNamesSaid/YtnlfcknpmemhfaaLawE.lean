/- The walk of LenencNames. -/
import Derived.Test.YtnlfcknpmemhfaaLawC
namespace Go.Proofs.Ytnlfcknpmemhfaa
open Go.RowKit

/-- The five numbers of the examples. -/
def fiveX : List Int := [250, 251, 65535, 65536, 16777216]
def fiveB (k : Nat) : List UInt8 := (fiveX.take k).flatMap intB
theorem fiveB_succ (k : Nat) (h : k < 5) : fiveB (k + 1) = fiveB k ++ intB (fiveX.getD k 0) := by
  have hk : k < fiveX.length := h
  unfold fiveB
  rw [List.take_succ_eq_append_getElem hk, List.flatMap_append, List.getD_eq_getElem?_getD, List.getElem?_eq_getElem hk]
  simp
theorem fiveX_in (k : Nat) (h : k < 5) : 0 ≤ fiveX.getD k 0 ∧ fiveX.getD k 0 < 18446744073709551616 := by
  match k, h with
  | 0, _ => decide
  | 1, _ => decide
  | 2, _ => decide
  | 3, _ => decide
  | 4, _ => decide
theorem fiveB_len (k : Nat) (h : k ≤ 5) : (fiveB k).length ≤ 100 := by
  match k, h with
  | 0, _ => decide
  | 1, _ => decide
  | 2, _ => decide
  | 3, _ => decide
  | 4, _ => decide
  | 5, _ => decide
theorem fiveB_all : (fiveB 5 == [250, 252, 251, 0, 252, 255, 255, 253, 0, 0, 1, 254, 0, 0, 0, 1, 0, 0, 0, 0]) = true := by decide

/-- The bytes of the examples that are refused, where they lie, and how. -/
def badL : Nat → List UInt8
  | 0 => []
  | 1 => [251]
  | 2 => [255]
  | _ => [253, 1, 2]
def badV (h : Nat) : Nat → Value
  | 0 => .slice none 0 0
  | 1 => .slice (some ⟨h + 1, 0, none⟩) 1 1
  | 2 => .slice (some ⟨h + 1 + 1, 0, none⟩) 1 1
  | _ => .slice (some ⟨h + 1 + 1 + 1, 0, none⟩) 3 3
def wantE : Nat → Int
  | 0 => 4
  | 1 => 5
  | 2 => 5
  | _ => 4
def BadOk (h : Nat) (W : World) : Prop := ∀ k, k < 4 → W.cell? ⟨h + 1 + 1 + 1 + 1, k, none⟩ = some (badV h k) ∧ W.cell? ⟨h + 1 + 1 + 1 + 1 + 1, k, none⟩ = some (.int .i64 (wantE k)) ∧ Rd W (badV h k) (badL k)
theorem readI_bad (k : Nat) (hk : k < 4) : readI (badL k) = (0, 0, wantE k) := by
  match k, hk with
  | 0, _ => rfl
  | 1, _ => rfl
  | 2, _ => rfl
  | 3, _ => rfl

theorem badOk (w : World) (A0 : Obj) :
    BadOk w.heap.size ((((((w.alloc A0).alloc (.cells #[.int .u8 251] 5)).alloc (.cells #[.int .u8 255] 5)).alloc (.cells #[.int .u8 253, .int .u8 1, .int .u8 2] 5)).alloc
      (.cells #[.slice none 0 0, .slice (some ⟨w.heap.size + 1, 0, none⟩) 1 1, .slice (some ⟨w.heap.size + 1 + 1, 0, none⟩) 1 1, .slice (some ⟨w.heap.size + 1 + 1 + 1, 0, none⟩) 3 3] 22)).alloc
      (.cells #[.int .i64 4, .int .i64 5, .int .i64 5, .int .i64 4] 39)) := by
  intro k hk
  refine ⟨?_, ?_, ?_⟩
  · have e : (((((w.alloc A0).alloc (.cells #[.int .u8 251] 5)).alloc (.cells #[.int .u8 255] 5)).alloc (.cells #[.int .u8 253, .int .u8 1, .int .u8 2] 5)).heap.size) = w.heap.size + 1 + 1 + 1 + 1 := by simp
    rw [← e, World.cell?_of_block (Below.heap_alloc _ _ _ (by simp)), cell_of_row _ _ k _ _ _ (heap_alloc_new _ _)]
    match k, hk with
    | 0, _ => rfl
    | 1, _ => rfl
    | 2, _ => rfl
    | 3, _ => rfl
  · have e : ((((((w.alloc A0).alloc (.cells #[.int .u8 251] 5)).alloc (.cells #[.int .u8 255] 5)).alloc (.cells #[.int .u8 253, .int .u8 1, .int .u8 2] 5)).alloc (.cells #[.slice none 0 0, .slice (some ⟨w.heap.size + 1, 0, none⟩) 1 1, .slice (some ⟨w.heap.size + 1 + 1, 0, none⟩) 1 1, .slice (some ⟨w.heap.size + 1 + 1 + 1, 0, none⟩) 3 3] 22)).heap.size) = w.heap.size + 1 + 1 + 1 + 1 + 1 := by simp
    rw [← e, cell_of_row _ _ k _ _ _ (heap_alloc_new _ _)]
    match k, hk with
    | 0, _ => rfl
    | 1, _ => rfl
    | 2, _ => rfl
    | 3, _ => rfl
  · match k, hk with
    | 0, _ => exact Rd.nil _
    | 1, _ => exact (rd_lit (w.alloc A0) _ [251] rfl (by simp) 1 _ rfl (by simp)).ext (((((Ext.refl _).alloc _).alloc _).alloc _).alloc _)
    | 2, _ => exact (rd_lit ((w.alloc A0).alloc _) _ [255] rfl (by simp) 1 _ rfl (by simp)).ext ((((Ext.refl _).alloc _).alloc _).alloc _)
    | 3, _ => exact (rd_lit (((w.alloc A0).alloc _).alloc _) _ [253, 1, 2] rfl (by simp) 3 _ rfl (by simp)).ext (((Ext.refl _).alloc _).alloc _)

set_option maxRecDepth 100000 in
set_option maxHeartbeats 4000000 in
theorem lenencNames_c (w : World) : Calls Try.prog 8 #[] w (RetTrue w) := by
  have hcells : ∀ k, k < 5 → (w.alloc (.cells #[.int .u64 250, .int .u64 251, .int .u64 65535, .int .u64 65536, .int .u64 16777216] 25)).cell? ⟨w.heap.size, k, none⟩ = some (.int .u64 (fiveX.getD k 0)) := by
    intro k hk
    rw [cell_of_row _ _ k _ _ _ (heap_alloc_new w _)]
    match k, hk with
    | 0, _ => rfl
    | 1, _ => rfl
    | 2, _ => rfl
    | 3, _ => rfl
    | 4, _ => rfl
  have HC := Lib.hid hcells
  clear hcells
  go_enter Try.func8, Try.ntmps8
  go_wp2_with fail
  go_loopw [2, 26] (fun v i wr => ∃ k : Nat, k ≤ 5 ∧ i = .int .i64 k ∧ Own wr w.heap.size v (fiveB k) ∧ Ext (w.alloc (.cells #[.int .u64 250, .int .u64 251, .int .u64 65535, .int .u64 65536, .int .u64 16777216] 25)) wr) (fun _ i _ => 5 - (intOf i).toNat)
  case atStart => exact ⟨0, Nat.zero_le _, rfl, Own.nil _ _, Ext.refl _⟩
  case round =>
    obtain ⟨k, hk, rfl, ho, hx⟩ := hrel
    have HX := Lib.hid hx
    have hsz : w.heap.size ≤ wr.heap.size := by
      have := hx.size
      simp at this
      omega
    clear hx
    by_cases hlt : k < 5
    · obtain ⟨x, hxv⟩ : ∃ x, x = fiveX.getD k 0 := ⟨_, rfl⟩
      have hcell := HX.out.cell (HC.out k hlt)
      rw [← hxv] at hcell
      have HIN := Lib.hid (fiveX_in k hlt)
      have HL := Lib.hid (fiveB_len k hk)
      have HV := Lib.hid hxv
      clear hxv
      go_wp2_with (go_at_call 30; refine (appendInt_len _ _ _ _ ho.rd (by rw [HV.out]; exact HIN.out.1) (by rw [HV.out]; exact HIN.out.2) (by have := HL.out; omega)).mono ?_; rintro e w2 ⟨v2, rfl, ho2, hx2⟩)
      go_roundw
      case rel =>
        refine ⟨k + 1, by omega, by go_num, ?_, HX.out.trans hx2⟩
        rw [fiveB_succ k hlt, ← HV.out]
        exact ho2.more hsz
      case measure => simp [intOf]; omega
    · obtain rfl : k = 5 := by omega
      have HO := Lib.hid ho.rd
      clear ho
      have HL20 := Lib.hid (show (#[.int .u8 250, .int .u8 252, .int .u8 251, .int .u8 0, .int .u8 252, .int .u8 255, .int .u8 255, .int .u8 253, .int .u8 0, .int .u8 0, .int .u8 1, .int .u8 254, .int .u8 0, .int .u8 0, .int .u8 0, .int .u8 1, .int .u8 0, .int .u8 0, .int .u8 0, .int .u8 0] : Array Value) = (bc [250, 252, 251, 0, 252, 255, 255, 253, 0, 0, 1, 254, 0, 0, 0, 1, 0, 0, 0, 0]).toArray from rfl)
      go_wp2_with (go_at_call 19; refine (same_c _ _ _ _ _ (HO.out.ext ((Ext.refl _).alloc _)) (rd_lit wr _ _ HL20.out (by simp) _ _ rfl rfl) true fiveB_all).mono ?_; rintro e wx ⟨rfl, rfl⟩)
      go_loopw [5, 8] (fun f i W => ∃ k : Nat, k ≤ 4 ∧ i = .int .i64 k ∧ f = .bool true ∧ BadOk wr.heap.size W ∧ Ext w W) (fun _ i _ => 4 - (intOf i).toNat)
      case atStart => exact ⟨0, Nat.zero_le _, rfl, rfl, badOk _ _, ((((((((Ext.refl w).alloc _).trans HX.out).alloc _).alloc _).alloc _).alloc _).alloc _).alloc _⟩
      case round =>
        obtain ⟨k, hk, rfl, rfl, hbad, hxw⟩ := hrel
        rename_i W
        have HXW := Lib.hid hxw
        have HBAD := Lib.hid hbad
        clear hxw hbad
        by_cases hlt : k < 4
        · obtain ⟨hc1, hc2, hc3⟩ := HBAD.out k hlt
          have HR3 := Lib.hid hc3
          have HI := Lib.hid (readI_bad k hlt)
          clear hc3
          go_wp2_with (go_at_call 29; refine (readInt_at_len _ _ _ _ _ _ HR3.out HI.out).mono ?_; rintro e wx ⟨rfl, rfl⟩)
          go_roundw
          case rel => exact ⟨k + 1, by omega, by go_num, rfl, HBAD.out, HXW.out⟩
          case measure => simp [intOf]; omega
        · clear HBAD
          have K1 := Lib.hid (show fixR [] 258 1 = ([], 2) by decide)
          have K2 := Lib.hid (show fixR [] 1 9 = ([], 2) by decide)
          have K3 := Lib.hid (show readT [3, 97, 98] = ([], 0, 4) by decide)
          have K4 := Lib.hid (show readZ [97, 98] = ([], 0, 4) by decide)
          have K5 := Lib.hid (show endR [] [97, 0] = ([], 2) by decide)
          go_wp2_with (first | (go_at_call 32; refine (readText_at_len _ _ _ _ _ _ ⟨#[]⟩ (rd_lit _ _ [3, 97, 98] rfl (by simp) _ _ rfl (by simp)) K3.out rfl).mono ?_; rintro e wx ⟨rfl, rfl⟩) | (go_at_call 33; (with_reducible show Calls _ _ #[_, .int .u64 258, _] _ _); refine (appendFixed_at_len _ _ [] _ _ _ _ (Rd.nil _) (by simp) K1.out).mono ?_; rintro e w3 ⟨v3, rfl, ho3, hx3⟩) | (go_at_call 33; (with_reducible show Calls _ _ #[_, .int .u64 1, _] _ _); refine (appendFixed_at_len _ _ [] _ _ _ _ (Rd.nil _) (by simp) K2.out).mono ?_; rintro e w4 ⟨v4, rfl, ho4, hx4⟩) | (go_at_call 43; refine (readEnded_at_len _ _ _ _ _ _ ⟨#[]⟩ (rd_lit _ _ [97, 98] rfl (by simp) _ _ rfl (by simp)) K4.out rfl).mono ?_; rintro e wx ⟨rfl, rfl⟩) | (go_at_call 44; refine (appendEnded_len _ _ [] ⟨#[97, 0]⟩ (Rd.nil _) (by decide) (by simp)).mono ?_; intro e w5 hz; obtain ⟨v5, rfl, ho5, hx5⟩ := hz.at K5.out; clear hz) | (go_at_call 28; refine (lives01_c _).mono ?_; rintro e w6 ⟨rfl, hx6⟩))
          go_ret
          exact ⟨rfl, ((((HXW.out.alloc _).trans (hx3.trans hx4)).alloc _).trans (hx5.trans hx6))⟩
end Go.Proofs.Ytnlfcknpmemhfaa
