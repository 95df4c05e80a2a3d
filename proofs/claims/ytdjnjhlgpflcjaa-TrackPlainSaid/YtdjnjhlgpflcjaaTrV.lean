/- May what is known be: any. -/
import Derived.Test.YtdjnjhlgpflcjaaTrN
import Derived.Test.YtdjnjhlgpflcjaaTrK
import Derived.BigQuiet
import Derived.IntWalk
namespace Go.Proofs.Ytdjnjhlgpflcjaa
open Go.RowKit

def tstU (f : Nat → ByteArray) (i : Nat) : Bool := !(f i).toList.isEmpty && (i == 0 || Op.bytesLess (f (i - 1)).toList (f i).toList)
def okU (f : Nat → ByteArray) (b : Bool) : Nat → Bool
  | 0 => b
  | i + 1 => okU f b i && tstU f i
def ckU (n m : Nat) (f g : Nat → ByteArray) : Int := if okU g (okU f (decide (n ≤ 64) && decide (m ≤ 64)) n) m then 0 else 2
theorem okU_f {f : Nat → ByteArray} {b : Bool} {k : Nat} (h : okU f b k = false) : okU f b (k + 1) = false := by rw [okU, h]; rfl
theorem okU_e {f : Nat → ByteArray} {b : Bool} {k : Nat} (h : (f k).toList.isEmpty = true) : okU f b (k + 1) = false := by rw [okU, tstU, h]; simp
theorem okU_0 {f : Nat → ByteArray} {b : Bool} (h : okU f b 0 = true) (he : (f 0).toList.isEmpty = false) : okU f b (0 + 1) = true := by rw [okU, h, tstU, he]; rfl
theorem okU_s {f : Nat → ByteArray} {b : Bool} {j : Nat} (h : okU f b (j + 1) = true) (he : (f (j + 1)).toList.isEmpty = false) : okU f b (j + 1 + 1) = Op.bytesLess (f j).toList (f (j + 1)).toList := by rw [okU, h, tstU, he]; simp
abbrev var0 : List Value := [.string ByteArray.empty, .string ByteArray.empty]

set_option maxRecDepth 100000 in
set_option maxHeartbeats 16000000 in
theorem check_any (w : World) (s : ByteArray) (Av At : Option Addr) (nv cv nt ct : Nat) (tr us lk od : Bool) (f g : Nat → ByteArray) (h : Nat → ByteArray)
    (hv : nv ≤ cv ∧ cv ≤ maxLen ∧ (0 < nv → ∃ b o, Av = some ⟨b, o, none⟩ ∧ ∀ k, k < nv → w.cell? ⟨b, o + k * 2, none⟩ = some (.string (f k)) ∧ w.cell? ⟨b, o + k * 2 + 1, none⟩ = some (.string (h k))))
    (ht : nt ≤ ct ∧ ct ≤ maxLen ∧ (0 < nt → ∃ b o, At = some ⟨b, o, none⟩ ∧ ∀ k, k < nt → w.cell? ⟨b, o + k, none⟩ = some (.string (g k)))) :
    Calls Try.prog 18 #[.agg (trC s (.slice Av nv cv) (.slice At nt ct) tr us lk od).toArray] w fun e w' => e = .returned (.int .i64 (ckU nv nt f g)) ∧ Ext w w' := by
  obtain ⟨hv1, hv2, hv3⟩ := hv
  obtain ⟨ht1, ht2, ht3⟩ := ht
  unfold maxLen at hv2 ht2
  have HV := Lib.hid hv3
  have HT := Lib.hid ht3
  obtain ⟨r, hr⟩ : ∃ r, r = ckU nv nt f g := ⟨_, rfl⟩
  rw [← hr]
  have HR := Lib.hid hr
  obtain ⟨b0, hb0⟩ : ∃ b0, b0 = (decide (nv ≤ 64) && decide (nt ≤ 64)) := ⟨_, rfl⟩
  have HB0 := Lib.hid hb0
  have hcase : ∃ b, b0 = b ∧ (((nv : Int) ≤ 64 ∧ (nt : Int) ≤ 64 ∧ b = true) ∨ ((nv : Int) ≤ 64 ∧ 64 < (nt : Int) ∧ b = false) ∨ (64 < (nv : Int) ∧ b = false)) := by
    refine ⟨b0, rfl, ?_⟩
    rw [hb0]
    by_cases h1 : nv ≤ 64
    · by_cases h2 : nt ≤ 64
      · left; simp [h1, h2]; omega
      · right; left; simp [h1, h2]; omega
    · right; right; simp [h1]; omega
  obtain ⟨b, hb, hcase⟩ := hcase
  have HBB := Lib.hid hb
  clear hv3 ht3 hr hb0 hb
  rcases hcase with ⟨k1, k2, rfl⟩ | ⟨k1, k2, rfl⟩ | ⟨k1, rfl⟩
  all_goals
    go_enter Try.func18, Try.ntmps18
    go_wp2_with fail
    generalize hW0 : w.alloc _ = W0
    have BX : BoxF W0 w.heap.size (trC s (.slice Av nv cv) (.slice At nt ct) tr us lk od) := by rw [← hW0]; exact BoxF.new w _ _
    have hx0 : Ext w W0 := by rw [← hW0]; exact (Ext.refl w).alloc _
    clear hW0
    replace BX := Lib.hid BX
    have HX0 := Lib.hid hx0
    clear hx0
    go_loopw [3, 21] (fun o i W => ∃ k : Nat, k ≤ nv ∧ i = .int .i64 k ∧ o = .bool (okU f b0 k) ∧ Ext W0 W) (fun _ i _ => nv - (intOf i).toNat)
    case atStart => exact ⟨0, Nat.zero_le _, rfl, by rw [show okU f b0 0 = b0 from rfl, HBB.out]; first | done | (congr 1; simp; omega), Ext.refl _⟩
    case round =>
      obtain ⟨k, hk, rfl, rfl, hx⟩ := hrel
      by_cases hkN : k < nv
      · have hbk : (k : Int) < (nv : Int) := by omega
        obtain ⟨bb, oo, rfl, hcc⟩ := HV.out (by omega)
        obtain ⟨p0, p1⟩ := hcc k hkN
        replace p0 := (HX0.out.trans hx).cell p0
        replace p1 := (HX0.out.trans hx).cell p1
        have c1 := (BX.out.ext hx).at (j := 1) rfl
        cases hq : okU f b0 k with
        | false =>
          have HQ := Lib.hid hq
          clear hq hcc
          go_wp2_with (first
            | ((with_reducible show wpList _ _ _ (⟨none, Op.store _ _ _, _, _, _, _⟩ :: _) _ _); refine wpl_store_box rfl _ _ _ rfl _ [.string (f k), .string (h k)] rfl rfl (BoxF.new wr var0 _) rfl (by kernel_rfl) (by rfl) ?_; intro w2 B2 O2; have hx2 : Ext wr w2 := ((Ext.refl wr).alloc _).on O2 (Nat.le_refl _); have d0 := B2.at (j := 0) rfl; replace c1 := hx2.cell c1)
            | fail)
          (try dsimp only [Act.put])
          go_quiet (fail)
          go_wp2_with fail
          go_roundw
          case rel => exact ⟨k + 1, by omega, by go_num, by rw [okU_f HQ.out], (hx.trans hx2).drewN _⟩
          case measure => simp [intOf]; omega
        | true =>
          have HQ := Lib.hid hq
          clear hq
          cases he : (f k).toList.isEmpty with
          | true =>
            have HE := Lib.hid he
            clear hcc
            go_wp2_with (first
              | ((with_reducible show wpList _ _ _ (⟨none, Op.store _ _ _, _, _, _, _⟩ :: _) _ _); refine wpl_store_box rfl _ _ _ rfl _ [.string (f k), .string (h k)] rfl rfl (BoxF.new wr var0 _) rfl (by kernel_rfl) (by rfl) ?_; intro w2 B2 O2; have hx2 : Ext wr w2 := ((Ext.refl wr).alloc _).on O2 (Nat.le_refl _); have d0 := B2.at (j := 0) rfl; replace c1 := hx2.cell c1)
              | fail)
            (try dsimp only [Act.put])
            go_quiet (fail)
            go_wp2_with fail
            go_roundw
            case rel => exact ⟨k + 1, by omega, by go_num, by rw [okU_e HE.out], (hx.trans hx2).drewN _⟩
            case measure => simp [intOf]; omega
          | false =>
            have HE := Lib.hid he
            rcases Nat.eq_zero_or_pos k with rfl | hpos
            · clear hcc
              rw [Nat.zero_mul, Nat.add_zero] at p0 p1
              go_wp2_with (first
                | ((with_reducible show wpList _ _ _ (⟨none, Op.store _ _ _, _, _, _, _⟩ :: _) _ _); refine wpl_store_box rfl _ _ _ rfl _ [.string (f 0), .string (h 0)] rfl rfl (BoxF.new wr var0 _) rfl (by kernel_rfl) (by rfl) ?_; intro w2 B2 O2; have hx2 : Ext wr w2 := ((Ext.refl wr).alloc _).on O2 (Nat.le_refl _); have d0 := B2.at (j := 0) rfl; replace c1 := hx2.cell c1)
                | fail)
              (try dsimp only [Act.put])
              go_quiet (fail)
              go_wp2_with fail
              go_roundw
              case rel => exact ⟨0 + 1, by omega, by go_num, by rw [okU_0 HQ.out HE.out], (hx.trans hx2).drewN _⟩
              case measure => simp [intOf]; omega
            · obtain ⟨j, hj⟩ : ∃ j, k = j + 1 := ⟨k - 1, by omega⟩
              have q0 := (HX0.out.trans hx).cell (hcc j (by omega)).1
              have hji : (k : Int) - 1 = (j : Int) := by omega
              have hjw : IntKind.i64.wrap ((k : Int) - 1) = (j : Int) := by rw [hji]; exact IntWalk.i64_in _ (by omega)
              have hj1 : (0 : Int) ≤ (j : Int) := by omega
              have hj2 : (j : Int) < (nv : Int) := by omega
              have hk0 : ((k : Int) == 0) = false := by simp; omega
              have HJ := Lib.hid hj
              clear hcc hj hpos
              go_wp2_with (first
                | ((with_reducible show wpList _ _ _ (⟨none, Op.store _ _ _, _, _, _, _⟩ :: _) _ _); refine wpl_store_box rfl _ _ _ rfl _ [.string (f k), .string (h k)] rfl rfl (BoxF.new wr var0 _) rfl (by kernel_rfl) (by rfl) ?_; intro w2 B2 O2; have hx2 : Ext wr w2 := ((Ext.refl wr).alloc _).on O2 (Nat.le_refl _); have d0 := B2.at (j := 0) rfl; replace c1 := hx2.cell c1; replace q0 := hx2.cell q0)
                | fail)
              (try dsimp only [Act.put])
              go_quiet (fail)
              go_wp2_with fail
              go_roundw
              case rel => exact ⟨k + 1, by omega, by go_num, by have hq := HQ.out; have he := HE.out; have hj := HJ.out; subst hj; rw [okU_s hq he], (hx.trans hx2).drewN _⟩
              case measure => simp [intOf]; omega
      · obtain rfl : k = nv := by omega
        obtain ⟨c0, hc0⟩ : ∃ c0, c0 = okU f b0 k := ⟨_, rfl⟩
        have HC0 := Lib.hid hc0
        rw [← hc0]
        obtain ⟨wa, rfl⟩ : ∃ wa, wa = wr := ⟨_, rfl⟩
        have BA := Lib.hid (BX.out.ext hx)
        have c2 := BA.out.at (j := 2) rfl
        have HX := Lib.hid (HX0.out.trans hx)
        clear hc0 hx
        go_wp2_with fail
        go_loopw [3, 52] (fun o i W => ∃ k : Nat, k ≤ nt ∧ i = .int .i64 k ∧ o = .bool (okU g c0 k) ∧ Ext wa W) (fun _ i _ => nt - (intOf i).toNat)
        case atStart => exact ⟨0, Nat.zero_le _, rfl, rfl, Ext.refl _⟩
        case round =>
          clear c2
          obtain ⟨m, hm, rfl, rfl, hx⟩ := hrel
          by_cases hmN : m < nt
          · have hbm : (m : Int) < (nt : Int) := by omega
            obtain ⟨ba, oa, rfl, hcc⟩ := HT.out (by omega)
            have p0 := hcc m hmN
            replace p0 := (HX.out.trans hx).cell p0
            have c2 := (BA.out.ext hx).at (j := 2) rfl
            cases hq : okU g c0 m with
            | false =>
              have HQ := Lib.hid hq
              clear hq hcc
              go_wp2_with fail
              go_roundw
              case rel => exact ⟨m + 1, by omega, by go_num, by rw [okU_f HQ.out], hx⟩
              case measure => simp [intOf]; omega
            | true =>
              have HQ := Lib.hid hq
              clear hq
              cases he : (g m).toList.isEmpty with
              | true =>
                have HE := Lib.hid he
                clear hcc
                go_wp2_with fail
                go_roundw
                case rel => exact ⟨m + 1, by omega, by go_num, by rw [okU_e HE.out], hx⟩
                case measure => simp [intOf]; omega
              | false =>
                have HE := Lib.hid he
                rcases Nat.eq_zero_or_pos m with rfl | hpos
                · clear hcc
                  rw [Nat.add_zero] at p0
                  go_wp2_with fail
                  go_roundw
                  case rel => exact ⟨0 + 1, by omega, by go_num, by rw [okU_0 HQ.out HE.out], hx⟩
                  case measure => simp [intOf]; omega
                · obtain ⟨j, hj⟩ : ∃ j, m = j + 1 := ⟨m - 1, by omega⟩
                  have q0 := (HX.out.trans hx).cell (hcc j (by omega))
                  have hji : (m : Int) - 1 = (j : Int) := by omega
                  have hjw : IntKind.i64.wrap ((m : Int) - 1) = (j : Int) := by rw [hji]; exact IntWalk.i64_in _ (by omega)
                  have hjn : m - 1 = j := by omega
                  have hj1 : (0 : Int) ≤ (j : Int) := by omega
                  have hj2 : (j : Int) < (nt : Int) := by omega
                  have hk0 : ((m : Int) == 0) = false := by simp; omega
                  have HJ := Lib.hid hj
                  clear hcc hj hpos
                  go_wp2_with fail
                  go_roundw
                  case rel => exact ⟨m + 1, by omega, by go_num, by have hq := HQ.out; have he := HE.out; have hj := HJ.out; subst hj; rw [okU_s hq he], hx⟩
                  case measure => simp [intOf]; omega
          · obtain rfl : m = nt := by omega
            cases hq : okU g c0 m with
            | false =>
              have hr : r = 2 := by rw [HR.out, ckU, ← HB0.out, ← HC0.out, hq]; rfl
              have HR2 := Lib.hid hr
              clear hr
              go_wp2_with fail
              go_ret
              exact ⟨by rw [HR2.out]; first | done | rfl, HX.out.trans hx⟩
            | true =>
              have hr : r = 0 := by rw [HR.out, ckU, ← HB0.out, ← HC0.out, hq]; rfl
              have HR2 := Lib.hid hr
              clear hr
              go_wp2_with fail
              go_ret
              exact ⟨by rw [HR2.out]; first | done | rfl, HX.out.trans hx⟩
end Go.Proofs.Ytdjnjhlgpflcjaa
