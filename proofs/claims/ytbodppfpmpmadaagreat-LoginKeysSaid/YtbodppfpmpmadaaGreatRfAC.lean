import Derived.Test.YtbodppfpmpmadaaGreatL6C
import Derived.Test.YtbodppfpmpmadaaGreatL14C
import Derived.Test.YtbodppfpmpmadaaGreatL9C
import Derived.Test.YtbodppfpmpmadaaGreatL8C
import Derived.Laws.BitsAllLaws
namespace Go.Proofs.YtbodppfpmpmadaaGreat
open Go.RowKit

theorem and_pow (c : Int) (k : Nat) (x : Int) (hx : BitVec.ofInt 32 x = BitVec.twoPow 32 k) : bits .and .u32 c x = if (BitVec.ofInt 32 c).getLsbD k then IntKind.u32.wrap ((BitVec.twoPow 32 k).toNat : Int) else 0 := by
  unfold bits
  dsimp only
  show IntKind.u32.wrap ((BitVec.ofInt 32 c &&& BitVec.ofInt 32 x).toNat : Int) = _
  rw [hx, BitVec.and_twoPow]
  split <;> rfl
theorem and_33280 (c : Int) : bits .and .u32 c 33280 = (if (BitVec.ofInt 32 c).getLsbD 9 then 512 else 0) + (if (BitVec.ofInt 32 c).getLsbD 15 then 32768 else 0) := by
  unfold bits
  dsimp only
  show IntKind.u32.wrap ((BitVec.ofInt 32 c &&& BitVec.ofInt 32 33280).toNat : Int) = _
  have e : BitVec.ofInt 32 33280 = BitVec.twoPow 32 9 ||| BitVec.twoPow 32 15 := by decide
  rw [e, BitVec.and_or_distrib_left, BitVec.and_twoPow, BitVec.and_twoPow]
  split <;> split <;> rfl
theorem hasB_one (c x : Int) (k : Nat) (h1 : BitVec.ofInt 32 x = BitVec.twoPow 32 k) (h2 : IntKind.u32.wrap ((BitVec.twoPow 32 k).toNat : Int) = x) (h3 : x ≠ 0) : hasB c x = hasC c x := by
  unfold hasB hasC
  rw [and_pow c k x h1, h2]
  split
  · simp [h3]
  · have : (0 == x) = false := by simp; exact fun e => h3 e.symm
    rw [this]
    rfl
theorem hasB_8 (c : Int) : hasB c 8 = hasC c 8 := hasB_one c 8 3 (by decide) (by decide) (by decide)
theorem hasB_plugin (c : Int) : hasB c 524288 = hasC c 524288 := hasB_one c 524288 19 (by decide) (by decide) (by decide)
theorem hasB_attrs (c : Int) : hasB c 1048576 = hasC c 1048576 := hasB_one c 1048576 20 (by decide) (by decide) (by decide)
theorem hasB_lenenc (c : Int) : hasB c 2097152 = hasC c 2097152 := hasB_one c 2097152 21 (by decide) (by decide) (by decide)
theorem base_eq (c : Int) : (hasB c 512 && hasB c 32768) = hasC c 33280 := by
  unfold hasB hasC
  rw [and_33280, and_pow c 9 512 (by decide), and_pow c 15 32768 (by decide)]
  cases (BitVec.ofInt 32 c).getLsbD 9 <;> cases (BitVec.ofInt 32 c).getLsbD 15 <;> rfl
theorem baseR_c (w : World) (c : Int) (b : Bool) (h : hasC c 33280 = b) : Calls Tryz.prog 116 #[.int .u32 c] w fun e w' => e = .returned (.bool b) ∧ w = w' := by
  rw [← base_eq] at h
  obtain ⟨p, hp⟩ : ∃ p, hasB c 512 = p := ⟨_, rfl⟩
  obtain ⟨q, hq⟩ : ∃ q, hasB c 32768 = q := ⟨_, rfl⟩
  rw [hp, hq] at h
  have HP := Lib.hid hp
  have HQ := Lib.hid hq
  have HB := Lib.hid h
  clear hp hq h
  cases p
  all_goals
    go_enter Tryz.func116, Tryz.ntmps116
    go_wp2_with (first
      | ((with_reducible show Calls _ _ #[_, Value.int .u32 512] _ _); go_at_call 104; refine (hasR_at _ _ _ _ HP.out).mono ?_; rintro e wx ⟨rfl, rfl⟩)
      | ((with_reducible show Calls _ _ #[_, Value.int .u32 32768] _ _); go_at_call 104; refine (hasR_at _ _ _ _ HQ.out).mono ?_; rintro e wx ⟨rfl, rfl⟩)
      | fail)
    go_ret
    exact ⟨congrArg (fun z => Ending.returned (.bool z)) (by rw [← HB.out]; simp), rfl⟩
theorem neededR_c (w : World) : Calls Tryz.prog 105 #[] w fun e w' => e = .returned (.int .u32 565760) ∧ w = w' := by
  go_enter Tryz.func105, Tryz.ntmps105
  go_wp2_with fail
  go_ret
  exact ⟨rfl, rfl⟩
theorem capsCheckR_c (w : World) (c : Int) : Calls Tryz.prog 59 #[.int .u32 c] w fun e w' => e = .returned (.int .i64 (checkC c)) ∧ w = w' := by
  obtain ⟨m, hm⟩ : ∃ m, bits .and .u32 c 565760 = m := ⟨_, rfl⟩
  unfold checkC
  rw [hm]
  by_cases h : m = 565760
  · subst h
    go_enter Tryz.func59, Tryz.ntmps59
    go_wp2_with (go_at_call 105; refine (neededR_c _).mono ?_; rintro e wx ⟨rfl, rfl⟩)
    go_ret
    exact ⟨rfl, rfl⟩
  · have hb : (m == 565760) = false := by simp [h]
    have hn : (m != 565760) = true := by simp [h]
    rw [hb]
    go_enter Tryz.func59, Tryz.ntmps59
    go_wp2_with (go_at_call 105; refine (neededR_c _).mono ?_; rintro e wx ⟨rfl, rfl⟩)
    go_ret
    exact ⟨rfl, rfl⟩
theorem withoutR_c (w : World) (c on mask : Int) : Calls Tryz.prog 119 #[.int .u32 c, .int .u32 on, .int .u32 mask] w fun e w' => e = .returned (.int .u32 (dropC c mask on)) ∧ w = w' := by
  obtain ⟨m, hm⟩ : ∃ m, bits .and .u32 c on = m := ⟨_, rfl⟩
  unfold dropC
  rw [hm]
  by_cases h : m = 0
  · have hb : (m == 0) = true := by simp [h]
    rw [hb]
    go_enter Tryz.func119, Tryz.ntmps119
    go_wp2_with fail
    go_ret
    exact ⟨rfl, rfl⟩
  · have hb : (m == 0) = false := by simp [h]
    rw [hb]
    go_enter Tryz.func119, Tryz.ntmps119
    go_wp2_with fail
    go_ret
    exact ⟨rfl, rfl⟩
theorem bothR_c (w : World) (s c : Int) : Calls Tryz.prog 66 #[.int .u32 s, .int .u32 c] w fun e w' => e = .returned (.int .u32 (bothC s c)) ∧ w = w' := by
  obtain ⟨m, hm⟩ : ∃ m, bits .and .u32 s c = m := ⟨_, rfl⟩
  obtain ⟨m1, h1⟩ : ∃ x, dropC m 29294760 512 = x := ⟨_, rfl⟩
  obtain ⟨m2, h2⟩ : ∃ x, dropC m1 3145728 524288 = x := ⟨_, rfl⟩
  obtain ⟨m3, h3⟩ : ∃ x, dropC m2 65536 131072 = x := ⟨_, rfl⟩
  have e : bothC s c = m3 := by
    show dropC (dropC (dropC (bits .and .u32 s c) 29294760 512) 3145728 524288) 65536 131072 = m3
    rw [hm, h1, h2, h3]
  rw [e]
  have H1 := Lib.hid h1
  have H2 := Lib.hid h2
  have H3 := Lib.hid h3
  clear h1 h2 h3 e
  go_enter Tryz.func66, Tryz.ntmps66
  go_wp2_with (first
    | ((with_reducible show Calls _ _ #[_, Value.int .u32 512, _] _ _); go_at_call 119; refine (withoutR_c _ m 512 29294760).mono ?_; rw [H1.out]; rintro e wx ⟨rfl, rfl⟩)
    | ((with_reducible show Calls _ _ #[_, Value.int .u32 524288, _] _ _); go_at_call 119; refine (withoutR_c _ m1 524288 3145728).mono ?_; rw [H2.out]; rintro e wx ⟨rfl, rfl⟩)
    | ((with_reducible show Calls _ _ #[_, Value.int .u32 131072, _] _ _); go_at_call 119; refine (withoutR_c _ m2 131072 65536).mono ?_; rw [H3.out]; rintro e wx ⟨rfl, rfl⟩)
    | fail)
  go_ret
  exact ⟨rfl, rfl⟩

theorem contains_not {l : List UInt8} (h : ∀ j, j < l.length → l.getD j 0 ≠ 0) : l.contains 0 = false := not_contains_of h
set_option maxHeartbeats 400000 in
theorem plain12R_c (w : World) (l : List UInt8) (hl : l.length ≤ 1000000) : Calls Tryz.prog 156 #[.string (strL l)] w fun e w' => e = .returned (.bool (!l.contains 0)) ∧ w = w' := by
  obtain ⟨s, hs⟩ : ∃ s, s = strL l := ⟨_, rfl⟩
  have hsz : s.size = l.length := by rw [hs, strL_size]
  have hdl : s.data.toList = l := by rw [hs, strL_toList]
  rw [← hs]
  obtain ⟨q, hq⟩ : ∃ q, l.contains 0 = q := ⟨_, rfl⟩
  rw [hq]
  have HQ := Lib.hid hq
  have HSZ := Lib.hid hsz
  have HDL := Lib.hid hdl
  have hle : s.size ≤ 1000000 := by omega
  clear hs hsz hdl hq hl
  go_enter Tryz.func156, Tryz.ntmps156
  go_wp2_with fail
  go_loop [3] (fun i => ∃ k : Nat, k ≤ s.size ∧ i = .int .i64 k ∧ ∀ j, j < k → l.getD j 0 ≠ 0) (fun i => s.size - (intOf i).toNat)
  case atStart => exact ⟨0, Nat.zero_le _, rfl, fun j hj => by omega⟩
  case round =>
    obtain ⟨k, hk, rfl, hj⟩ := hrel
    have HJ := Lib.hid hj
    clear hj
    by_cases hlt : k < s.size
    · have hg := str_getD s k hlt
      rw [HDL.out] at hg
      have HGk := Lib.hid hg
      clear hg
      go_wp2_with fail
      · have ht : (((s[k]'hlt).toNat : Int) == 0) = true := by assumption
        go_ret
        have hc : l.contains 0 = true := contains_of (k := k) (by rw [← HSZ.out]; exact hlt) (by rw [HGk.out]; exact byte_zero ht)
        exact ⟨congrArg (fun z => Ending.returned (.bool z)) (by rw [← HQ.out, hc]; rfl), rfl⟩
      · have ht : (((s[k]'hlt).toNat : Int) == 0) = false := by assumption
        go_round
        case rel =>
          refine ⟨k + 1, by omega, by go_num, fun j hj => ?_⟩
          rcases Nat.lt_or_ge j k with h | h
          · exact HJ.out j h
          · obtain rfl : j = k := by omega
            rw [HGk.out]
            exact byte_nz ht
        case measure => simp [intOf]; omega
    · obtain rfl : k = s.size := by omega
      have hc : l.contains 0 = false := contains_not (fun j hj => HJ.out j (by rw [HSZ.out]; exact hj))
      have HC := Lib.hid hc
      clear hc
      go_wp2_with fail
      go_ret
      exact ⟨congrArg (fun z => Ending.returned (.bool z)) (by rw [← HQ.out, HC.out]; rfl), rfl⟩
set_option maxHeartbeats 400000 in
theorem plain27R_c (w : World) (l : List UInt8) (hl : l.length ≤ 9223372036854775807) : Calls Tryz.prog 54 #[.string (strL l)] w fun e w' => e = .returned (.bool (plainU l)) ∧ w = w' := by
  obtain ⟨s, hs⟩ : ∃ s, s = strL l := ⟨_, rfl⟩
  have hsz : s.size = l.length := by rw [hs, strL_size]
  have hdl : s.data.toList = l := by rw [hs, strL_toList]
  rw [← hs]
  obtain ⟨q, hq⟩ : ∃ q, plainU l = q := ⟨_, rfl⟩
  rw [hq]
  unfold plainU at hq
  have HQ := Lib.hid hq
  have HSZ := Lib.hid hsz
  have HDL := Lib.hid hdl
  have hle : s.size ≤ 9223372036854775807 := by omega
  clear hs hsz hdl hq hl
  go_enter Tryz.func54, Tryz.ntmps54
  go_wp2_with fail
  go_loop [3] (fun i => ∃ k : Nat, k ≤ s.size ∧ i = .int .i64 k ∧ ∀ j, j < k → l.getD j 0 ≠ 0) (fun i => s.size - (intOf i).toNat)
  case atStart => exact ⟨0, Nat.zero_le _, rfl, fun j hj => by omega⟩
  case round =>
    obtain ⟨k, hk, rfl, hj⟩ := hrel
    have HJ := Lib.hid hj
    clear hj
    by_cases hlt : k < s.size
    · have hg := str_getD s k hlt
      rw [HDL.out] at hg
      have HGk := Lib.hid hg
      clear hg
      go_wp2_with fail
      · have ht : (((s[k]'hlt).toNat : Int) == 0) = true := by assumption
        go_ret
        have hc : l.contains 0 = true := contains_of (k := k) (by rw [← HSZ.out]; exact hlt) (by rw [HGk.out]; exact byte_zero ht)
        exact ⟨congrArg (fun z => Ending.returned (.bool z)) (by rw [← HQ.out, hc]; simp), rfl⟩
      · have ht : (((s[k]'hlt).toNat : Int) == 0) = false := by assumption
        go_round
        case rel =>
          refine ⟨k + 1, by omega, by go_num, fun j hj => ?_⟩
          rcases Nat.lt_or_ge j k with h | h
          · exact HJ.out j h
          · obtain rfl : j = k := by omega
            rw [HGk.out]
            exact byte_nz ht
        case measure => simp [intOf]; omega
    · obtain rfl : k = s.size := by omega
      have hc : l.contains 0 = false := contains_not (fun j hj => HJ.out j (by rw [HSZ.out]; exact hj))
      have HC := Lib.hid hc
      clear hc
      by_cases h64 : s.size ≤ 64
      · have hb : (s.size : Int) ≤ 64 := by omega
        have hQ : q = true := by rw [← HQ.out, HC.out, ← HSZ.out]; simp [h64]
        subst hQ
        clear h64
        go_wp2_with fail
        go_ret
        exact ⟨rfl, rfl⟩
      · have hb : ¬ (s.size : Int) ≤ 64 := by omega
        have hQ : q = false := by rw [← HQ.out, HC.out, ← HSZ.out]; simp [h64]
        subst hQ
        clear h64
        go_wp2_with fail
        go_ret
        exact ⟨rfl, rfl⟩
set_option maxHeartbeats 1000000 in
theorem responseR_c (w : World) (pl pw n : List UInt8) (vn : Value) (hp : pw.length ≤ 1000000) (hn : Rd w vn n) :
    Calls Tryz.prog 76 #[.string (strL pl), .string (strL pw), vn] w fun e w' => ∃ v', e = .returned v' ∧ Rd w' v' (respPl pl pw n) ∧ Ext w w' := by
  have HN := Lib.hid hn
  have HP := Lib.hid (show (strL pw).size ≤ 1000000 by rw [strL_size]; exact hp)
  obtain ⟨q5, e5⟩ : ∃ q, q = (pl == fastL) := ⟨_, rfl⟩
  have g5 : ((strL pl).toList == [99, 97, 99, 104, 105, 110, 103, 95, 115, 104, 97, 50, 95, 112, 97, 115, 115, 119, 111, 114, 100]) = q5 := by rw [strL_tl]; exact e5.symm
  unfold respPl
  rw [← e5]
  clear e5 hn
  cases q5 with
  | true =>
    go_enter Tryz.func76, Tryz.ntmps76
    go_wp2_with (first
      | (go_at_call 128; refine (fast_r _ (strL pw) _ n HP.out HN.out).mono ?_; rintro e w1 ⟨v1, rfl, hr1, hx1⟩)
      | fail)
    go_ret
    exact ⟨_, rfl, hr1, hx1⟩
  | false =>
    go_enter Tryz.func76, Tryz.ntmps76
    go_wp2_with (first
      | (go_at_call 129; refine (ntv_r _ (strL pw) _ n HP.out HN.out).mono ?_; rintro e w1 ⟨v1, rfl, hr1, hx1⟩)
      | fail)
    go_ret
    exact ⟨_, rfl, hr1, hx1⟩
end Go.Proofs.YtbodppfpmpmadaaGreat

