import Derived.Test.YtaiakkifefedoaaL5C
import Derived.Test.YtaiakkifefedoaaGrHC
import Derived.Deep.QuietTactic
import Derived.BigQuiet
/- Two packets that are the same. -/
namespace Go.Proofs.Ytaiakkifefedoaa
open Go.RowKit

set_option maxRecDepth 100000 in
set_option maxHeartbeats 1000000 in
theorem sameAttrs_c (w : World) (va vb : Value) (ps : Pairs) (ha : Attrs w va ps) (hb : Attrs w vb ps) :
    Calls Try.prog 44 #[va, vb] w fun e w' => e = .returned (.bool true) ∧ Ext w w' := by
  have HA := Lib.hid ha
  have HB := Lib.hid hb
  obtain ⟨A, cA, hva, hle, hm⟩ := ha.shape
  obtain ⟨B, cB, hvb, _, _⟩ := hb.shape
  rw [pairsC_length] at hva hvb hle
  unfold maxLen at hm
  obtain ⟨N, hN⟩ : ∃ N, N = ps.length := ⟨_, rfl⟩
  rw [← hN] at hva hvb hle
  subst hva hvb
  have HN := Lib.hid hN
  clear ha hb hN
  go_enter Try.func44, Try.ntmps44
  go_wp2_with fail
  go_loopw [5] (fun i W => ∃ k : Nat, k ≤ N ∧ i = .int .i64 k ∧ Ext w W) (fun i _ => N - (intOf i).toNat)
  case atStart => exact ⟨0, Nat.zero_le _, rfl, Ext.refl _⟩
  case round =>
    obtain ⟨k, hk, rfl, hx⟩ := hrel
    by_cases hkN : k < N
    · have hbk : (k : Int) < (N : Int) := by omega
      obtain ⟨b0, o0, rfl, hn2, hcs⟩ := (HA.out.ext hx).at_ (by omega)
      obtain ⟨b1, o1, rfl, _, hds⟩ := (HB.out.ext hx).at_ (by omega)
      have hck := hcs k hkN
      have hdk := hds k hkN
      rw [pairsC_getD ps k (by have := HN.out; omega)] at hck hdk
      generalize ps.getD k ([], []) = p at hck hdk
      obtain ⟨s1, s2⟩ := p
      have p0 : wr.cell? ⟨b0, o0 + k * 2, none⟩ = some (.string (strL s1)) := hck 0 _ rfl
      have p1 : wr.cell? ⟨b0, o0 + k * 2 + 1, none⟩ = some (.string (strL s2)) := hck 1 _ rfl
      have q0 : wr.cell? ⟨b1, o1 + k * 2, none⟩ = some (.string (strL s1)) := hdk 0 _ rfl
      have q1 : wr.cell? ⟨b1, o1 + k * 2 + 1, none⟩ = some (.string (strL s2)) := hdk 1 _ rfl
      clear hn2 hcs hds hck hdk
      go_wp2_with fail
      (try dsimp only [Act.put])
      go_quiet (fail)
      go_wp2_with fail
      go_roundw
      case rel => exact ⟨k + 1, by omega, by go_num, hx.drewN _⟩
      case measure => simp [intOf]; omega
    · obtain rfl : k = N := by omega
      go_wp2_with fail
      go_ret
      exact ⟨rfl, hx⟩

set_option maxHeartbeats 1000000 in
theorem sameSwitch_c (w : World) (pl n : List UInt8) (vn vm : Value) (hn : Rd w vn n) (hm : Rd w vm n) :
    Calls Try.prog 21 #[.agg #[.string (strL pl), vn], .agg #[.string (strL pl), vm]] w fun e w' => e = .returned (.bool true) ∧ Ext w w' := by
  have HN := Lib.hid hn
  have HM := Lib.hid hm
  obtain ⟨A, c, rfl, _⟩ := hn
  obtain ⟨B, d, rfl, _⟩ := hm
  obtain ⟨t, ht⟩ : ∃ t, strL pl = t := ⟨_, rfl⟩
  rw [ht]
  clear ht
  go_enter Try.func21, Try.ntmps21
  go_wp2_with (first
    | (go_at_call 10; refine (same_c _ _ _ n n (HN.out.ext (((Ext.refl _).alloc _).alloc _)) (HM.out.ext (((Ext.refl _).alloc _).alloc _)) true (by simp)).mono ?_; rintro e w4 ⟨rfl, rfl⟩)
    | fail)
  go_ret
  exact ⟨rfl, ((Ext.refl _).alloc _).alloc _⟩
set_option maxHeartbeats 2000000 in
theorem sameGreeting_c (w : World) (ver pl n : List UInt8) (thr caps ch st : Int) (vn vm : Value) (hn : Rd w vn n) (hm : Rd w vm n) :
    Calls Try.prog 19 #[.agg #[.string (strL ver), .int .u32 thr, vn, .int .u32 caps, .int .u8 ch, .int .u16 st, .string (strL pl)], .agg #[.string (strL ver), .int .u32 thr, vm, .int .u32 caps, .int .u8 ch, .int .u16 st, .string (strL pl)]] w fun e w' => e = .returned (.bool true) ∧ Ext w w' := by
  have HN := Lib.hid hn
  have HM := Lib.hid hm
  obtain ⟨A, c, rfl, _⟩ := hn
  obtain ⟨B, d, rfl, _⟩ := hm
  go_enter Try.func19, Try.ntmps19
  go_wp2_with (first
    | (go_at_call 10; refine (same_c _ _ _ n n (HN.out.ext (((Ext.refl _).alloc _).alloc _)) (HM.out.ext (((Ext.refl _).alloc _).alloc _)) true (by simp)).mono ?_; rintro e w4 ⟨rfl, rfl⟩)
    | fail)
  go_ret
  exact ⟨rfl, ((Ext.refl _).alloc _).alloc _⟩
set_option maxHeartbeats 2000000 in
theorem sameAnswer_c (w : World) (caps most ch : Int) (user resp db pl : List UInt8) (ps : Pairs) (vr va vs vb : Value) (hr : Rd w vr resp) (ha : Attrs w va ps) (hs : Rd w vs resp) (hb : Attrs w vb ps) :
    Calls Try.prog 20 #[.agg #[.int .u32 caps, .int .u32 most, .int .u8 ch, .string (strL user), vr, .string (strL db), .string (strL pl), va], .agg #[.int .u32 caps, .int .u32 most, .int .u8 ch, .string (strL user), vs, .string (strL db), .string (strL pl), vb]] w fun e w' => e = .returned (.bool true) ∧ Ext w w' := by
  have HN := Lib.hid hr
  have HM := Lib.hid hs
  have HA := Lib.hid ha
  have HB := Lib.hid hb
  obtain ⟨A, c, rfl, _⟩ := hr
  obtain ⟨B, d, rfl, _⟩ := hs
  obtain ⟨Aa, ca, hva, _, _⟩ := Recs.shape ha
  obtain ⟨Ab, cb, hvb, _, _⟩ := Recs.shape hb
  subst hva hvb
  clear ha hb
  go_enter Try.func20, Try.ntmps20
  go_wp2_with (first
    | (go_at_call 10; refine (same_c _ _ _ resp resp (HN.out.ext (((Ext.refl _).alloc _).alloc _)) (HM.out.ext (((Ext.refl _).alloc _).alloc _)) true (by simp)).mono ?_; rintro e w4 ⟨rfl, rfl⟩)
    | (go_at_call 44; refine (sameAttrs_c _ _ _ ps (HA.out.ext (((Ext.refl _).alloc _).alloc _)) (HB.out.ext (((Ext.refl _).alloc _).alloc _))).mono ?_; rintro e w5 ⟨rfl, hx5⟩)
    | fail)
  go_ret
  exact ⟨rfl, (((Ext.refl _).alloc _).alloc _).trans hx5⟩
set_option maxHeartbeats 2000000 in
theorem sameChange_c (w : World) (ch : Int) (user resp db pl : List UInt8) (ps : Pairs) (vr va vs vb : Value) (hr : Rd w vr resp) (ha : Attrs w va ps) (hs : Rd w vs resp) (hb : Attrs w vb ps) :
    Calls Try.prog 24 #[.agg #[.string (strL user), vr, .string (strL db), .int .u16 ch, .string (strL pl), va], .agg #[.string (strL user), vs, .string (strL db), .int .u16 ch, .string (strL pl), vb]] w fun e w' => e = .returned (.bool true) ∧ Ext w w' := by
  have HN := Lib.hid hr
  have HM := Lib.hid hs
  have HA := Lib.hid ha
  have HB := Lib.hid hb
  obtain ⟨A, c, rfl, _⟩ := hr
  obtain ⟨B, d, rfl, _⟩ := hs
  obtain ⟨Aa, ca, hva, _, _⟩ := Recs.shape ha
  obtain ⟨Ab, cb, hvb, _, _⟩ := Recs.shape hb
  subst hva hvb
  clear ha hb
  go_enter Try.func24, Try.ntmps24
  go_wp2_with (first
    | (go_at_call 10; refine (same_c _ _ _ resp resp (HN.out.ext (((Ext.refl _).alloc _).alloc _)) (HM.out.ext (((Ext.refl _).alloc _).alloc _)) true (by simp)).mono ?_; rintro e w4 ⟨rfl, rfl⟩)
    | (go_at_call 44; refine (sameAttrs_c _ _ _ ps (HA.out.ext (((Ext.refl _).alloc _).alloc _)) (HB.out.ext (((Ext.refl _).alloc _).alloc _))).mono ?_; rintro e w5 ⟨rfl, hx5⟩)
    | fail)
  go_ret
  exact ⟨rfl, (((Ext.refl _).alloc _).alloc _).trans hx5⟩

theorem tmod_emod (x n : Int) : x.tmod n % n = x % n := by
  rw [Int.tmod_def, Int.sub_mul_emod_self_left]
set_option maxHeartbeats 1000000 in
theorem pick_c (w : World) (x n : Int) (hn : 0 < n) (hm : n < 1000000000) :
    Calls Try.prog 18 #[.int .i64 x, .int .i64 n] w fun e w' => e = .returned (.int .i64 (x % n)) ∧ w = w' := by
  have hz : (n == 0) = false := by simp; omega
  have hz2 : n ≠ 0 := by omega
  obtain ⟨r, hr⟩ : ∃ r, x.tmod n = r := ⟨_, rfl⟩
  obtain ⟨q, hq⟩ : ∃ q, x % n = q := ⟨_, rfl⟩
  have hb1 : r < n := by rw [← hr]; exact Int.tmod_lt_of_pos x hn
  have hb2 : -n < r := by rw [← hr]; exact Int.lt_tmod_of_pos x hn
  have hrw : IntKind.i64.wrap r = r := IntWalk.i64_in _ (by omega)
  have h3 := tmod_emod x n
  rw [hr, hq] at h3
  rw [hq]
  clear hq
  by_cases h0 : r < 0
  · have hw : IntKind.i64.wrap (r + n) = r + n := IntWalk.i64_in _ (by omega)
    have e : r + n = q := by
      rw [← h3, ← Int.add_emod_right]
      exact (Int.emod_eq_of_lt (by omega) (by omega)).symm
    have HE := Lib.hid e
    clear e h3
    go_enter Try.func18, Try.ntmps18
    go_wp2_with fail
    go_ret
    exact ⟨congrArg (fun z => Ending.returned (.int .i64 z)) HE.out, rfl⟩
  · have e : r = q := by
      rw [← h3]
      exact (Int.emod_eq_of_lt (by omega) (by omega)).symm
    have HE := Lib.hid e
    clear e h3
    go_enter Try.func18, Try.ntmps18
    go_wp2_with fail
    go_ret
    exact ⟨congrArg (fun z => Ending.returned (.int .i64 z)) HE.out, rfl⟩
end Go.Proofs.Ytaiakkifefedoaa
