/- The chapter on logins' responses: what lives; any responses; who hears a response. -/
import Derived.Test.YtimelnihiocngaaScrR
import Derived.Test.YtimelnihiocngaaShaL
namespace Go.Proofs.Ytimelnihiocngaa
open Go.RowKit

/-- The bytes 1 to 20. -/
def nonceL : List UInt8 := [1, 2, 3, 4, 5, 6, 7, 8, 9, 10, 11, 12, 13, 14, 15, 16, 17, 18, 19, 20]
theorem nonceL_take : ∀ k, k < 20 → nonceL.take (k + 1) = nonceL.take k ++ [UInt8.ofNat (k + 1)] := by decide

set_option maxRecDepth 100000 in
theorem nonce08_c (w : World) : Calls Try.prog 27 #[] w fun e w' => ∃ v, e = .returned v ∧ Own w' w.heap.size v nonceL ∧ Ext w w' := by
  go_enter Try.func27, Try.ntmps27
  go_wp2_with fail
  have OW0 : Own w w.heap.size (.slice none 0 0) (nonceL.take 0) := Own.nil w _
  go_loopw [1, 2] (fun v i W => ∃ k : Nat, k ≤ 20 ∧ i = .int .i64 ((k : Int) + 1) ∧ Own W w.heap.size v (nonceL.take k) ∧ Ext w W) (fun _ i _ => 21 - (intOf i).toNat)
  case atStart => exact ⟨0, Nat.zero_le _, rfl, OW0, Ext.refl _⟩
  case round =>
    clear OW0
    obtain ⟨k, hk, rfl, OW, hx⟩ := hrel
    by_cases hkN : k < 20
    · have hb : (k : Int) + 1 ≤ 20 := by omega
      have hb0 : 0 ≤ (k : Int) + 1 := by omega
      have hb2 : (k : Int) + 1 < 256 := by omega
      have hq : IntKind.u8.wrap ((k : Int) + 1) = (k : Int) + 1 := by show ((k : Int) + 1) % 256 = _; omega
      have hl : (nonceL.take k).length + 1 ≤ 100000000 := by rw [List.length_take]; omega
      have ht := nonceL_take k hkN
      have HT := Lib.hid ht
      clear ht
      go_wp2_with ((with_reducible show wpList _ _ _ (⟨some 11, _, _, _, _, _⟩ :: _) _ _); refine wpl_append_one bt ((k : Int) + 1) OW (by omega) (by omega) rfl _ _ rfl rfl rfl hl (Ext.size hx) ?_; intro v1 w1 ho hb1)
      have e : ((k : Int) + 1).toNat = k + 1 := by omega
      rw [e, ← HT.out] at ho
      go_roundw
      case rel => exact ⟨k + 1, by omega, by go_num, ho, hx.below hb1 (Nat.le_refl _)⟩
      case measure => simp [intOf]; omega
    · obtain rfl : k = 20 := by omega
      go_wp2_with fail
      go_ret
      exact ⟨_, rfl, OW, hx⟩

theorem checkE_nonceL : checkE nonceL = 0 := by decide
theorem respP_len (kind : Int) (pw n : List UInt8) (hk : kind = 1 ∨ kind = 2) (hn : checkE n = 0) (hp : pw ≠ []) : (respP kind pw n).length = sizeK kind := by
  unfold respP
  rw [if_pos ⟨hn, hp⟩, xorL_length, sumP_len kind _ hk, mixP_len kind _ _ hk]
  omega
theorem respP_nil (kind : Int) (n : List UInt8) : respP kind [] n = [] := by simp [respP]
theorem storedP_nil (kind : Int) : storedP kind [] = [] := by simp [storedP]
theorem storedP_len (kind : Int) (pw : List UInt8) (hk : kind = 1 ∨ kind = 2) (hp : pw ≠ []) : (storedP kind pw).length = sizeK kind := by
  unfold storedP
  rw [if_pos ⟨hk, hp⟩, sumP_len kind _ hk]
theorem Rd.shape_n {w : World} {v : Value} {l : List UInt8} (h : Rd w v l) (n : Nat) (hn : l.length = n) : ∃ A c, v = .slice A n c := by obtain ⟨A, c, rfl, _⟩ := h; exact ⟨_, _, by rw [hn]⟩

/-- The response of a password that is not empty, its length known. -/
theorem ntv_20 (w : World) (s : ByteArray) (vn : Value) (n : List UInt8) (hs : s.size ≤ 1000000) (hn : Rd w vn n) (hc : checkE n = 0) (hp : s.data.toList ≠ []) :
    Calls Try.prog 26 #[.string s, vn] w fun e w' => ∃ A c, e = .returned (.tuple #[.slice A 20 c, .int .i64 0]) ∧ Rd w' (.slice A 20 c) (respP 1 s.data.toList n) ∧ Ext w w' := by
  refine (ntv_c w s vn n hs hn).mono ?_
  rintro e w' ⟨v', rfl, h2, h3⟩
  obtain ⟨A, c, rfl⟩ := h2.shape_n 20 (respP_len 1 _ _ (.inl rfl) hc hp)
  rw [hc]
  exact ⟨A, c, rfl, h2, h3⟩
theorem ntv_0 (w : World) (vn : Value) (n : List UInt8) (hn : Rd w vn n) (hc : checkE n = 0) :
    Calls Try.prog 26 #[.string ByteArray.empty, vn] w fun e w' => ∃ A c, e = .returned (.tuple #[.slice A 0 c, .int .i64 0]) ∧ Ext w w' := by
  refine (ntv_c w _ vn n (by decide) hn).mono ?_
  rintro e w' ⟨v', rfl, h2, h3⟩
  obtain ⟨A, c, rfl⟩ := h2.shape_n 0 (by rw [show ByteArray.empty.data.toList = [] from rfl, respP_nil]; rfl)
  rw [hc]
  exact ⟨A, c, rfl, h3⟩
theorem stored_20 (w : World) (s : ByteArray) (hs : s.size ≤ 1000000) (hp : s.data.toList ≠ []) :
    Calls Try.prog 28 #[.int .i64 1, .string s] w fun e w' => ∃ A c, e = .returned (.tuple #[.slice A 20 c, .int .i64 0]) ∧ Own w' w.heap.size (.slice A 20 c) (storedP 1 s.data.toList) ∧ Ext w w' := by
  refine (stored_c w 1 s hs).mono ?_
  rintro e w' ⟨v', rfl, h2, h3⟩
  obtain ⟨A, c, rfl⟩ := h2.rd.shape_n 20 (storedP_len 1 _ (.inl rfl) hp)
  exact ⟨A, c, rfl, h2, h3⟩
theorem stored_0 (w : World) :
    Calls Try.prog 28 #[.int .i64 1, .string ByteArray.empty] w fun e w' => ∃ A c, e = .returned (.tuple #[.slice A 0 c, .int .i64 0]) ∧ Ext w w' := by
  refine (stored_c w 1 _ (by decide)).mono ?_
  rintro e w' ⟨v', rfl, h2, h3⟩
  obtain ⟨A, c, rfl⟩ := h2.rd.shape_n 0 (by rw [show ByteArray.empty.data.toList = [] from rfl, storedP_nil]; rfl)
  exact ⟨A, c, rfl, h3⟩
theorem sum1_20 (w : World) (v : Value) (l : List UInt8) (hr : Rd w v l) (hl : l.length ≤ 100000000) :
    Calls Try.prog 16 #[v] w fun e w' => ∃ A c, e = .returned (.slice A 20 c) ∧ Own w' w.heap.size (.slice A 20 c) (sumP 1 l) ∧ Ext w w' := by
  refine (sum1_c w v l hr hl).mono ?_
  rintro e w' ⟨v', rfl, h2, h3⟩
  obtain ⟨A, c, rfl⟩ := h2.rd.shape_n 20 (sumP_len 1 _ (.inl rfl))
  exact ⟨A, c, rfl, h2, h3⟩

def pwS : ByteArray := ⟨#[112, 119]⟩

set_option maxRecDepth 100000 in
set_option maxHeartbeats 1000000 in
theorem lives08_c (w : World) : Calls Try.prog 31 #[] w fun e w' => e = .returned (.bool true) ∧ Ext w w' := by
  have hp : (⟨#[112, 119]⟩ : ByteArray).data.toList ≠ [] := by decide
  have hs : (⟨#[112, 119]⟩ : ByteArray).size ≤ 1000000 := by decide
  have hrr := right_resp 1 (⟨#[112, 119]⟩ : ByteArray).data.toList nonceL (.inl rfl) checkE_nonceL
  have HP := Lib.hid hp
  have HS := Lib.hid hs
  have HR := Lib.hid hrr
  clear hp hs hrr
  go_enter Try.func31, Try.ntmps31
  go_wp2_with (first
    | (go_at_call 28; refine (stored_20 _ _ HS.out HP.out).mono ?_; rintro e w1 ⟨A1, c1, rfl, ho1, hx1⟩; have tok1 : True := trivial)
    | (go_at_call 27; have _t := tok1; refine (nonce08_c _).mono ?_; rintro e w2 ⟨v2, rfl, ho2, hx2⟩; clear tok1)
    | (go_at_call 26; refine (ntv_20 _ _ _ nonceL HS.out ho2.rd checkE_nonceL HP.out).mono ?_; rintro e w3 ⟨A3, c3, rfl, hr3, hx3⟩)
    | (go_at_call 27; refine (nonce08_c _).mono ?_; rintro e w4 ⟨v4, rfl, ho4, hx4⟩)
    | (go_at_call 29; refine (right_c _ 1 _ _ _ _ nonceL _ true 0 (ho1.rd.ext ((hx2.trans hx3).trans hx4)) ho4.rd (hr3.ext hx4) HR.out).mono ?_; rintro e w5 ⟨rfl, hx5⟩)
    | fail)
  go_ret
  exact ⟨rfl, (((hx1.trans hx2).trans hx3).trans hx4).trans hx5⟩

set_option maxRecDepth 100000 in
set_option maxHeartbeats 2000000 in
theorem scrambleCalls_c (w : World) (s : ByteArray) (vn vs vr : Value) (n st r : List UInt8) (kind : Int) (hs : s.size ≤ maxLen) (hn : Rd w vn n) (hst : Rd w vs st) (hr : Rd w vr r) :
    Calls Try.prog 8 #[.string s, vn, vs, vr, .int .i64 kind] w fun e w' => e = .returned (.bool true) ∧ Ext w w' := by
  have HNN := Lib.hid hn
  have HS := Lib.hid hst
  have HR := Lib.hid hr
  obtain ⟨An, cn, rfl, hln, hmn, _, _⟩ := id hn
  obtain ⟨As, cs, rfl, hls, hms, _, _⟩ := id hst
  obtain ⟨Ar, cr, rfl, hlr, hmr, _, _⟩ := id hr
  unfold maxLen at hmn hms hmr hs
  clear hn hst hr
  by_cases h1 : s.size ≤ 500
  · have i1 : (s.size : Int) ≤ 500 := by omega
    by_cases h2 : n.length ≤ 500
    · have i2 : (n.length : Int) ≤ 500 := by omega
      by_cases h3 : st.length ≤ 500
      · have i3 : (st.length : Int) ≤ 500 := by omega
        by_cases h4 : r.length ≤ 500
        · have i4 : (r.length : Int) ≤ 500 := by omega
          obtain ⟨x, hx⟩ : ∃ x, checkE n = x := ⟨_, rfl⟩
          obtain ⟨y, hy⟩ : ∃ y, nonceE n = y := ⟨_, rfl⟩
          obtain ⟨z, hz⟩ : ∃ z, storedE kind = z := ⟨_, rfl⟩
          obtain ⟨b, er, hq⟩ : ∃ b er, rightP kind st n r = (b, er) := ⟨_, _, rfl⟩
          have HX := Lib.hid hx
          have HY := Lib.hid hy
          have HZ := Lib.hid hz
          have HQ := Lib.hid hq
          clear hx hy hz hq
          go_enter Try.func8, Try.ntmps8
          go_wp2_with (first
            | (go_at_call 31; refine (lives08_c _).mono ?_; rintro e w0 ⟨rfl, hx0⟩)
            | (go_at_call 26; refine (ntv_c _ _ _ n (by omega) (HNN.out.ext hx0)).mono ?_; rintro e w1 ⟨v1, rfl, hr1, hx1⟩; rw [HX.out]; have hy1 := hx0.trans hx1)
            | (go_at_call 33; refine (ntv_r _ _ _ n (by omega) (HNN.out.ext hy1)).mono ?_; rintro e w2 ⟨v2, rfl, hr2, hx2⟩; rw [HX.out]; have hy2 := hy1.trans hx2)
            | (go_at_call 34; refine (fast_c _ _ _ n (by omega) (HNN.out.ext hy2)).mono ?_; rintro e w3 ⟨v3, rfl, hr3, hx3⟩; rw [HX.out]; have hy3 := hy2.trans hx3)
            | (go_at_call 35; refine (fast_r _ _ _ n (by omega) (HNN.out.ext hy3)).mono ?_; rintro e w4 ⟨v4, rfl, hr4, hx4⟩; rw [HX.out]; have hy4 := hy3.trans hx4)
            | (go_at_call 19; (with_reducible show Calls _ _ #[v1, v2] _ _); refine (same_c _ _ _ _ _ (hr1.ext ((hx2.trans hx3).trans hx4)) (hr2.ext (hx3.trans hx4)) true (by simp)).mono ?_; rintro e w9 ⟨rfl, rfl⟩)
            | (go_at_call 19; (with_reducible show Calls _ _ #[v3, v4] _ _); refine (same_c _ _ _ _ _ (hr3.ext hx4) hr4 true (by simp)).mono ?_; rintro e w9 ⟨rfl, rfl⟩)
            | (go_at_call 32; refine (check_c _ _ n x (HNN.out.ext hy4) HX.out).mono ?_; rintro e w9 ⟨rfl, rfl⟩)
            | (go_at_call 36; refine (check_r _ _ n x (HNN.out.ext hy4) HX.out).mono ?_; rintro e w9 ⟨rfl, rfl⟩)
            | (go_at_call 30; refine (nonce_c _ _ n (HNN.out.ext hy4)).mono ?_; rintro e w5 ⟨v5, rfl, ho5, hx5⟩; rw [HY.out]; have hy5 := hy4.trans hx5)
            | (go_at_call 37; refine (nonce_r _ _ n (HNN.out.ext hy5)).mono ?_; rintro e w6 ⟨v6, rfl, ho6, hx6⟩; rw [HY.out]; have hy6 := hy5.trans hx6)
            | (go_at_call 28; refine (stored_c _ kind s (by omega)).mono ?_; rintro e w7 ⟨v7, rfl, ho7, hx7⟩; rw [HZ.out]; have hy7 := hy6.trans hx7)
            | (go_at_call 38; refine (stored_r _ kind s (by omega)).mono ?_; rintro e w8 ⟨v8, rfl, ho8, hx8⟩; rw [HZ.out]; have hy8 := hy7.trans hx8)
            | (go_at_call 19; (with_reducible show Calls _ _ #[v5, v6] _ _); refine (same_c _ _ _ _ _ (ho5.rd.ext ((hx6.trans hx7).trans hx8)) (ho6.rd.ext (hx7.trans hx8)) true (by simp)).mono ?_; rintro e w9 ⟨rfl, rfl⟩)
            | (go_at_call 19; (with_reducible show Calls _ _ #[v7, v8] _ _); refine (same_c _ _ _ _ _ (ho7.rd.ext hx8) ho8.rd true (by simp)).mono ?_; rintro e w9 ⟨rfl, rfl⟩)
            | (go_at_call 29; refine (right_c _ kind _ _ _ st n r b er (HS.out.ext hy8) (HNN.out.ext hy8) (HR.out.ext hy8) HQ.out).mono ?_; rintro e w10 ⟨rfl, hx10⟩; have hy10 := hy8.trans hx10)
            | (go_at_call 39; refine (right_r _ kind _ _ _ st n r b er (HS.out.ext hy10) (HNN.out.ext hy10) (HR.out.ext hy10) HQ.out).mono ?_; rintro e w11 ⟨rfl, hx11⟩; have hy11 := hy10.trans hx11)
            | fail)
          go_ret
          exact ⟨rfl, hy11⟩
        · have i4 : 500 < (r.length : Int) := by omega
          go_enter Try.func8, Try.ntmps8
          go_wp2_with (go_at_call 31; refine (lives08_c _).mono ?_; rintro e w0 ⟨rfl, hx0⟩)
          go_ret
          exact ⟨rfl, hx0⟩
      · have i3 : 500 < (st.length : Int) := by omega
        go_enter Try.func8, Try.ntmps8
        go_wp2_with (go_at_call 31; refine (lives08_c _).mono ?_; rintro e w0 ⟨rfl, hx0⟩)
        go_ret
        exact ⟨rfl, hx0⟩
    · have i2 : 500 < (n.length : Int) := by omega
      go_enter Try.func8, Try.ntmps8
      go_wp2_with (go_at_call 31; refine (lives08_c _).mono ?_; rintro e w0 ⟨rfl, hx0⟩)
      go_ret
      exact ⟨rfl, hx0⟩
  · have i1 : 500 < (s.size : Int) := by omega
    go_enter Try.func8, Try.ntmps8
    go_wp2_with (go_at_call 31; refine (lives08_c _).mono ?_; rintro e w0 ⟨rfl, hx0⟩)
    go_ret
    exact ⟨rfl, hx0⟩
end Go.Proofs.Ytimelnihiocngaa
