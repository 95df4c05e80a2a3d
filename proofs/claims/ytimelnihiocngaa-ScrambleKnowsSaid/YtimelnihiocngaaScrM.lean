/- Who hears a response, and has what is stored, has every later response. -/
import Derived.Test.YtimelnihiocngaaScrL
namespace Go.Proofs.Ytimelnihiocngaa
open Go.RowKit

theorem xorL_getD (a b : List UInt8) (k : Nat) (h1 : k < a.length) (h2 : k < b.length) : (xorL a b).getD k 0 = a.getD k 0 ^^^ b.getD k 0 := by
  unfold xorL
  rw [List.getD_eq_getElem?_getD, List.getElem?_zipWith, List.getElem?_eq_getElem h1, List.getElem?_eq_getElem h2, List.getD_eq_getElem?_getD, List.getD_eq_getElem?_getD, List.getElem?_eq_getElem h1, List.getElem?_eq_getElem h2]
  rfl
theorem knows (S n m : List UInt8) (hS : S ≠ []) (hn : checkE n = 0) (hm : checkE m = 0) (k : Nat) (hk : k < 20) :
    bits .xor .u8 (bits .xor .u8 (((respP 1 S n).getD k 0).toNat : Int) (((sumP 1 (n ++ storedP 1 S)).getD k 0).toNat : Int)) (((sumP 1 (m ++ storedP 1 S)).getD k 0).toNat : Int) = (((respP 1 S m).getD k 0).toNat : Int) := by
  have l1 := sumP_len 1 S (.inl rfl)
  have l2 := sumP_len 1 (n ++ storedP 1 S) (.inl rfl)
  have l3 := sumP_len 1 (m ++ storedP 1 S) (.inl rfl)
  have l4 : sizeK 1 = 20 := rfl
  have e1 : respP 1 S n = xorL (sumP 1 S) (sumP 1 (n ++ storedP 1 S)) := by unfold respP mixP; rw [if_pos ⟨hn, hS⟩, if_pos rfl]
  have e2 : respP 1 S m = xorL (sumP 1 S) (sumP 1 (m ++ storedP 1 S)) := by unfold respP mixP; rw [if_pos ⟨hm, hS⟩, if_pos rfl]
  rw [e1, e2, xorL_getD _ _ k (by omega) (by omega), xorL_getD _ _ k (by omega) (by omega)]
  generalize (sumP 1 S).getD k 0 = a
  generalize (sumP 1 (n ++ storedP 1 S)).getD k 0 = b
  generalize (sumP 1 (m ++ storedP 1 S)).getD k 0 = c
  rw [u8_xor_nat _ _ (UInt8.toNat_lt _) (UInt8.toNat_lt _), ← UInt8.toNat_xor, u8_xor_nat _ _ (UInt8.toNat_lt _) (UInt8.toNat_lt _), ← UInt8.toNat_xor, UInt8.xor_assoc a b b, UInt8.xor_self, UInt8.xor_zero]

set_option maxRecDepth 100000 in
set_option maxHeartbeats 2000000 in
theorem scrambleKnows_c (w : World) (s : ByteArray) (va vb : Value) (a b : List UInt8) (hs : s.size ≤ maxLen) (ha : Rd w va a) (hb : Rd w vb b) :
    Calls Try.prog 9 #[.string s, va, vb] w fun e w' => e = .returned (.bool true) ∧ Ext w w' := by
  have HA := Lib.hid ha
  have HB := Lib.hid hb
  unfold maxLen at hs
  clear ha hb
  have hsz : s.data.toList.length = s.size := size_toList s
  have HSZ := Lib.hid hsz
  clear hsz
  by_cases h1 : s.size ≤ 500
  · have i1 : (s.size : Int) ≤ 500 := by omega
    by_cases h2 : s.size = 0
    · have i2 : ((s.size : Int) == 0) = true := by rw [h2]; rfl
      obtain ⟨x, hx⟩ : ∃ x, nonceE a = x := ⟨_, rfl⟩
      obtain ⟨y, hy⟩ : ∃ y, nonceE b = y := ⟨_, rfl⟩
      have HX := Lib.hid hx
      have HY := Lib.hid hy
      clear hx hy h2
      go_enter Try.func9, Try.ntmps9
      go_wp2_with (first
        | (go_at_call 31; refine (lives08_c _).mono ?_; rintro e w0 ⟨rfl, hx0⟩; have tok1 : True := trivial)
        | (go_at_call 30; have _t := tok1; refine (nonce_c _ _ a (HA.out.ext hx0)).mono ?_; rintro e w1 ⟨v1, rfl, ho1, hx1⟩; rw [HX.out]; have hy1 := hx0.trans hx1; clear tok1)
        | (go_at_call 30; refine (nonce_c _ _ b (HB.out.ext hy1)).mono ?_; rintro e w2 ⟨v2, rfl, ho2, hx2⟩; rw [HY.out]; have hy2 := hy1.trans hx2)
        | fail)
      go_ret
      exact ⟨rfl, hy2⟩
    · have i2 : ((s.size : Int) == 0) = false := by rw [beq_eq_false_iff_ne]; omega
      have hne : s.data.toList ≠ [] := by intro e; have := HSZ.out; rw [e] at this; simp at this; omega
      have HNE := Lib.hid hne
      clear hne h2
      by_cases h3 : a.length = 20
      · have e3 : nonceE a = 0 := by unfold nonceE; rw [if_pos h3]
        by_cases h4 : b.length = 20
        · have e4 : nonceE b = 0 := by unfold nonceE; rw [if_pos h4]
          have HE3 := Lib.hid e3
          have HE4 := Lib.hid e4
          have hca := nonceP_check h3
          have hcb := nonceP_check h4
          have hla := checkE_len hca
          have hlb := checkE_len hcb
          have HCA := Lib.hid hca
          have HCB := Lib.hid hcb
          have HLA := Lib.hid hla
          have HLB := Lib.hid hlb
          have hls := storedP_le 1 s.data.toList
          clear e3 e4 h3 h4 hca hcb hla hlb
          go_enter Try.func9, Try.ntmps9
          go_wp2_with (first
            | (go_at_call 31; refine (lives08_c _).mono ?_; rintro e w0 ⟨rfl, hx0⟩; have tok1 : True := trivial)
            | (go_at_call 30; have _t := tok1; refine (nonce_c _ _ a (HA.out.ext hx0)).mono ?_; rintro e w1 ⟨v1, rfl, ho1, hx1⟩; rw [HE3.out]; have hy1 := hx0.trans hx1; clear tok1; have tok2 : True := trivial)
            | (go_at_call 30; refine (nonce_c _ _ b (HB.out.ext hy1)).mono ?_; rintro e w2 ⟨v2, rfl, ho2, hx2⟩; rw [HE4.out]; have hy2 := hy1.trans hx2)
            | (go_at_call 28; refine (stored_20 _ s (by omega) HNE.out).mono ?_; rintro e w3 ⟨A3, c3, rfl, ho3, hx3⟩; have hy3 := hy2.trans hx3)
            | (go_at_call 26; have _t := tok2; refine (ntv_20 _ s _ _ (by omega) (ho1.rd.ext (hx2.trans hx3)) HCA.out HNE.out).mono ?_; rintro e w4 ⟨A4, c4, rfl, hr4, hx4⟩; have hy4 := hy3.trans hx4; clear tok2)
            | (go_at_call 26; refine (ntv_20 _ s _ _ (by omega) (ho2.rd.ext (hx3.trans hx4)) HCB.out HNE.out).mono ?_; rintro e w5 ⟨A5, c5, rfl, hr5, hx5⟩; have hy5 := hy4.trans hx5; have tok3 : True := trivial)
            | ((with_reducible show wpList _ _ _ (⟨some 90, _, _, _, _, _⟩ :: _) _ _); refine wpl_clone bt (ho1.rd.ext (((hx2.trans hx3).trans hx4).trans hx5)) rfl _ _ rfl rfl rfl (by rw [HLA.out]; omega) ?_; intro v6 w6 ho6 hx6)
            | ((with_reducible show wpList _ _ _ (⟨some 92, _, _, _, _, _⟩ :: _) _ _); refine wpl_append_rd bt ho6 (ho3.rd.ext ((hx4.trans hx5).trans hx6)) rfl _ _ rfl rfl rfl (by rw [HLA.out]; omega) (Ext.size hx6) ?_; intro v7 w7 ho7 hb7; have hx57 := hx6.below hb7 (Nat.le_refl _))
            | (go_at_call 16; have _t := tok3; refine (sum1_20 _ _ _ ho7.rd (by rw [List.length_append, HLA.out]; omega)).mono ?_; rintro e w8 ⟨A8, c8, rfl, ho8, hx8⟩; have hx58 := hx57.trans hx8; clear tok3)
            | ((with_reducible show wpList _ _ _ (⟨some 96, _, _, _, _, _⟩ :: _) _ _); refine wpl_clone bt (ho2.rd.ext (((hx3.trans hx4).trans hx5).trans hx58)) rfl _ _ rfl rfl rfl (by rw [HLB.out]; omega) ?_; intro v9 w9 ho9 hx9)
            | ((with_reducible show wpList _ _ _ (⟨some 98, _, _, _, _, _⟩ :: _) _ _); refine wpl_append_rd bt ho9 (ho3.rd.ext (((hx4.trans hx5).trans hx58).trans hx9)) rfl _ _ rfl rfl rfl (by rw [HLB.out]; omega) (Ext.size hx9) ?_; intro v10 w10 ho10 hb10; have hx810 := hx9.below hb10 (Nat.le_refl _))
            | (go_at_call 16; refine (sum1_20 _ _ _ ho10.rd (by rw [List.length_append, HLB.out]; omega)).mono ?_; rintro e w11 ⟨A11, c11, rfl, ho11, hx11⟩; have hx811 := hx810.trans hx11)
            | fail)
          have hyy : Ext w w11 := (hy5.trans hx58).trans hx811
          have q0 := hr4.ext (hx5.trans (hx58.trans hx811))
          have q1 := ho8.rd.ext hx811
          have q2 := ho11.rd
          have q3 := hr5.ext (hx58.trans hx811)
          have HQ0 := Lib.hid q0
          have HQ1 := Lib.hid q1
          have HQ2 := Lib.hid q2
          have HQ3 := Lib.hid q3
          have HYY := Lib.hid hyy
          clear ho1 ho2 ho3 hr4 hr5 ho6 ho7 hb7 ho8 ho9 ho10 hb10 ho11 hx0 hx1 hx2 hx3 hx4 hx5 hx6 hx57 hx8 hx58 hx9 hx810 hx11 hx811 hy1 hy2 hy3 hy4 hy5 q0 q1 q2 q3 hyy hls
          go_loopw [17] (fun i W => ∃ k : Nat, k ≤ 20 ∧ i = .int .i64 k ∧ Ext w11 W) (fun i _ => 20 - (intOf i).toNat)
          case atStart => exact ⟨0, Nat.zero_le _, rfl, Ext.refl _⟩
          case round =>
            obtain ⟨k, hk, rfl, hx⟩ := hrel
            by_cases hkN : k < 20
            · have hb : (k : Int) < 20 := by omega
              obtain ⟨b0, o0, rfl, hn0, hc0⟩ := (HQ0.out.ext hx).at_ (by omega)
              obtain ⟨b1, o1, rfl, hn1, hc1⟩ := (HQ1.out.ext hx).at_ (by omega)
              obtain ⟨b2, o2, rfl, hn2, hc2⟩ := (HQ2.out.ext hx).at_ (by omega)
              obtain ⟨b3, o3, rfl, hn3, hc3⟩ := (HQ3.out.ext hx).at_ (by omega)
              have p0 := hc0 k hkN
              have p1 := hc1 k hkN
              have p2 := hc2 k hkN
              have p3 := hc3 k hkN
              have hkn := knows s.data.toList (nonceP a) (nonceP b) HNE.out HCA.out HCB.out k hkN
              generalize (((respP 1 s.data.toList (nonceP a)).getD k 0).toNat : Int) = x0 at p0 hkn
              generalize (((sumP 1 (nonceP a ++ storedP 1 s.data.toList)).getD k 0).toNat : Int) = x1 at p1 hkn
              generalize (((sumP 1 (nonceP b ++ storedP 1 s.data.toList)).getD k 0).toNat : Int) = x2 at p2 hkn
              generalize (((respP 1 s.data.toList (nonceP b)).getD k 0).toNat : Int) = x3 at p3 hkn
              clear hn0 hn1 hn2 hn3 hc0 hc1 hc2 hc3
              go_wp2_with fail
              go_region
              all_goals
                go_wp2_with fail
                go_roundw
                case rel => exact ⟨k + 1, by omega, by go_num, hx.drew⟩
                case measure => simp [intOf]; omega
            · obtain rfl : k = 20 := by omega
              simp only [Int.cast_ofNat_Int]
              go_wp2_with fail
              go_ret
              exact ⟨rfl, HYY.out.trans hx⟩
        · have e4 : nonceE b = 2 := by unfold nonceE; rw [if_neg h4]
          have HE3 := Lib.hid e3
          have HE4 := Lib.hid e4
          clear e3 e4 h3 h4
          go_enter Try.func9, Try.ntmps9
          go_wp2_with (first
            | (go_at_call 31; refine (lives08_c _).mono ?_; rintro e w0 ⟨rfl, hx0⟩; have tok1 : True := trivial)
            | (go_at_call 30; have _t := tok1; refine (nonce_c _ _ a (HA.out.ext hx0)).mono ?_; rintro e w1 ⟨v1, rfl, ho1, hx1⟩; rw [HE3.out]; have hy1 := hx0.trans hx1; clear tok1)
            | (go_at_call 30; refine (nonce_c _ _ b (HB.out.ext hy1)).mono ?_; rintro e w2 ⟨v2, rfl, ho2, hx2⟩; rw [HE4.out]; have hy2 := hy1.trans hx2)
            | fail)
          go_ret
          exact ⟨rfl, hy2⟩
      · have e3 : nonceE a = 2 := by unfold nonceE; rw [if_neg h3]
        obtain ⟨y, hy⟩ : ∃ y, nonceE b = y := ⟨_, rfl⟩
        have HE3 := Lib.hid e3
        have HY := Lib.hid hy
        clear e3 hy h3
        go_enter Try.func9, Try.ntmps9
        go_wp2_with (first
          | (go_at_call 31; refine (lives08_c _).mono ?_; rintro e w0 ⟨rfl, hx0⟩; have tok1 : True := trivial)
          | (go_at_call 30; have _t := tok1; refine (nonce_c _ _ a (HA.out.ext hx0)).mono ?_; rintro e w1 ⟨v1, rfl, ho1, hx1⟩; rw [HE3.out]; have hy1 := hx0.trans hx1; clear tok1)
          | (go_at_call 30; refine (nonce_c _ _ b (HB.out.ext hy1)).mono ?_; rintro e w2 ⟨v2, rfl, ho2, hx2⟩; rw [HY.out]; have hy2 := hy1.trans hx2)
          | fail)
        go_ret
        exact ⟨rfl, hy2⟩
  · have i1 : 500 < (s.size : Int) := by omega
    obtain ⟨x, hx⟩ : ∃ x, nonceE a = x := ⟨_, rfl⟩
    obtain ⟨y, hy⟩ : ∃ y, nonceE b = y := ⟨_, rfl⟩
    have HX := Lib.hid hx
    have HY := Lib.hid hy
    clear hx hy
    go_enter Try.func9, Try.ntmps9
    go_wp2_with (first
      | (go_at_call 31; refine (lives08_c _).mono ?_; rintro e w0 ⟨rfl, hx0⟩; have tok1 : True := trivial)
      | (go_at_call 30; have _t := tok1; refine (nonce_c _ _ a (HA.out.ext hx0)).mono ?_; rintro e w1 ⟨v1, rfl, ho1, hx1⟩; rw [HX.out]; have hy1 := hx0.trans hx1; clear tok1)
      | (go_at_call 30; refine (nonce_c _ _ b (HB.out.ext hy1)).mono ?_; rintro e w2 ⟨v2, rfl, ho2, hx2⟩; rw [HY.out]; have hy2 := hy1.trans hx2)
      | fail)
    go_ret
    exact ⟨rfl, hy2⟩
end Go.Proofs.Ytimelnihiocngaa
