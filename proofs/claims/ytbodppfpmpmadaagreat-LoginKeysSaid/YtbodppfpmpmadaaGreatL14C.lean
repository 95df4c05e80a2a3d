import Derived.Test.YtbodppfpmpmadaaGreatL5C
import Derived.Test.YtbodppfpmpmadaaGreatShaQC
import Derived.Test.YtbodppfpmpmadaaGreatL4C
import Derived.Outline
import Derived.Lib.SlBytesConst
import Derived.Test.YtbodppfpmpmadaaGreatL7C
import Derived.Test.YtbodppfpmpmadaaGreatL8C
import Derived.Test.YtbodppfpmpmadaaGreatL1C
import Derived.Lib.IndexAny
import Derived.Test.YtbodppfpmpmadaaGreatL2C
import Derived.Test.YtbodppfpmpmadaaGreatL9C
namespace Go.Proofs.YtbodppfpmpmadaaGreat
open Go.RowKit

theorem checkE_bad {l : List UInt8} (k : Nat) (h20 : l.length = 20) (hk : k < 20) (h : l.getD k 0 = 0 ∨ l.getD k 0 = 36) : checkE l = 2 := by
  unfold checkE
  rw [if_neg]
  rintro ⟨_, h0, h1⟩
  have hm : l.getD k 0 ∈ l := by rw [List.getD_eq_getElem?_getD, List.getElem?_eq_getElem (by omega)]; exact List.getElem_mem _
  rcases h with h | h <;> rw [h] at hm <;> simp [hm] at h0 h1
theorem checkE_good {l : List UInt8} (h20 : l.length = 20) (h : ∀ j, j < 20 → l.getD j 0 ≠ 0 ∧ l.getD j 0 ≠ 36) : checkE l = 0 := by
  unfold checkE
  have key : ∀ c ∈ l, c ≠ 0 ∧ c ≠ 36 := fun c hc => by
    obtain ⟨j, hj, rfl⟩ := List.getElem_of_mem hc
    have := h j (by omega)
    rwa [List.getD_eq_getElem?_getD, List.getElem?_eq_getElem hj] at this
  rw [if_pos]
  refine ⟨h20, ?_, ?_⟩
  · simp only [List.contains_eq_mem, decide_eq_false_iff_not]
    intro hm; exact (key 0 hm).1 rfl
  · simp only [List.contains_eq_mem, decide_eq_false_iff_not]
    intro hm; exact (key 36 hm).2 rfl

set_option maxRecDepth 100000 in
theorem check_r (w : World) (v : Value) (l : List UInt8) (x : Int) (hr : Rd w v l) (hx : checkE l = x) :
    Calls Tryz.prog 61 #[v] w fun e w' => e = .returned (.int .i64 x) ∧ w = w' := by
  have HR := Lib.hid hr
  obtain ⟨A, cap, rfl, hle, hm, _, _⟩ := id hr
  unfold maxLen at hm
  clear hr
  obtain ⟨N, hN⟩ : ∃ N, N = l.length := ⟨_, rfl⟩
  rw [← hN] at HR hle ⊢
  by_cases h20 : N = 20
  · subst h20
    have HN := Lib.hid hN.symm
    have HX := Lib.hid hx
    clear hN hx
    go_enter Tryz.func61, Tryz.ntmps61
    go_wp2_with fail
    go_loop [3] (fun i => ∃ k : Nat, k ≤ 20 ∧ i = .int .i64 k ∧ Hid (∀ j, j < k → l.getD j 0 ≠ 0 ∧ l.getD j 0 ≠ 36)) (fun i => 20 - (intOf i).toNat)
    case atStart => exact ⟨0, Nat.zero_le _, rfl, Lib.hid (fun j hj => absurd hj (by omega))⟩
    case round =>
      obtain ⟨k, hk, rfl, HG⟩ := hrel
      by_cases hkN : k < 20
      · have hb : (k : Int) < 20 := by omega
        obtain ⟨b, o, rfl, hn2, hcs⟩ := HR.out.at_ (by omega)
        have hck := hcs k hkN
        clear hcs hn2
        have hbad := checkE_bad k HN.out hkN
        have hgood : l.getD k 0 ≠ 0 → l.getD k 0 ≠ 36 → ∀ j, j < k + 1 → l.getD j 0 ≠ 0 ∧ l.getD j 0 ≠ 36 := fun h1 h2 j hj => by
          rcases Nat.lt_or_ge j k with h | h
          · exact HG.out j h
          · obtain rfl : j = k := by omega
            exact ⟨h1, h2⟩
        generalize l.getD k 0 = c at hck hbad hgood
        have HB := Lib.hid hbad
        have HO := Lib.hid hgood
        clear hbad hgood
        by_cases h0 : c = 0
        · subst h0
          obtain rfl : x = 2 := by rw [← HX.out]; exact HB.out (.inl rfl)
          go_wp2_with fail
          go_ret
          exact ⟨rfl, rfl⟩
        · by_cases h1 : c = 36
          · subst h1
            obtain rfl : x = 2 := by rw [← HX.out]; exact HB.out (.inr rfl)
            go_wp2_with fail
            go_ret
            exact ⟨rfl, rfl⟩
          · have h2 := HO.out h0 h1
            obtain ⟨y, hy⟩ : ∃ y : Int, y = (c.toNat : Int) := ⟨_, rfl⟩
            have e0 : (y == 0) = false := by
              rw [beq_eq_false_iff_ne]; intro h; apply h0; apply UInt8.toNat_inj.1; show c.toNat = 0; omega
            have e1 : (y == 36) = false := by
              rw [beq_eq_false_iff_ne]; intro h; apply h1; apply UInt8.toNat_inj.1; show c.toNat = 36; omega
            rw [← hy] at hck
            have H2 := Lib.hid h2
            clear hy h0 h1 h2
            go_wp2_with fail
            go_round
            case rel => exact ⟨k + 1, by omega, by go_num, H2⟩
            case measure => simp [intOf]; omega
      · obtain rfl : k = 20 := by omega
        obtain rfl : x = 0 := by rw [← HX.out]; exact checkE_good HN.out HG.out
        simp only [Int.cast_ofNat_Int]
        go_wp2_with fail
        go_ret
        exact ⟨rfl, rfl⟩
  · have hb : ((N : Int) != 20) = true := by simp; omega
    obtain rfl : x = 2 := by rw [← hx]; unfold checkE; rw [if_neg]; intro h; exact h20 (by omega)
    clear hx hN
    go_enter Tryz.func61, Tryz.ntmps61
    go_wp2_with fail
    go_ret
    exact ⟨rfl, rfl⟩

theorem joined_r (w : World) (va vb : Value) (a b : List UInt8) (ha : Rd w va a) (hb : Rd w vb b) (h1 : a.length ≤ 100000) (h2 : b.length ≤ 100000) :
    Calls Tryz.prog 207 #[va, vb] w fun e w' => ∃ v', e = .returned v' ∧ Own w' w.heap.size v' (a ++ b) ∧ Ext w w' := by
  have HA := Lib.hid ha
  have HB := Lib.hid hb
  clear ha hb
  go_enter Tryz.func207, Tryz.ntmps207
  go_wp2_with (first
    | ((with_reducible show AtS 7); refine wpl_clone bt HA.out rfl _ _ rfl rfl rfl (by omega) ?_; intro v1 w1 ho1 hx1)
    | ((with_reducible show AtS 9); refine wpl_append_rd bt ho1 (HB.out.ext hx1) rfl _ _ rfl rfl rfl (by omega) (Ext.size hx1) ?_; intro v2 w2 ho2 hb2)
    | fail)
  go_ret
  exact ⟨_, rfl, ho2, hx1.below hb2 (Nat.le_refl _)⟩

set_option maxRecDepth 100000 in
set_option maxHeartbeats 1000000 in
theorem both_r (w : World) (va vb : Value) (a b : List UInt8) (ha : Rd w va a) (hb : Rd w vb b) (hab : a.length ≤ b.length) (h1 : a.length ≤ 1000) :
    Calls Tryz.prog 195 #[va, vb] w fun e w' => ∃ v', e = .returned v' ∧ Own w' w.heap.size v' (xorL a b) ∧ Ext w w' := by
  have HA := Lib.hid ha
  have HB := Lib.hid hb
  obtain ⟨A, ca, rfl, hle, hm, _, _⟩ := id ha
  obtain ⟨B, cb, rfl, hle2, hm2, _, _⟩ := id hb
  unfold maxLen at hm hm2
  clear ha hb
  obtain ⟨N, hN⟩ : ∃ N, N = a.length := ⟨_, rfl⟩
  obtain ⟨M, hM⟩ : ∃ M, M = b.length := ⟨_, rfl⟩
  have hal := xorK_all a b hab
  rw [← hN] at HA hle hab h1 hal ⊢
  rw [← hM] at HB hle2 hab ⊢
  have HN := Lib.hid hN
  have HM := Lib.hid hM
  have HAL := Lib.hid hal
  clear hN hM hal
  go_enter Tryz.func195, Tryz.ntmps195
  go_wp2_with fail
  have OW0 : Own w w.heap.size (.slice none 0 0) (xorL (a.take 0) (b.take 0)) := Own.nil w _
  go_loopw [5, 6] (fun v i W => ∃ k : Nat, k ≤ N ∧ i = .int .i64 k ∧ Own W w.heap.size v (xorL (a.take k) (b.take k)) ∧ Ext w W) (fun _ i _ => N - (intOf i).toNat)
  case atStart => exact ⟨0, Nat.zero_le _, rfl, OW0, Ext.refl _⟩
  case round =>
    clear OW0
    obtain ⟨k, hk, rfl, OW, hx⟩ := hrel
    by_cases hkN : k < N
    · have hbk : (k : Int) < (N : Int) := by omega
      have hbm : (k : Int) < (M : Int) := by omega
      obtain ⟨ba, oa, rfl, hn1, hca⟩ := HA.out.at_ (by omega)
      obtain ⟨bb, ob, rfl, hn2, hcb⟩ := HB.out.at_ (by omega)
      have pa := hca k hkN
      have pb := hcb k (by omega)
      have ht := xorL_take a b k (by have := HN.out; omega) (by have := HM.out; omega)
      have hlen : (xorL (a.take k) (b.take k)).length = k := by rw [xorL_length, List.length_take, List.length_take]; have := HN.out; have := HM.out; omega
      have hq := u8_xor_nat (a.getD k 0).toNat (b.getD k 0).toNat (a.getD k 0).toNat_lt (b.getD k 0).toNat_lt
      rw [← UInt8.toNat_xor] at hq
      generalize a.getD k 0 = ya at pa ht hq
      generalize b.getD k 0 = yb at pb ht hq
      generalize ya ^^^ yb = z at ht hq
      obtain ⟨x, hxa⟩ : ∃ x : Int, x = (ya.toNat : Int) := ⟨_, rfl⟩
      obtain ⟨y, hyb⟩ : ∃ y : Int, y = (yb.toNat : Int) := ⟨_, rfl⟩
      rw [← hxa] at pa hq
      rw [← hyb] at pb hq
      have pa2 := hx.cell pa
      have pb2 := hx.cell pb
      have HT := Lib.hid ht
      have HL := Lib.hid hlen
      have OW1 := Lib.hid OW
      clear hn1 hn2 hca hcb ht hlen hxa hyb
      go_wp2_with fail
      go_region_held3 (fun W' => W'.cell? ⟨ba, oa + k, none⟩ = some (.int .u8 x) ∧ W'.cell? ⟨bb, ob + k, none⟩ = some (.int .u8 y) ∧ Ext w W')
        ((refine (fun h => ⟨Ext.cell h pa, Ext.cell h pb, h⟩) ?_; first | exact hx.drew | exact (hx.alloc _).drew | exact hx4 | fail))
        (first
          | ((with_reducible show (if Region.wanted (⟨some 30, _, _, _, _, _⟩ : Oper) _ = true then _ else _)); go_must (go_split_ands; refine step_append_rd bt (OW1.out.ext (((Ext.refl _).alloc _).drew)) ((rd_lit wr _ [z] (by rfl) (by simp) 1 _ (by rfl) (by rfl)).ext (Ext.refl _).drew) (by rfl) _ _ (by rfl) (by rfl) (by rfl) ?_ ?_ ?_; (simp [HL.out]; omega); (exact Ext.size (by assumption)); intro v4 w4 ho4 hb4; have hx4 : Ext w w4 := Ext.below (by assumption) hb4 (Nat.le_refl _)))
          | fail)
      all_goals
        go_split_ands
        clear hq
        go_wp2_with fail
        go_roundw
        case rel => exact ⟨k + 1, by omega, by go_num, by rw [HT.out]; exact ho4, by assumption⟩
        case measure => simp [intOf]; omega
    · obtain rfl : k = N := by omega
      have e : xorL (a.take k) (b.take k) = xorL a b := by
        have := HAL.out
        unfold xorK at this
        rw [← this, ← HN.out, Nat.sub_self, List.replicate_zero, List.append_nil]
      rw [e] at OW
      clear e
      go_wp2_with fail
      go_ret
      exact ⟨_, rfl, OW, hx⟩

theorem sum_r (w : World) (kind : Int) (v : Value) (l : List UInt8) (hk : kind = 1 ∨ kind = 2) (hr : Rd w v l) (hl : l.length ≤ 1000000) :
    Calls Tryz.prog 196 #[.int .i64 kind, v] w fun e w' => ∃ v', e = .returned v' ∧ Own w' w.heap.size v' (sumP kind l) ∧ Ext w w' := by
  have HR := Lib.hid hr
  clear hr
  rcases hk with rfl | rfl
  · go_enter Tryz.func196, Tryz.ntmps196
    go_wp2_with (go_at_call 205; refine (sum1_r _ _ l HR.out hl).mono ?_; rintro e w2 ⟨v2, rfl, ho2, hx2⟩)
    go_ret
    exact ⟨_, rfl, ho2, hx2⟩
  · go_enter Tryz.func196, Tryz.ntmps196
    go_wp2_with (go_at_call 206; refine (sum256_r _ _ l HR.out hl).mono ?_; rintro e w2 ⟨v2, rfl, ho2, hx2⟩)
    go_ret
    exact ⟨_, rfl, ho2, hx2⟩

theorem mixed_r (w : World) (kind : Int) (vs vn : Value) (s n : List UInt8) (hk : kind = 1 ∨ kind = 2) (hs : Rd w vs s) (hn : Rd w vn n) (h1 : n.length ≤ 10000) (h2 : s.length ≤ 10000) :
    Calls Tryz.prog 197 #[.int .i64 kind, vs, vn] w fun e w' => ∃ v', e = .returned v' ∧ Own w' w.heap.size v' (mixP kind n s) ∧ Ext w w' := by
  have HNN := Lib.hid hn
  have HS := Lib.hid hs
  clear hn hs
  rcases hk with rfl | rfl
  · rw [show mixP 1 n s = sumP 1 (n ++ s) by unfold mixP; rw [if_pos rfl]]
    go_enter Tryz.func197, Tryz.ntmps197
    go_wp2_with (first
      | (go_at_call 207; refine (joined_r _ _ _ n s HNN.out HS.out (by omega) (by omega)).mono ?_; rintro e w1 ⟨v1, rfl, ho1, hx1⟩)
      | (go_at_call 205; refine (sum1_r _ _ _ ho1.rd (by rw [List.length_append]; omega)).mono ?_; rintro e w2 ⟨v2, rfl, ho2, hx2⟩)
      | fail)
    go_ret
    exact ⟨_, rfl, ho2.more (Ext.size hx1), hx1.trans hx2⟩
  · rw [show mixP 2 n s = sumP 2 (s ++ n) by unfold mixP; rw [if_neg (by decide)]]
    go_enter Tryz.func197, Tryz.ntmps197
    go_wp2_with (first
      | (go_at_call 207; refine (joined_r _ _ _ s n HS.out HNN.out (by omega) (by omega)).mono ?_; rintro e w1 ⟨v1, rfl, ho1, hx1⟩)
      | (go_at_call 206; refine (sum256_r _ _ _ ho1.rd (by rw [List.length_append]; omega)).mono ?_; rintro e w2 ⟨v2, rfl, ho2, hx2⟩)
      | fail)
    go_ret
    exact ⟨_, rfl, ho2.more (Ext.size hx1), hx1.trans hx2⟩

set_option maxRecDepth 100000 in
set_option maxHeartbeats 1000000 in
theorem stored_r (w : World) (kind : Int) (s : ByteArray) (hs : s.size ≤ 1000000) :
    Calls Tryz.prog 194 #[.int .i64 kind, .string s] w fun e w' => ∃ v', e = .returned (.tuple #[v', .int .i64 (storedE kind)]) ∧ Own w' w.heap.size v' (storedP kind s.data.toList) ∧ Ext w w' := by
  by_cases hk : kind = 1 ∨ kind = 2
  · have eE : storedE kind = 0 := by unfold storedE; rw [if_pos hk]
    rw [eE]
    have HK := Lib.hid hk
    have hp : ∀ q : Bool, ((kind != 1) = true → (kind != 2) = false) := by
      intro _ h; rcases hk with rfl | rfl
      · simp at h
      · rfl
    obtain ⟨b1, hb1⟩ : ∃ b, (kind != 1) = b := ⟨_, rfl⟩
    have hb2 : b1 = true → (kind != 2) = false := fun h => hp true (hb1.trans h)
    clear hp hk eE
    by_cases he : s.data.toList = []
    · obtain rfl := str_empty he
      have eP : storedP kind ByteArray.empty.data.toList = [] := by simp [storedP]
      rw [eP]
      clear eP he
      cases b1
      · clear hb2
        go_enter Tryz.func194, Tryz.ntmps194
        go_wp2_with fail
        go_ret2
        exact ⟨_, rfl, Own.nil _ _, Ext.refl _⟩
      · have hb3 := hb2 rfl
        clear hb2
        go_enter Tryz.func194, Tryz.ntmps194
        go_wp2_with fail
        go_ret2
        exact ⟨_, rfl, Own.nil _ _, Ext.refl _⟩
    · have eP : storedP kind s.data.toList = sumP kind (sumP kind s.data.toList) := by unfold storedP; rw [if_pos ⟨HK.out, he⟩]
      rw [eP]
      have hne := str_ne he
      have hsz : s.data.toList.length = s.size := size_toList s
      have HSZ := Lib.hid hsz
      clear eP he hsz
      cases b1
      · clear hb2
        go_enter Tryz.func194, Tryz.ntmps194
        go_wp2_with (first
          | ((with_reducible show AtS 17); refine wpl_bytes bt s (by unfold maxLen; omega) rfl _ rfl rfl ?_; intro A1 m1 c1 w1 hr1 _ hx1; have tok1 : True := trivial)
          | (go_at_call 196; have _t := tok1; refine (sum_r _ kind _ _ HK.out hr1 (by rw [HSZ.out]; exact hs)).mono ?_; rintro e w2 ⟨v2, rfl, ho2, hx2⟩; clear tok1)
          | (go_at_call 196; refine (sum_r _ kind _ _ HK.out ho2.rd (by rw [sumP_len kind _ HK.out]; have := sizeK_le kind; omega)).mono ?_; rintro e w3 ⟨v3, rfl, ho3, hx3⟩)
          | fail)
        go_ret2
        have hx02 := hx1.trans hx2
        exact ⟨_, rfl, ho3.more (Ext.size hx02), hx02.trans hx3⟩
      · have hb3 := hb2 rfl
        clear hb2
        go_enter Tryz.func194, Tryz.ntmps194
        go_wp2_with (first
          | ((with_reducible show AtS 17); refine wpl_bytes bt s (by unfold maxLen; omega) rfl _ rfl rfl ?_; intro A1 m1 c1 w1 hr1 _ hx1; have tok1 : True := trivial)
          | (go_at_call 196; have _t := tok1; refine (sum_r _ kind _ _ HK.out hr1 (by rw [HSZ.out]; exact hs)).mono ?_; rintro e w2 ⟨v2, rfl, ho2, hx2⟩; clear tok1)
          | (go_at_call 196; refine (sum_r _ kind _ _ HK.out ho2.rd (by rw [sumP_len kind _ HK.out]; have := sizeK_le kind; omega)).mono ?_; rintro e w3 ⟨v3, rfl, ho3, hx3⟩)
          | fail)
        go_ret2
        have hx02 := hx1.trans hx2
        exact ⟨_, rfl, ho3.more (Ext.size hx02), hx02.trans hx3⟩
  · have eE : storedE kind = 2 := by unfold storedE; rw [if_neg hk]
    have eP : storedP kind s.data.toList = [] := by unfold storedP; rw [if_neg (fun h => hk h.1)]
    have hb1 : (kind != 1) = true := by simp; exact fun h => hk (.inl h)
    have hb2 : (kind != 2) = true := by simp; exact fun h => hk (.inr h)
    rw [eE, eP]
    clear eE eP hk
    go_enter Tryz.func194, Tryz.ntmps194
    go_wp2_with fail
    go_ret2
    exact ⟨_, rfl, Own.nil _ _, Ext.refl _⟩

set_option maxRecDepth 100000 in
set_option maxHeartbeats 1000000 in
theorem response_r (w : World) (kind : Int) (s : ByteArray) (vn : Value) (n : List UInt8) (hk : kind = 1 ∨ kind = 2) (hs : s.size ≤ 1000000) (hn : Rd w vn n) :
    Calls Tryz.prog 173 #[.int .i64 kind, .string s, vn] w fun e w' => ∃ v', e = .returned (.tuple #[v', .int .i64 (checkE n)]) ∧ Rd w' v' (respP kind s.data.toList n) ∧ Ext w w' := by
  have HK := Lib.hid hk
  have HNN := Lib.hid hn
  clear hk hn
  rcases checkE_or n with h | h
  · have hl := checkE_len h
    rw [h]
    by_cases he : s.data.toList = []
    · have eP : respP kind s.data.toList n = [] := by unfold respP; rw [if_neg (fun h => h.2 he)]
      rw [eP]
      obtain rfl := str_empty he
      have H := Lib.hid h
      clear h he eP hl
      go_enter Tryz.func173, Tryz.ntmps173
      go_wp2_with (go_at_call 61; refine (check_r _ _ n 0 HNN.out H.out).mono ?_; rintro e w1 ⟨rfl, rfl⟩)
      go_ret2
      exact ⟨_, rfl, Rd.nil _, Ext.refl _⟩
    · have eP : respP kind s.data.toList n = xorL (sumP kind s.data.toList) (mixP kind n (storedP kind s.data.toList)) := by unfold respP; rw [if_pos ⟨h, he⟩]
      rw [eP]
      have hne := str_ne he
      have hsz : s.data.toList.length = s.size := size_toList s
      have HSZ := Lib.hid hsz
      have H := Lib.hid h
      have eE : storedE kind = 0 := by unfold storedE; rw [if_pos HK.out]
      have HE := Lib.hid eE
      have HL := Lib.hid hl
      clear eP he hsz h eE hl
      have hs1 := sumP_len kind s.data.toList HK.out
      have hs2 := mixP_len kind n (storedP kind s.data.toList) HK.out
      have hs3 := sizeK_le kind
      have hs5 := storedP_le kind s.data.toList
      have HS1 := Lib.hid hs1
      have HS2 := Lib.hid hs2
      clear hs1 hs2
      go_enter Tryz.func173, Tryz.ntmps173
      go_wp2_with (first
        | (go_at_call 61; refine (check_r _ _ n 0 HNN.out H.out).mono ?_; rintro e w1 ⟨rfl, rfl⟩)
        | (go_at_call 194; refine (stored_r _ kind s hs).mono ?_; rintro e w1 ⟨v1, rfl, ho1, hx1⟩; rw [HE.out])
        | ((with_reducible show AtS 28); refine wpl_bytes bt s (by unfold maxLen; omega) rfl _ rfl rfl ?_; intro A2 m2 c2 w2 hr2 _ hx2)
        | (go_at_call 196; refine (sum_r _ kind _ _ HK.out hr2 (by rw [HSZ.out]; exact hs)).mono ?_; rintro e w3 ⟨v3, rfl, ho3, hx3⟩; have hx23 := hx2.trans hx3; have hx03 := hx1.trans hx23)
        | (go_at_call 197; refine (mixed_r _ kind _ _ _ n HK.out (ho1.rd.ext hx23) (HNN.out.ext hx03) (by have := HL.out; omega) (by omega)).mono ?_; rintro e w4 ⟨v4, rfl, ho4, hx4⟩)
        | (go_at_call 195; refine (both_r _ _ _ _ _ (ho3.rd.ext hx4) ho4.rd (by rw [HS1.out, HS2.out]; exact Nat.le_refl _) (by rw [HS1.out]; omega)).mono ?_; rintro e w5 ⟨v5, rfl, ho5, hx5⟩)
        | fail)
      go_ret2
      exact ⟨_, rfl, ho5.rd, (hx03.trans hx4).trans hx5⟩
  · have eP : respP kind s.data.toList n = [] := by unfold respP; rw [if_neg (fun h2 => by rw [h] at h2; exact absurd h2.1 (by decide))]
    rw [eP, h]
    have H := Lib.hid h
    clear h eP
    go_enter Tryz.func173, Tryz.ntmps173
    go_wp2_with (go_at_call 61; refine (check_r _ _ n 2 HNN.out H.out).mono ?_; rintro e w1 ⟨rfl, rfl⟩)
    go_ret2
    exact ⟨_, rfl, Rd.nil _, Ext.refl _⟩

theorem ntv_r (w : World) (s : ByteArray) (vn : Value) (n : List UInt8) (hs : s.size ≤ 1000000) (hn : Rd w vn n) :
    Calls Tryz.prog 129 #[.string s, vn] w fun e w' => ∃ v', e = .returned (.tuple #[v', .int .i64 (checkE n)]) ∧ Rd w' v' (respP 1 s.data.toList n) ∧ Ext w w' := by
  have HNN := Lib.hid hn
  clear hn
  go_enter Tryz.func129, Tryz.ntmps129
  go_wp2_with (go_at_call 173; refine (response_r _ 1 s _ n (.inl rfl) hs HNN.out).mono ?_; rintro e w1 ⟨v1, rfl, hr1, hx1⟩)
  go_ret2
  exact ⟨_, rfl, hr1, hx1⟩

theorem fast_r (w : World) (s : ByteArray) (vn : Value) (n : List UInt8) (hs : s.size ≤ 1000000) (hn : Rd w vn n) :
    Calls Tryz.prog 128 #[.string s, vn] w fun e w' => ∃ v', e = .returned (.tuple #[v', .int .i64 (checkE n)]) ∧ Rd w' v' (respP 2 s.data.toList n) ∧ Ext w w' := by
  have HNN := Lib.hid hn
  clear hn
  go_enter Tryz.func128, Tryz.ntmps128
  go_wp2_with (go_at_call 173; refine (response_r _ 2 s _ n (.inr rfl) hs HNN.out).mono ?_; rintro e w1 ⟨v1, rfl, hr1, hx1⟩)
  go_ret2
  exact ⟨_, rfl, hr1, hx1⟩

end Go.Proofs.YtbodppfpmpmadaaGreat

namespace Go.Proofs.YtbodppfpmpmadaaGreat
open Go.RowKit

theorem respP_len (kind : Int) (pw n : List UInt8) (hk : kind = 1 ∨ kind = 2) (hn : checkE n = 0) (hp : pw ≠ []) : (respP kind pw n).length = sizeK kind := by
  unfold respP
  rw [if_pos ⟨hn, hp⟩, xorL_length, sumP_len kind _ hk, mixP_len kind _ _ hk]
  omega
end Go.Proofs.YtbodppfpmpmadaaGreat

namespace Go.Proofs.YtbodppfpmpmadaaGreat
open Go.RowKit

theorem leN_zeros : ∀ n : Nat, leN (List.replicate n 0) = 0
  | 0 => rfl
  | n + 1 => by rw [List.replicate_succ, leN, leN_zeros n]; rfl

theorem rF_rB (n : Int) (s : List UInt8 × Int) (hn : 1 ≤ n ∧ n ≤ 8) : ∃ L r, rB n.toNat s = (L, (rF n s).2) ∧ readF L n = ((rF n s).1, r) := by
  obtain ⟨l, e⟩ := s
  have h0 : ¬ (n < 1 ∨ 8 < n) := by omega
  have hz : (readF (List.replicate n.toNat 0) n).1 = 0 := by
    unfold readF
    rw [if_neg h0, List.length_replicate, if_neg (by omega), List.take_replicate]
    simp [leN_zeros]
  by_cases he : e = 0
  · subst he
    by_cases hl : (l.length : Int) < n
    · refine ⟨List.replicate n.toNat 0, (readF (List.replicate n.toNat 0) n).2, ?_, ?_⟩
      · simp [rB, rF, readF, h0, hl, show l.length < n.toNat by omega]
      · refine Prod.ext ?_ rfl
        rw [hz]
        simp [rF, readF, h0, hl]
    · refine ⟨l.take n.toNat, 0, ?_, ?_⟩
      · simp [rB, rF, readF, h0, hl, show ¬ l.length < n.toNat by omega]
      · have h1 : ¬ (min (n.toNat : Int) (l.length : Int) < n) := by omega
        have h2 : ¬ ((min n.toNat l.length : Nat) : Int) < n := by omega
        simp only [rF, readF, h0, hl, ↓reduceIte, List.length_take, h2, List.take_take, Nat.min_self]
  · refine ⟨List.replicate n.toNat 0, (readF (List.replicate n.toNat 0) n).2, ?_, ?_⟩
    · simp [rB, rF, he]
    · refine Prod.ext ?_ rfl
      rw [hz]
      simp [rF, he]

theorem rF_byte {s s' : List UInt8 × Int} {b : UInt8} (h : rB 1 s = ([b], s')) : rF 1 s = ((b.toNat : Int), s') := by
  obtain ⟨L, r, h1, h2⟩ := rF_rB 1 s (by omega)
  rw [show (1 : Int).toNat = 1 from rfl, h, Prod.mk.injEq] at h1
  obtain ⟨rfl, h3⟩ := h1
  refine Prod.ext ?_ h3.symm
  have := congrArg Prod.fst h2
  rw [← this]
  simp [readF, leN]

theorem rB_one (s : List UInt8 × Int) : ∃ b s', rB 1 s = ([b], s') := by
  have := rB_length 1 s
  match h : rB 1 s, this with
  | ([b], s'), _ => exact ⟨b, s', rfl⟩

set_option maxRecDepth 100000 in
set_option maxHeartbeats 1000000 in
theorem byte_m (a w : World) (g : Nat) (s : List UInt8 × Int) (b : UInt8) (s' : List UInt8 × Int) (h : Rdr a w g s) (hx : rB 1 s = ([b], s')) :
    Calls Tryz.prog 106 #[.pointer (some ⟨g, 0, none⟩)] w (RetR a w g (.int .u8 (b.toNat : Int)) s') := by
  have H := Lib.hid h
  have HX := Lib.hid hx
  clear h hx
  go_enter Tryz.func106, Tryz.ntmps106
  go_wp2_with (go_at_call 109; refine (bytes_m a _ g s 1 _ _ H.out (by omega) HX.out).mono ?_; rintro e w1 ⟨v1, rfl, ho, R1, O1⟩; obtain ⟨A1, q1, rfl, z1, z2, z3, z4⟩ := ho.rd; obtain ⟨b1, o1, rfl, hcs⟩ := z4 (by simp); have hc := hcs 0 (by simp); clear hcs z3 z4; dsimp only [List.getD_cons_zero, Nat.add_zero] at hc)
  go_ret
  exact ⟨rfl, R1, O1⟩

set_option maxRecDepth 100000 in
set_option maxHeartbeats 1000000 in
theorem fixed_r (a w : World) (g : Nat) (s : List UInt8 × Int) (n x : Int) (s' : List UInt8 × Int) (h : Rdr a w g s) (hn : 1 ≤ n ∧ n ≤ 8) (hx : rF n s = (x, s')) :
    Calls Tryz.prog 110 #[.pointer (some ⟨g, 0, none⟩), .int .i64 n] w (RetR a w g (.int .u64 x) s') := by
  have H := Lib.hid h
  obtain ⟨L, r, h1, h2⟩ := rF_rB n s hn
  rw [hx] at h1 h2
  have HX := Lib.hid h1
  have HF := Lib.hid h2
  obtain ⟨m, rfl⟩ : ∃ m : Nat, n = m := ⟨n.toNat, by omega⟩
  clear h hx h1 h2
  go_enter Tryz.func110, Tryz.ntmps110
  go_wp2_with (first
    | (go_at_call 109; refine (bytes_m a _ g s m _ _ H.out (by omega) HX.out).mono ?_; rintro e w1 ⟨v1, rfl, ho, R1, O1⟩)
    | (go_at_call 160; refine (readFixed_at_ref _ _ L m _ _ ho.rd HF.out).mono ?_; rintro e w2 ⟨rfl, rfl⟩))
  go_ret
  exact ⟨rfl, R1, O1⟩

theorem readI_none {l : List UInt8} {x : Int} {n : Nat} {r : Int} (h : readI l = (x, n, r)) (hr : r ≠ 0) : n = 0 := by
  rcases readI_err h with h1 | ⟨_, h1, _⟩
  · exact absurd h1 hr
  · exact h1
theorem readT_none {l x : List UInt8} {n : Nat} {r : Int} (h : readT l = (x, n, r)) (hr : r ≠ 0) : n = 0 := by
  unfold readT at h
  split at h
  · split at h
    · simp only [Prod.mk.injEq] at h; omega
    · simp only [Prod.mk.injEq] at h; exact absurd h.2.2.symm hr
  · simp only [Prod.mk.injEq] at h; omega
theorem readZr_none {l x : List UInt8} {n : Nat} {r : Int} (h : readZ l = (x, n, r)) (hr : r ≠ 0) : n = 0 := by
  unfold readZ at h
  split at h
  · simp only [Prod.mk.injEq] at h; exact absurd h.2.2.symm hr
  · simp only [Prod.mk.injEq] at h; omega
theorem readZr_le {l x : List UInt8} {n : Nat} (h : readZ l = (x, n, 0)) : n ≤ l.length := by
  unfold readZ at h
  split at h
  · rename_i hc
    have := upZ_lt l hc
    simp only [Prod.mk.injEq] at h
    omega
  · simp at h
theorem readT_at_ref (w : World) (v : Value) (l x : List UInt8) (n : Nat) (r : Int) (hr : Rd w v l) (h : readT l = (x, n, r)) :
    Calls Tryz.prog 163 #[v] w fun e w' => e = .returned (.tuple #[.string (strL x), .int .i64 n, .int .i64 r]) ∧ w = w' := by
  have := readText_ref w v l hr
  rw [h] at this
  exact this
theorem readZ_at_ref (w : World) (v : Value) (l x : List UInt8) (n : Nat) (r : Int) (hr : Rd w v l) (h : readZ l = (x, n, r)) :
    Calls Tryz.prog 159 #[v] w fun e w' => e = .returned (.tuple #[.string (strL x), .int .i64 n, .int .i64 r]) ∧ w = w' := by
  have := readEnded_ref w v l hr
  rw [h] at this
  exact this
def rZr (s : List UInt8 × Int) : List UInt8 × (List UInt8 × Int) := if s.2 = 0 then (if (readZ s.1).2.2 = 0 then ((readZ s.1).1, (s.1.drop (readZ s.1).2.1, 0)) else ((readZ s.1).1, (s.1, (readZ s.1).2.2))) else ([], s)

set_option maxRecDepth 100000 in
set_option maxHeartbeats 1000000 in
theorem int_r (a w : World) (g : Nat) (s : List UInt8 × Int) (x : Int) (s' : List UInt8 × Int) (h : Rdr a w g s) (hx : rI s = (x, s')) :
    Calls Tryz.prog 130 #[.pointer (some ⟨g, 0, none⟩)] w (RetR a w g (.int .u64 x) s') := by
  obtain ⟨l, e⟩ := s
  obtain ⟨v, c0, hr⟩ := h.c0
  have c1 := h.c1
  have f0 := h.f0
  have f1 := h.f1
  try dsimp only at hr c1
  have HR := Lib.hid hr
  have H := Lib.hid h
  clear h hr
  by_cases he : e = 0
  · subst he
    obtain ⟨x1, n1, r1, hq⟩ : ∃ x1 n1 r1, readI l = (x1, n1, r1) := ⟨_, _, _, rfl⟩
    have HQ := Lib.hid hq
    have hs : x = x1 ∧ s' = (l.drop n1, r1) ∧ n1 ≤ l.length := by
      by_cases h1 : r1 = 0
      · subst h1
        simp only [rI, hq, ↓reduceIte, Prod.mk.injEq] at hx
        exact ⟨hx.1.symm, hx.2.symm, readI_le hq⟩
      · have := readI_none hq h1
        subst this
        simp only [rI, hq, ↓reduceIte, h1, Prod.mk.injEq] at hx
        exact ⟨hx.1.symm, hx.2.symm, Nat.zero_le _⟩
    obtain ⟨rfl, rfl, hm⟩ := hs
    clear hq hx
    have c0' : (w.setCell ⟨g, 1, none⟩ (.int .i64 r1)).cell? ⟨g, 0, none⟩ = some v := (World.cell?_setCell_other _ _ _ _ (by simp)).trans c0
    go_enter Tryz.func130, Tryz.ntmps130
    go_wp2_with (first
      | (go_at_call 174; refine (readInt_at_ref _ _ l _ _ _ (HR.out.ext H.out.ext) HQ.out).mono ?_; rintro e w1 ⟨rfl, rfl⟩)
      | ((with_reducible show AtS 30); refine wpl_cut_lo bt HR.out (n1 : Int) (by omega) (by omega) rfl _ _ _ rfl rfl rfl ?_; intro A2 m2 cap2 hr2))
    go_ret
    exact ⟨rfl, by simpa using (H.out.set1 r1).set0 hr2, ((On.refl g w).set 1 _).set 0 _⟩
  · have hb : (e == 0) = false := by simpa using he
    simp only [rI, he, ↓reduceIte, Prod.mk.injEq] at hx
    obtain ⟨rfl, rfl⟩ := hx
    go_enter Tryz.func130, Tryz.ntmps130
    go_wp2_with fail
    go_ret
    exact ⟨rfl, H.out, On.refl g w⟩

set_option maxRecDepth 100000 in
set_option maxHeartbeats 1000000 in
theorem text_r (a w : World) (g : Nat) (s : List UInt8 × Int) (x : List UInt8) (s' : List UInt8 × Int) (h : Rdr a w g s) (hx : rT s = (x, s')) :
    Calls Tryz.prog 118 #[.pointer (some ⟨g, 0, none⟩)] w (RetR a w g (.string (strL x)) s') := by
  obtain ⟨l, e⟩ := s
  obtain ⟨v, c0, hr⟩ := h.c0
  have c1 := h.c1
  have f0 := h.f0
  have f1 := h.f1
  try dsimp only at hr c1
  have HR := Lib.hid hr
  have H := Lib.hid h
  clear h hr
  by_cases he : e = 0
  · subst he
    obtain ⟨x1, n1, r1, hq⟩ : ∃ x1 n1 r1, readT l = (x1, n1, r1) := ⟨_, _, _, rfl⟩
    have HQ := Lib.hid hq
    have hs : x = x1 ∧ s' = (l.drop n1, r1) ∧ n1 ≤ l.length := by
      by_cases h1 : r1 = 0
      · subst h1
        simp only [rT, hq, ↓reduceIte, Prod.mk.injEq] at hx
        exact ⟨hx.1.symm, hx.2.symm, readT_le hq⟩
      · have := readT_none hq h1
        subst this
        simp only [rT, hq, ↓reduceIte, h1, Prod.mk.injEq] at hx
        exact ⟨hx.1.symm, hx.2.symm, Nat.zero_le _⟩
    obtain ⟨rfl, rfl, hm⟩ := hs
    clear hq hx
    have c0' : (w.setCell ⟨g, 1, none⟩ (.int .i64 r1)).cell? ⟨g, 0, none⟩ = some v := (World.cell?_setCell_other _ _ _ _ (by simp)).trans c0
    go_enter Tryz.func118, Tryz.ntmps118
    go_wp2_with (first
      | (go_at_call 163; refine (readT_at_ref _ _ l _ _ _ (HR.out.ext H.out.ext) HQ.out).mono ?_; rintro e w1 ⟨rfl, rfl⟩)
      | ((with_reducible show AtS 30); refine wpl_cut_lo bt HR.out (n1 : Int) (by omega) (by omega) rfl _ _ _ rfl rfl rfl ?_; intro A2 m2 cap2 hr2))
    go_ret
    exact ⟨rfl, by simpa using (H.out.set1 r1).set0 hr2, ((On.refl g w).set 1 _).set 0 _⟩
  · have hb : (e == 0) = false := by simpa using he
    simp only [rT, he, ↓reduceIte, Prod.mk.injEq] at hx
    obtain ⟨rfl, rfl⟩ := hx
    go_enter Tryz.func118, Tryz.ntmps118
    go_wp2_with fail
    go_ret
    exact ⟨rfl, H.out, On.refl g w⟩

set_option maxRecDepth 100000 in
set_option maxHeartbeats 1000000 in
theorem ended_r (a w : World) (g : Nat) (s : List UInt8 × Int) (x : List UInt8) (s' : List UInt8 × Int) (h : Rdr a w g s) (hx : rZr s = (x, s')) :
    Calls Tryz.prog 108 #[.pointer (some ⟨g, 0, none⟩)] w (RetR a w g (.string (strL x)) s') := by
  obtain ⟨l, e⟩ := s
  obtain ⟨v, c0, hr⟩ := h.c0
  have c1 := h.c1
  have f0 := h.f0
  have f1 := h.f1
  try dsimp only at hr c1
  have HR := Lib.hid hr
  have H := Lib.hid h
  clear h hr
  by_cases he : e = 0
  · subst he
    obtain ⟨x1, n1, r1, hq⟩ : ∃ x1 n1 r1, readZ l = (x1, n1, r1) := ⟨_, _, _, rfl⟩
    have HQ := Lib.hid hq
    have hs : x = x1 ∧ s' = (l.drop n1, r1) ∧ n1 ≤ l.length := by
      by_cases h1 : r1 = 0
      · subst h1
        simp only [rZr, hq, ↓reduceIte, Prod.mk.injEq] at hx
        exact ⟨hx.1.symm, hx.2.symm, readZr_le hq⟩
      · have := readZr_none hq h1
        subst this
        simp only [rZr, hq, ↓reduceIte, h1, Prod.mk.injEq] at hx
        exact ⟨hx.1.symm, hx.2.symm, Nat.zero_le _⟩
    obtain ⟨rfl, rfl, hm⟩ := hs
    clear hq hx
    have c0' : (w.setCell ⟨g, 1, none⟩ (.int .i64 r1)).cell? ⟨g, 0, none⟩ = some v := (World.cell?_setCell_other _ _ _ _ (by simp)).trans c0
    go_enter Tryz.func108, Tryz.ntmps108
    go_wp2_with (first
      | (go_at_call 159; refine (readZ_at_ref _ _ l _ _ _ (HR.out.ext H.out.ext) HQ.out).mono ?_; rintro e w1 ⟨rfl, rfl⟩)
      | ((with_reducible show AtS 30); refine wpl_cut_lo bt HR.out (n1 : Int) (by omega) (by omega) rfl _ _ _ rfl rfl rfl ?_; intro A2 m2 cap2 hr2))
    go_ret
    exact ⟨rfl, by simpa using (H.out.set1 r1).set0 hr2, ((On.refl g w).set 1 _).set 0 _⟩
  · have hb : (e == 0) = false := by simpa using he
    simp only [rZr, he, ↓reduceIte, Prod.mk.injEq] at hx
    obtain ⟨rfl, rfl⟩ := hx
    go_enter Tryz.func108, Tryz.ntmps108
    go_wp2_with fail
    go_ret
    exact ⟨rfl, H.out, On.refl g w⟩

def rR (s : List UInt8 × Int) : List UInt8 × (List UInt8 × Int) := if s.2 = 0 then (s.1, ([], 0)) else ([], s)
set_option maxRecDepth 100000 in
set_option maxHeartbeats 1000000 in
theorem rest_r (a w : World) (g : Nat) (s : List UInt8 × Int) (x : List UInt8) (s' : List UInt8 × Int) (h : Rdr a w g s) (hl : s.1.length ≤ 8000000) (hx : rR s = (x, s')) :
    Calls Tryz.prog 131 #[.pointer (some ⟨g, 0, none⟩)] w (RetO a w g x s') := by
  obtain ⟨l, e⟩ := s
  obtain ⟨v, c0, hr⟩ := h.c0
  have c1 := h.c1
  have f0 := h.f0
  have f1 := h.f1
  try dsimp only at hr c1
  have HR := Lib.hid hr
  have H := Lib.hid h
  clear h hr
  dsimp only at hl
  by_cases he : e = 0
  · subst he
    simp only [rR, ↓reduceIte, Prod.mk.injEq] at hx
    obtain ⟨rfl, rfl⟩ := hx
    have c0a : (w.alloc (.cells #[] 5)).cell? ⟨g, 0, none⟩ = some v := ((Ext.refl w).alloc _).cell c0
    go_enter Tryz.func131, Tryz.ntmps131
    go_wp2_with ((with_reducible show AtS 14); refine wpl_append_rd bt (own_nil w w.heap.size w.heap.size rfl (Nat.le_refl _)) ((HR.out.ext H.out.ext).ext ((Ext.refl _).alloc _)) rfl _ _ rfl rfl rfl (by simp; omega) (by simp) ?_; intro v1 w1 ho hb1; have hx1 := ((Ext.refl w).alloc _).below hb1 (Nat.le_refl _); have c0' := hx1.cell c0; have f0' := (hx1.frozen H.out.lt).trans f0)
    go_ret
    refine ⟨_, rfl, ?_, (H.out.grow hx1).set0 (Rd.nil a), (On.of hx1).set 0 _⟩
    have := ho.on ((On.refl g _).set 0 (.slice none 0 0)) H.out.lt
    simpa using this
  · have hb : (e == 0) = false := by simpa using he
    simp only [rR, he, ↓reduceIte, Prod.mk.injEq] at hx
    obtain ⟨rfl, rfl⟩ := hx
    go_enter Tryz.func131, Tryz.ntmps131
    go_wp2_with fail
    go_ret
    exact ⟨_, rfl, Own.nil _ _, H.out, On.refl g w⟩

set_option maxRecDepth 100000 in
set_option maxHeartbeats 1000000 in
theorem done_r (a w : World) (g : Nat) (s s' : List UInt8 × Int) (h : Rdr a w g s) (hx : rO s = s') :
    Calls Tryz.prog 112 #[.pointer (some ⟨g, 0, none⟩)] w (RetR a w g (.int .i64 s'.2) s') := by
  obtain ⟨l, e⟩ := s
  obtain ⟨v, c0, hr⟩ := h.c0
  have c1 := h.c1
  have f0 := h.f0
  have f1 := h.f1
  try dsimp only at hr c1
  have HR := Lib.hid hr
  have H := Lib.hid h
  clear h hr
  obtain ⟨A, cap, rfl, hle, hm, hA, hc⟩ := id HR.out
  unfold maxLen at hm
  clear hA hc
  unfold rO at hx
  dsimp only at hx
  by_cases hl : 0 < l.length
  · rw [decide_eq_true hl] at hx
    have HX := Lib.hid hx
    clear hx
    go_enter Tryz.func112, Tryz.ntmps112
    go_wp2_with (go_at_call 107; refine (wrong_m a _ g _ _ true H.out HX.out).mono ?_; rintro e w1 ⟨rfl, R1, O1⟩; have c1' := R1.c1)
    go_ret
    exact ⟨rfl, R1, O1⟩
  · rw [decide_eq_false hl] at hx
    have HX := Lib.hid hx
    clear hx
    go_enter Tryz.func112, Tryz.ntmps112
    go_wp2_with (go_at_call 107; refine (wrong_m a _ g _ _ false H.out HX.out).mono ?_; rintro e w1 ⟨rfl, R1, O1⟩; have c1' := R1.c1)
    go_ret
    exact ⟨rfl, R1, O1⟩

theorem u8_nz {c : UInt8} (h : c ≠ 0) : ((c.toNat : Int) == 0) = false := by
  rw [beq_eq_false_iff_ne]
  intro e
  exact h (byte_zero (by rw [e]; rfl))

theorem any_take_succ (L : List UInt8) (k : Nat) (h : k < L.length) : (L.take (k + 1)).any (· != 0) = ((L.take k).any (· != 0) || (L.getD k 0 != 0)) := by
  rw [take_succ_getD L k h, List.any_append]
  simp

def rN (n : Nat) (s : List UInt8 × Int) : List UInt8 × Int := rW ((rB n s).1.any (· != 0)) (rB n s).2

set_option maxRecDepth 100000 in
set_option maxHeartbeats 2000000 in
theorem zeros_r (a w : World) (g : Nat) (s : List UInt8 × Int) (n : Nat) (s' : List UInt8 × Int) (h : Rdr a w g s) (hn : n ≤ 100000) (hx : rN n s = s') :
    Calls Tryz.prog 117 #[.pointer (some ⟨g, 0, none⟩), .int .i64 (n : Int)] w (RetR a w g (.tuple #[]) s') := by
  have H := Lib.hid h
  obtain ⟨L, s1, hq⟩ : ∃ L s1, rB n s = (L, s1) := ⟨_, _, rfl⟩
  have hL : L.length = n := by have := rB_length n s; rw [hq] at this; exact this
  unfold rN at hx
  rw [hq] at hx
  dsimp only at hx
  have HQ := Lib.hid hq
  have HX := Lib.hid hx
  clear h hq hx
  subst hL
  go_enter Tryz.func117, Tryz.ntmps117
  go_wp2_with (go_at_call 109; refine (bytes_m a _ g s L.length _ _ H.out hn HQ.out).mono ?_; rintro e w1 ⟨v1, rfl, ho, R1, O1⟩; obtain ⟨A1, q1, rfl, z1, z2, z3, z4⟩ := ho.rd; have HC := Lib.hid z4; clear z3 z4; have O1' := Lib.hid O1; clear O1)
  go_loop [5, 6] (fun b i => ∃ k : Nat, k ≤ L.length ∧ b = .bool ((L.take k).any (· != 0)) ∧ i = .int .i64 k) (fun _ i => L.length - (intOf i).toNat)
  case atStart => exact ⟨0, Nat.zero_le _, rfl, rfl⟩
  case round =>
    obtain ⟨k, hk, rfl, rfl⟩ := hrel
    obtain ⟨q, hq⟩ : ∃ q, (L.take k).any (· != 0) = q := ⟨_, rfl⟩
    rw [hq]
    have HK := Lib.hid hq
    clear hq
    by_cases hlt : k < L.length
    · obtain ⟨b, o, rfl, hc2⟩ := HC.out (by intro h; subst h; simp at hlt)
      have hcell := hc2 k hlt
      clear hc2
      obtain ⟨c, hcv⟩ : ∃ c, c = L.getD k 0 := ⟨_, rfl⟩
      rw [← hcv] at hcell
      have HV := Lib.hid hcv
      clear hcv
      cases q
      · by_cases hc0 : c = 0
        · subst hc0
          have hz : (((0 : UInt8).toNat : Int) == 0) = true := rfl
          go_wp2_with fail
          go_round
          case rel => exact ⟨k + 1, by omega, by rw [any_take_succ L k hlt, HK.out, ← HV.out]; rfl, by go_num⟩
          case measure => simp [intOf]; omega
        · have hz : ((c.toNat : Int) == 0) = false := u8_nz hc0
          go_wp2_with fail
          go_round
          case rel => exact ⟨k + 1, by omega, by rw [any_take_succ L k hlt, HK.out, ← HV.out]; show Value.bool ((c.toNat : Int) != 0) = Value.bool (false || c != 0); rw [bne, hz]; simp [hc0], by go_num⟩
          case measure => simp [intOf]; omega
      · go_wp2_with fail
        go_round
        case rel => exact ⟨k + 1, by omega, by rw [any_take_succ L k hlt, HK.out]; rfl, by go_num⟩
        case measure => simp [intOf]; omega
    · obtain rfl : k = L.length := by omega
      rw [List.take_length] at HK
      rw [HK.out] at HX
      go_wp2_with (go_at_call 107; refine (wrong_m a _ g _ _ q R1 HX.out).mono ?_; rintro e w2 ⟨rfl, R2, O2⟩)
      refine bodyPost_end (results_none rfl _ _ _) rfl ?_
      exact ⟨rfl, R2, O1'.out.trans O2⟩
end Go.Proofs.YtbodppfpmpmadaaGreat

namespace Go.Proofs.YtbodppfpmpmadaaGreat
open Go.RowKit

theorem u8_mod (b : UInt8) : ((b.toNat : Int) % 256).toNat.toUInt8 = b := by
  have h : b.toNat < 256 := b.toNat_lt
  have h1 : ((b.toNat : Int) % 256).toNat = b.toNat := by omega
  rw [h1]
  simp

theorem must_byte {s s1 : List UInt8 × Int} {b : UInt8} (m : List UInt8) (h : rB 1 s = ([b], s1)) : rMust m s = rW (!m.contains b) s1 := by
  unfold rMust isOf
  rw [rF_byte h]
  dsimp only
  rw [u8_mod, ← Lib.contains_iff_indexByte]

theorem byte_eq (b k : UInt8) : ((b.toNat : Int) == (k.toNat : Int)) = (b == k) := by
  by_cases h : b = k
  · subst h; simp
  · have : ¬ ((b.toNat : Int) = (k.toNat : Int)) := fun e => h (UInt8.toNat_inj.1 (by omega))
    rw [beq_eq_false_iff_ne.2 this, beq_eq_false_iff_ne.2 h]
theorem rW_lenF (b : Bool) (s : List UInt8 × Int) : (rW b s).1 = s.1 := by
  unfold rW
  split <;> rfl
theorem rF_len (n : Int) (s : List UInt8 × Int) : (rF n s).2.1.length ≤ s.1.length := by
  unfold rF
  split
  · split <;> simp
  · exact Nat.le_refl _
theorem rMust_len (m : List UInt8) (s : List UInt8 × Int) : (rMust m s).1.length ≤ s.1.length := by
  unfold rMust
  rw [rW_lenF]
  exact rF_len 1 s

end Go.Proofs.YtbodppfpmpmadaaGreat

namespace Go.Proofs.YtbodppfpmpmadaaGreat
open Go.RowKit

theorem Rdr.at {w : World} {v : Value} {l : List UInt8} (hr : Rd w v l) (e : Int) (t : TypeId) (g : Nat) (hg : g = w.heap.size) : Rdr w (w.alloc (.cells #[v, .int .i64 e] t)) g (l, e) := by
  subst hg
  exact Rdr.new hr e t

end Go.Proofs.YtbodppfpmpmadaaGreat

namespace Go.Proofs.YtbodppfpmpmadaaGreat
open Go.RowKit

theorem Rd.head {w : World} {b o n cap : Nat} {l : List UInt8} (h : Rd w (.slice (some ⟨b, o, none⟩) l.length cap) l) (hn : n ≤ l.length) : Rd w (.slice (some ⟨b, o, none⟩) n cap) (l.take n) := by
  obtain ⟨A, c, hv, h1, h2, h3, h4⟩ := h
  simp only [Value.slice.injEq] at hv
  obtain ⟨rfl, _, rfl⟩ := hv
  have hl : (l.take n).length = n := by rw [List.length_take]; omega
  refine ⟨_, cap, by rw [hl], by rw [hl]; omega, h2, (fun h => by cases h), fun hne => ⟨b, o, rfl, fun j hj => ?_⟩⟩
  rw [hl] at hj
  obtain ⟨b', o', hA, hc⟩ := h4 (by intro e; subst e; simp at hn; omega)
  simp only [Option.some.injEq, Addr.mk.injEq] at hA
  obtain ⟨rfl, rfl, _⟩ := hA
  rw [hc j (by omega), List.getD_eq_getElem?_getD, List.getD_eq_getElem?_getD, List.getElem?_take, if_pos hj]
end Go.Proofs.YtbodppfpmpmadaaGreat

namespace Go.Proofs.YtbodppfpmpmadaaGreat
open Go.RowKit

theorem rI_len (s : List UInt8 × Int) : (rI s).2.1.length ≤ s.1.length := by
  unfold rI
  split
  · split <;> simp
  · exact Nat.le_refl _
theorem rT_len (s : List UInt8 × Int) : (rT s).2.1.length ≤ s.1.length := by
  unfold rT
  split
  · split <;> simp
  · exact Nat.le_refl _

end Go.Proofs.YtbodppfpmpmadaaGreat

namespace Go.Proofs.YtbodppfpmpmadaaGreat
open Go.RowKit

theorem rF_rX (n : Nat) (s : List UInt8 × Int) (h1 : 1 ≤ n) (h8 : n ≤ 8) : rF (n : Int) s = rX n s := by
  obtain ⟨L, r, e1, e2⟩ := rF_rB (n : Int) s (by omega)
  have e3 : ((n : Int)).toNat = n := by omega
  rw [e3] at e1
  have hl := rB_length n s
  rw [e1] at hl
  have e4 := readF_all L n hl h1 h8
  rw [e2] at e4
  unfold rX
  rw [e1]
  have e5 : (rF (n : Int) s).1 = ((leN L : Nat) : Int) := by
    have := congrArg Prod.fst e4
    exact this
  exact Prod.ext e5 rfl
theorem any_zeros : ∀ (L : List UInt8) (n : Nat), L.length = n → L.any (· != 0) = (L != List.replicate n 0)
  | [], 0, _ => rfl
  | x :: L, n + 1, h => by
    have ih := any_zeros L n (by simpa using h)
    rw [List.any_cons, ih, List.replicate_succ]
    by_cases e : x = 0
    · subst e
      simp [bne]
    · have e1 : (x != 0) = true := by simpa using e
      rw [e1]
      symm
      simp [e]
  | [], n + 1, h => by simp at h
  | x :: L, 0, h => by simp at h
theorem rN_r0 (n : Nat) (s : List UInt8 × Int) : rN n s = r0 n s := by
  unfold rN r0
  rw [any_zeros _ n (rB_length n s)]
theorem fixed_q (a w : World) (g : Nat) (s : List UInt8 × Int) (n : Nat) (x : Int) (s' : List UInt8 × Int) (h : Rdr a w g s) (h1 : 1 ≤ n) (h8 : n ≤ 8) (hx : rX n s = (x, s')) :
    Calls Tryz.prog 110 #[.pointer (some ⟨g, 0, none⟩), .int .i64 (n : Int)] w (RetR a w g (.int .u64 x) s') :=
  fixed_r a w g s n x s' h (by omega) (by rw [rF_rX n s h1 h8]; exact hx)
theorem zeros_q (n : Nat) (hn : n ≤ 100000) (a w : World) (g : Nat) (s s' : List UInt8 × Int) (h : Rdr a w g s) (hx : r0 n s = s') :
    Calls Tryz.prog 117 #[.pointer (some ⟨g, 0, none⟩), .int .i64 (n : Int)] w (RetR a w g (.tuple #[]) s') :=
  zeros_r a w g s n s' h hn (by rw [rN_r0]; exact hx)
theorem rZ_rZr (s : List UInt8 × Int) : rZr s = rZ s := by
  unfold rZr rZ
  by_cases h : s.2 = 0
  · rw [if_pos h, if_pos h]
    by_cases h2 : (readZ s.1).2.2 = 0
    · rw [if_pos h2, if_pos h2]
    · rw [if_neg h2, if_neg h2]
      have : (readZ s.1).1 = [] := by
        unfold readZ at h2 ⊢
        split
        · rename_i a
          rw [if_pos a] at h2
          exact absurd rfl h2
        · rfl
      rw [this]
  · rw [if_neg h, if_neg h]
theorem ended_q (a w : World) (g : Nat) (s : List UInt8 × Int) (x : List UInt8) (s' : List UInt8 × Int) (h : Rdr a w g s) (hx : rZ s = (x, s')) :
    Calls Tryz.prog 108 #[.pointer (some ⟨g, 0, none⟩)] w (RetR a w g (.string (strL x)) s') :=
  ended_r a w g s x s' h (by rw [rZ_rZr]; exact hx)
end Go.Proofs.YtbodppfpmpmadaaGreat

