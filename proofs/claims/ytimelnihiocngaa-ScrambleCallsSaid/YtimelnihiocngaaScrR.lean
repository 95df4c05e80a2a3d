/- The reference's responses. (Printed by gen_scrR.py.) -/
import Derived.Test.YtimelnihiocngaaScrB
import Derived.Test.YtimelnihiocngaaShaQ
namespace Go.Proofs.Ytimelnihiocngaa
open Go.RowKit

theorem checkE_bad {l : List UInt8} (k : Nat) (h20 : l.length = 20) (hk : k < 20) (h : l.getD k 0 = 0 ∨ l.getD k 0 = 36) : checkE l = 2 := by
  unfold checkE
  rw [if_neg]
  rintro ⟨_, h0, h1⟩
  have hm : l.getD k 0 ∈ l := by rw [List.getD_eq_getElem?_getD, List.getElem?_eq_getElem (by omega)]; exact List.getElem_mem _
  rcases h with h | h <;> rw [h] at hm <;> simp [hm] at h0 h1
theorem checkE_good {l : List UInt8} (h20 : l.length = 20) (h : ∀ j, j < 20 → l.getD j 0 ≠ 0 ∧ l.getD j 0 ≠ 36) : checkE l = 0 := by
  unfold checkE
  have key : ∀ c ∈ l, c ≠ 0 ∧ c ≠ 36 := fun c hc => by
    obtain ⟨j, hj, rfl⟩ := List.getElem_of_mem hc
    have := h j (by omega)
    rwa [List.getD_eq_getElem?_getD, List.getElem?_eq_getElem hj] at this
  rw [if_pos]
  refine ⟨h20, ?_, ?_⟩
  · simp only [List.contains_eq_mem, decide_eq_false_iff_not]
    intro hm; exact (key 0 hm).1 rfl
  · simp only [List.contains_eq_mem, decide_eq_false_iff_not]
    intro hm; exact (key 36 hm).2 rfl

set_option maxRecDepth 100000 in
theorem check_r (w : World) (v : Value) (l : List UInt8) (x : Int) (hr : Rd w v l) (hx : checkE l = x) :
    Calls Try.prog 36 #[v] w fun e w' => e = .returned (.int .i64 x) ∧ w = w' := by
  have HR := Lib.hid hr
  obtain ⟨A, cap, rfl, hle, hm, _, _⟩ := id hr
  unfold maxLen at hm
  clear hr
  obtain ⟨N, hN⟩ : ∃ N, N = l.length := ⟨_, rfl⟩
  rw [← hN] at HR hle ⊢
  by_cases h20 : N = 20
  · subst h20
    have HN := Lib.hid hN.symm
    have HX := Lib.hid hx
    clear hN hx
    go_enter Try.func36, Try.ntmps36
    go_wp2_with fail
    go_loop [3] (fun i => ∃ k : Nat, k ≤ 20 ∧ i = .int .i64 k ∧ Hid (∀ j, j < k → l.getD j 0 ≠ 0 ∧ l.getD j 0 ≠ 36)) (fun i => 20 - (intOf i).toNat)
    case atStart => exact ⟨0, Nat.zero_le _, rfl, Lib.hid (fun j hj => absurd hj (by omega))⟩
    case round =>
      obtain ⟨k, hk, rfl, HG⟩ := hrel
      by_cases hkN : k < 20
      · have hb : (k : Int) < 20 := by omega
        obtain ⟨b, o, rfl, hn2, hcs⟩ := HR.out.at_ (by omega)
        have hck := hcs k hkN
        clear hcs hn2
        have hbad := checkE_bad k HN.out hkN
        have hgood : l.getD k 0 ≠ 0 → l.getD k 0 ≠ 36 → ∀ j, j < k + 1 → l.getD j 0 ≠ 0 ∧ l.getD j 0 ≠ 36 := fun h1 h2 j hj => by
          rcases Nat.lt_or_ge j k with h | h
          · exact HG.out j h
          · obtain rfl : j = k := by omega
            exact ⟨h1, h2⟩
        generalize l.getD k 0 = c at hck hbad hgood
        have HB := Lib.hid hbad
        have HO := Lib.hid hgood
        clear hbad hgood
        by_cases h0 : c = 0
        · subst h0
          obtain rfl : x = 2 := by rw [← HX.out]; exact HB.out (.inl rfl)
          go_wp2_with fail
          go_ret
          exact ⟨rfl, rfl⟩
        · by_cases h1 : c = 36
          · subst h1
            obtain rfl : x = 2 := by rw [← HX.out]; exact HB.out (.inr rfl)
            go_wp2_with fail
            go_ret
            exact ⟨rfl, rfl⟩
          · have h2 := HO.out h0 h1
            obtain ⟨y, hy⟩ : ∃ y : Int, y = (c.toNat : Int) := ⟨_, rfl⟩
            have e0 : (y == 0) = false := by
              rw [beq_eq_false_iff_ne]; intro h; apply h0; apply UInt8.toNat_inj.1; show c.toNat = 0; omega
            have e1 : (y == 36) = false := by
              rw [beq_eq_false_iff_ne]; intro h; apply h1; apply UInt8.toNat_inj.1; show c.toNat = 36; omega
            rw [← hy] at hck
            have H2 := Lib.hid h2
            clear hy h0 h1 h2
            go_wp2_with fail
            go_round
            case rel => exact ⟨k + 1, by omega, by go_num, H2⟩
            case measure => simp [intOf]; omega
      · obtain rfl : k = 20 := by omega
        obtain rfl : x = 0 := by rw [← HX.out]; exact checkE_good HN.out HG.out
        simp only [Int.cast_ofNat_Int]
        go_wp2_with fail
        go_ret
        exact ⟨rfl, rfl⟩
  · have hb : ((N : Int) != 20) = true := by simp; omega
    obtain rfl : x = 2 := by rw [← hx]; unfold checkE; rw [if_neg]; intro h; exact h20 (by omega)
    clear hx hN
    go_enter Try.func36, Try.ntmps36
    go_wp2_with fail
    go_ret
    exact ⟨rfl, rfl⟩


set_option maxRecDepth 100000 in
set_option maxHeartbeats 1000000 in
theorem nonce_r (w : World) (v : Value) (l : List UInt8) (hr : Rd w v l) :
    Calls Try.prog 37 #[v] w fun e w' => ∃ v', e = .returned (.tuple #[v', .int .i64 (nonceE l)]) ∧ Own w' w.heap.size v' (nonceP l) ∧ Ext w w' := by
  have HR := Lib.hid hr
  obtain ⟨A, cap, rfl, hle, hm, _, _⟩ := id hr
  unfold maxLen at hm
  clear hr
  obtain ⟨N, hN⟩ : ∃ N, N = l.length := ⟨_, rfl⟩
  rw [← hN] at HR hle ⊢
  by_cases h20 : N = 20
  · subst h20
    have eE : nonceE l = 0 := by unfold nonceE; rw [if_pos hN.symm]
    have eP : nonceP l = l.map nonceB := by unfold nonceP; rw [if_pos hN.symm]
    rw [eE, eP]
    have HN := Lib.hid hN
    clear eE eP hN
    go_enter Try.func37, Try.ntmps37
    go_wp2_with fail
    have OW0 : Own w w.heap.size (.slice none 0 0) ((l.take 0).map nonceB) := Own.nil w _
    go_loopw [4, 5, 6] (fun v i _ W => ∃ k : Nat, k ≤ 20 ∧ i = .int .i64 k ∧ Own W w.heap.size v ((l.take k).map nonceB) ∧ Ext w W) (fun _ i _ _ => 20 - (intOf i).toNat)
    case atStart => exact ⟨0, Nat.zero_le _, rfl, OW0, Ext.refl _⟩
    case round =>
      clear OW0
      obtain ⟨k, hk, rfl, OW, hx⟩ := hrel
      by_cases hkN : k < 20
      · have hb : (k : Int) < 20 := by omega
        obtain ⟨b, o, rfl, hn2, hcs⟩ := (HR.out.ext hx).at_ (by omega)
        have hck := hcs k hkN
        clear hcs hn2
        have ht := nonceP_take l k (by have := HN.out; omega)
        generalize l.getD k 0 = c at hck ht
        obtain ⟨x, hxc⟩ : ∃ x : Int, x = (c.toNat : Int) := ⟨_, rfl⟩
        rw [← hxc] at hck
        have hx0 : 0 ≤ x := by omega
        have hx1 : x < 256 := by have := c.toNat_lt; omega
        obtain ⟨y, hy⟩ : ∃ y : Int, x % 254 = y := ⟨_, rfl⟩
        have hy0 : 0 ≤ y := by omega
        have hy1 : y < 254 := by omega
        have hy2 : x.tmod 254 = y := by rw [Int.tmod_eq_emod_of_nonneg hx0]; exact hy
        have hlen : ((l.take k).map nonceB).length = k := by rw [List.length_map, List.length_take]; have := HN.out; omega
        have HXC := Lib.hid hxc
        have HT := Lib.hid ht
        have HL := Lib.hid hlen
        have HY := Lib.hid hy
        clear hxc ht hlen
        by_cases h36 : y + 1 < 36
        · have hd : decide (36 ≤ y + 1) = false := by simpa using h36
          go_wp2_with ((with_reducible show wpList _ _ _ (⟨some 29, _, _, _, _, _⟩ :: _) _ _); refine wpl_append_one bt (y + 1) OW (by omega) (by omega) rfl _ _ rfl rfl rfl (by rw [HL.out]; omega) (Ext.size hx) ?_; intro v1 w1 ho hb1)
          rw [nonceB_lo c y (by rw [← HXC.out]; exact HY.out) h36, ← HT.out] at ho
          go_roundw
          case rel => exact ⟨k + 1, by omega, by go_num, ho, hx.below hb1 (Nat.le_refl _)⟩
          case measure => simp [intOf]; omega
        · have hd : decide (36 ≤ y + 1) = true := by simp; omega
          go_wp2_with ((with_reducible show wpList _ _ _ (⟨some 29, _, _, _, _, _⟩ :: _) _ _); refine wpl_append_one bt (y + 1 + 1) OW (by omega) (by omega) rfl _ _ rfl rfl rfl (by rw [HL.out]; omega) (Ext.size hx) ?_; intro v1 w1 ho hb1)
          rw [nonceB_hi c y (by rw [← HXC.out]; exact HY.out) h36, ← HT.out] at ho
          go_roundw
          case rel => exact ⟨k + 1, by omega, by go_num, ho, hx.below hb1 (Nat.le_refl _)⟩
          case measure => simp [intOf]; omega
      · obtain rfl : k = 20 := by omega
        simp only [Int.cast_ofNat_Int]
        have e : l.take 20 = l := List.take_of_length_le (by have := HN.out; omega)
        rw [e] at OW
        clear e
        go_wp2_with fail
        go_ret2
        exact ⟨_, rfl, OW, hx⟩
  · have hb : ((N : Int) != 20) = true := by simp; omega
    have eE : nonceE l = 2 := by unfold nonceE; rw [if_neg (by omega)]
    have eP : nonceP l = [] := by unfold nonceP; rw [if_neg (by omega)]
    rw [eE, eP]
    clear eE eP hN
    go_enter Try.func37, Try.ntmps37
    go_wp2_with fail
    go_ret2
    exact ⟨_, rfl, Own.nil _ _, Ext.refl _⟩


theorem joined_r (w : World) (va vb : Value) (a b : List UInt8) (ha : Rd w va a) (hb : Rd w vb b) (h1 : a.length ≤ 100000) (h2 : b.length ≤ 100000) :
    Calls Try.prog 101 #[va, vb] w fun e w' => ∃ v', e = .returned v' ∧ Own w' w.heap.size v' (a ++ b) ∧ Ext w w' := by
  have HA := Lib.hid ha
  have HB := Lib.hid hb
  clear ha hb
  go_enter Try.func101, Try.ntmps101
  go_wp2_with (first
    | ((with_reducible show wpList _ _ _ (⟨some 7, _, _, _, _, _⟩ :: _) _ _); refine wpl_clone bt HA.out rfl _ _ rfl rfl rfl (by omega) ?_; intro v1 w1 ho1 hx1)
    | ((with_reducible show wpList _ _ _ (⟨some 9, _, _, _, _, _⟩ :: _) _ _); refine wpl_append_rd bt ho1 (HB.out.ext hx1) rfl _ _ rfl rfl rfl (by omega) (Ext.size hx1) ?_; intro v2 w2 ho2 hb2)
    | fail)
  go_ret
  exact ⟨_, rfl, ho2, hx1.below hb2 (Nat.le_refl _)⟩

set_option maxRecDepth 100000 in
set_option maxHeartbeats 1000000 in
theorem both_r (w : World) (va vb : Value) (a b : List UInt8) (ha : Rd w va a) (hb : Rd w vb b) (hab : a.length ≤ b.length) (h1 : a.length ≤ 1000) :
    Calls Try.prog 77 #[va, vb] w fun e w' => ∃ v', e = .returned v' ∧ Own w' w.heap.size v' (xorL a b) ∧ Ext w w' := by
  have HA := Lib.hid ha
  have HB := Lib.hid hb
  obtain ⟨A, ca, rfl, hle, hm, _, _⟩ := id ha
  obtain ⟨B, cb, rfl, hle2, hm2, _, _⟩ := id hb
  unfold maxLen at hm hm2
  clear ha hb
  obtain ⟨N, hN⟩ : ∃ N, N = a.length := ⟨_, rfl⟩
  obtain ⟨M, hM⟩ : ∃ M, M = b.length := ⟨_, rfl⟩
  have hal := xorK_all a b hab
  rw [← hN] at HA hle hab h1 hal ⊢
  rw [← hM] at HB hle2 hab ⊢
  have HN := Lib.hid hN
  have HM := Lib.hid hM
  have HAL := Lib.hid hal
  clear hN hM hal
  go_enter Try.func77, Try.ntmps77
  go_wp2_with fail
  have OW0 : Own w w.heap.size (.slice none 0 0) (xorL (a.take 0) (b.take 0)) := Own.nil w _
  go_loopw [5, 6] (fun v i W => ∃ k : Nat, k ≤ N ∧ i = .int .i64 k ∧ Own W w.heap.size v (xorL (a.take k) (b.take k)) ∧ Ext w W) (fun _ i _ => N - (intOf i).toNat)
  case atStart => exact ⟨0, Nat.zero_le _, rfl, OW0, Ext.refl _⟩
  case round =>
    clear OW0
    obtain ⟨k, hk, rfl, OW, hx⟩ := hrel
    by_cases hkN : k < N
    · have hbk : (k : Int) < (N : Int) := by omega
      have hbm : (k : Int) < (M : Int) := by omega
      obtain ⟨ba, oa, rfl, hn1, hca⟩ := HA.out.at_ (by omega)
      obtain ⟨bb, ob, rfl, hn2, hcb⟩ := HB.out.at_ (by omega)
      have pa := hca k hkN
      have pb := hcb k (by omega)
      have ht := xorL_take a b k (by have := HN.out; omega) (by have := HM.out; omega)
      have hlen : (xorL (a.take k) (b.take k)).length = k := by rw [xorL_length, List.length_take, List.length_take]; have := HN.out; have := HM.out; omega
      have hq := u8_xor_nat (a.getD k 0).toNat (b.getD k 0).toNat (a.getD k 0).toNat_lt (b.getD k 0).toNat_lt
      rw [← UInt8.toNat_xor] at hq
      generalize a.getD k 0 = ya at pa ht hq
      generalize b.getD k 0 = yb at pb ht hq
      generalize ya ^^^ yb = z at ht hq
      obtain ⟨x, hxa⟩ : ∃ x : Int, x = (ya.toNat : Int) := ⟨_, rfl⟩
      obtain ⟨y, hyb⟩ : ∃ y : Int, y = (yb.toNat : Int) := ⟨_, rfl⟩
      rw [← hxa] at pa hq
      rw [← hyb] at pb hq
      have pa2 := hx.cell pa
      have pb2 := hx.cell pb
      have HT := Lib.hid ht
      have HL := Lib.hid hlen
      have OW1 := Lib.hid OW
      clear hn1 hn2 hca hcb ht hlen hxa hyb
      go_wp2_with fail
      go_region_held3 (fun W' => W'.cell? ⟨ba, oa + k, none⟩ = some (.int .u8 x) ∧ W'.cell? ⟨bb, ob + k, none⟩ = some (.int .u8 y) ∧ Ext w W')
        ((refine (fun h => ⟨Ext.cell h pa, Ext.cell h pb, h⟩) ?_; first | exact hx.drew | exact (hx.alloc _).drew | exact hx4 | fail))
        (first
          | ((with_reducible show (if Region.wanted (⟨some 30, _, _, _, _, _⟩ : Oper) _ = true then _ else _)); go_must (go_split_ands; refine step_append_rd bt (OW1.out.ext (((Ext.refl _).alloc _).drew)) ((rd_lit wr _ [z] (by rfl) (by simp) 1 _ (by rfl) (by rfl)).ext (Ext.refl _).drew) (by rfl) _ _ (by rfl) (by rfl) (by rfl) ?_ ?_ ?_; (simp [HL.out]; omega); (exact Ext.size (by assumption)); intro v4 w4 ho4 hb4; have hx4 : Ext w w4 := Ext.below (by assumption) hb4 (Nat.le_refl _)))
          | fail)
      all_goals
        go_split_ands
        clear hq
        go_wp2_with fail
        go_roundw
        case rel => exact ⟨k + 1, by omega, by go_num, by rw [HT.out]; exact ho4, by assumption⟩
        case measure => simp [intOf]; omega
    · obtain rfl : k = N := by omega
      have e : xorL (a.take k) (b.take k) = xorL a b := by
        have := HAL.out
        unfold xorK at this
        rw [← this, ← HN.out, Nat.sub_self, List.replicate_zero, List.append_nil]
      rw [e] at OW
      clear e
      go_wp2_with fail
      go_ret
      exact ⟨_, rfl, OW, hx⟩

theorem sum_r (w : World) (kind : Int) (v : Value) (l : List UInt8) (hk : kind = 1 ∨ kind = 2) (hr : Rd w v l) (hl : l.length ≤ 1000000) :
    Calls Try.prog 76 #[.int .i64 kind, v] w fun e w' => ∃ v', e = .returned v' ∧ Own w' w.heap.size v' (sumP kind l) ∧ Ext w w' := by
  have HR := Lib.hid hr
  clear hr
  rcases hk with rfl | rfl
  · go_enter Try.func76, Try.ntmps76
    go_wp2_with (go_at_call 20; refine (sum1_r _ _ l HR.out hl).mono ?_; rintro e w2 ⟨v2, rfl, ho2, hx2⟩)
    go_ret
    exact ⟨_, rfl, ho2, hx2⟩
  · go_enter Try.func76, Try.ntmps76
    go_wp2_with (go_at_call 21; refine (sum256_r _ _ l HR.out hl).mono ?_; rintro e w2 ⟨v2, rfl, ho2, hx2⟩)
    go_ret
    exact ⟨_, rfl, ho2, hx2⟩

theorem mixed_r (w : World) (kind : Int) (vs vn : Value) (s n : List UInt8) (hk : kind = 1 ∨ kind = 2) (hs : Rd w vs s) (hn : Rd w vn n) (h1 : n.length ≤ 10000) (h2 : s.length ≤ 10000) :
    Calls Try.prog 78 #[.int .i64 kind, vs, vn] w fun e w' => ∃ v', e = .returned v' ∧ Own w' w.heap.size v' (mixP kind n s) ∧ Ext w w' := by
  have HNN := Lib.hid hn
  have HS := Lib.hid hs
  clear hn hs
  rcases hk with rfl | rfl
  · rw [show mixP 1 n s = sumP 1 (n ++ s) by unfold mixP; rw [if_pos rfl]]
    go_enter Try.func78, Try.ntmps78
    go_wp2_with (first
      | (go_at_call 101; refine (joined_r _ _ _ n s HNN.out HS.out (by omega) (by omega)).mono ?_; rintro e w1 ⟨v1, rfl, ho1, hx1⟩)
      | (go_at_call 20; refine (sum1_r _ _ _ ho1.rd (by rw [List.length_append]; omega)).mono ?_; rintro e w2 ⟨v2, rfl, ho2, hx2⟩)
      | fail)
    go_ret
    exact ⟨_, rfl, ho2.more (Ext.size hx1), hx1.trans hx2⟩
  · rw [show mixP 2 n s = sumP 2 (s ++ n) by unfold mixP; rw [if_neg (by decide)]]
    go_enter Try.func78, Try.ntmps78
    go_wp2_with (first
      | (go_at_call 101; refine (joined_r _ _ _ s n HS.out HNN.out (by omega) (by omega)).mono ?_; rintro e w1 ⟨v1, rfl, ho1, hx1⟩)
      | (go_at_call 21; refine (sum256_r _ _ _ ho1.rd (by rw [List.length_append]; omega)).mono ?_; rintro e w2 ⟨v2, rfl, ho2, hx2⟩)
      | fail)
    go_ret
    exact ⟨_, rfl, ho2.more (Ext.size hx1), hx1.trans hx2⟩


set_option maxRecDepth 100000 in
set_option maxHeartbeats 1000000 in
theorem stored_r (w : World) (kind : Int) (s : ByteArray) (hs : s.size ≤ 1000000) :
    Calls Try.prog 38 #[.int .i64 kind, .string s] w fun e w' => ∃ v', e = .returned (.tuple #[v', .int .i64 (storedE kind)]) ∧ Own w' w.heap.size v' (storedP kind s.data.toList) ∧ Ext w w' := by
  by_cases hk : kind = 1 ∨ kind = 2
  · have eE : storedE kind = 0 := by unfold storedE; rw [if_pos hk]
    rw [eE]
    have HK := Lib.hid hk
    have hp : ∀ q : Bool, ((kind != 1) = true → (kind != 2) = false) := by
      intro _ h; rcases hk with rfl | rfl
      · simp at h
      · rfl
    obtain ⟨b1, hb1⟩ : ∃ b, (kind != 1) = b := ⟨_, rfl⟩
    have hb2 : b1 = true → (kind != 2) = false := fun h => hp true (hb1.trans h)
    clear hp hk eE
    by_cases he : s.data.toList = []
    · obtain rfl := str_empty he
      have eP : storedP kind ByteArray.empty.data.toList = [] := by simp [storedP]
      rw [eP]
      clear eP he
      cases b1
      · clear hb2
        go_enter Try.func38, Try.ntmps38
        go_wp2_with fail
        go_ret2
        exact ⟨_, rfl, Own.nil _ _, Ext.refl _⟩
      · have hb3 := hb2 rfl
        clear hb2
        go_enter Try.func38, Try.ntmps38
        go_wp2_with fail
        go_ret2
        exact ⟨_, rfl, Own.nil _ _, Ext.refl _⟩
    · have eP : storedP kind s.data.toList = sumP kind (sumP kind s.data.toList) := by unfold storedP; rw [if_pos ⟨HK.out, he⟩]
      rw [eP]
      have hne := str_ne he
      have hsz : s.data.toList.length = s.size := size_toList s
      have HSZ := Lib.hid hsz
      clear eP he hsz
      cases b1
      · clear hb2
        go_enter Try.func38, Try.ntmps38
        go_wp2_with (first
          | ((with_reducible show wpList _ _ _ (⟨some 17, _, _, _, _, _⟩ :: _) _ _); refine wpl_bytes bt s (by unfold maxLen; omega) rfl _ rfl rfl ?_; intro A1 m1 c1 w1 hr1 _ hx1; have tok1 : True := trivial)
          | (go_at_call 76; have _t := tok1; refine (sum_r _ kind _ _ HK.out hr1 (by rw [HSZ.out]; exact hs)).mono ?_; rintro e w2 ⟨v2, rfl, ho2, hx2⟩; clear tok1)
          | (go_at_call 76; refine (sum_r _ kind _ _ HK.out ho2.rd (by rw [sumP_len kind _ HK.out]; have := sizeK_le kind; omega)).mono ?_; rintro e w3 ⟨v3, rfl, ho3, hx3⟩)
          | fail)
        go_ret2
        have hx02 := hx1.trans hx2
        exact ⟨_, rfl, ho3.more (Ext.size hx02), hx02.trans hx3⟩
      · have hb3 := hb2 rfl
        clear hb2
        go_enter Try.func38, Try.ntmps38
        go_wp2_with (first
          | ((with_reducible show wpList _ _ _ (⟨some 17, _, _, _, _, _⟩ :: _) _ _); refine wpl_bytes bt s (by unfold maxLen; omega) rfl _ rfl rfl ?_; intro A1 m1 c1 w1 hr1 _ hx1; have tok1 : True := trivial)
          | (go_at_call 76; have _t := tok1; refine (sum_r _ kind _ _ HK.out hr1 (by rw [HSZ.out]; exact hs)).mono ?_; rintro e w2 ⟨v2, rfl, ho2, hx2⟩; clear tok1)
          | (go_at_call 76; refine (sum_r _ kind _ _ HK.out ho2.rd (by rw [sumP_len kind _ HK.out]; have := sizeK_le kind; omega)).mono ?_; rintro e w3 ⟨v3, rfl, ho3, hx3⟩)
          | fail)
        go_ret2
        have hx02 := hx1.trans hx2
        exact ⟨_, rfl, ho3.more (Ext.size hx02), hx02.trans hx3⟩
  · have eE : storedE kind = 2 := by unfold storedE; rw [if_neg hk]
    have eP : storedP kind s.data.toList = [] := by unfold storedP; rw [if_neg (fun h => hk h.1)]
    have hb1 : (kind != 1) = true := by simp; exact fun h => hk (.inl h)
    have hb2 : (kind != 2) = true := by simp; exact fun h => hk (.inr h)
    rw [eE, eP]
    clear eE eP hk
    go_enter Try.func38, Try.ntmps38
    go_wp2_with fail
    go_ret2
    exact ⟨_, rfl, Own.nil _ _, Ext.refl _⟩


set_option maxRecDepth 100000 in
set_option maxHeartbeats 1000000 in
theorem response_r (w : World) (kind : Int) (s : ByteArray) (vn : Value) (n : List UInt8) (hk : kind = 1 ∨ kind = 2) (hs : s.size ≤ 1000000) (hn : Rd w vn n) :
    Calls Try.prog 75 #[.int .i64 kind, .string s, vn] w fun e w' => ∃ v', e = .returned (.tuple #[v', .int .i64 (checkE n)]) ∧ Rd w' v' (respP kind s.data.toList n) ∧ Ext w w' := by
  have HK := Lib.hid hk
  have HNN := Lib.hid hn
  clear hk hn
  rcases checkE_or n with h | h
  · have hl := checkE_len h
    rw [h]
    by_cases he : s.data.toList = []
    · have eP : respP kind s.data.toList n = [] := by unfold respP; rw [if_neg (fun h => h.2 he)]
      rw [eP]
      obtain rfl := str_empty he
      have H := Lib.hid h
      clear h he eP hl
      go_enter Try.func75, Try.ntmps75
      go_wp2_with (go_at_call 36; refine (check_r _ _ n 0 HNN.out H.out).mono ?_; rintro e w1 ⟨rfl, rfl⟩)
      go_ret2
      exact ⟨_, rfl, Rd.nil _, Ext.refl _⟩
    · have eP : respP kind s.data.toList n = xorL (sumP kind s.data.toList) (mixP kind n (storedP kind s.data.toList)) := by unfold respP; rw [if_pos ⟨h, he⟩]
      rw [eP]
      have hne := str_ne he
      have hsz : s.data.toList.length = s.size := size_toList s
      have HSZ := Lib.hid hsz
      have H := Lib.hid h
      have eE : storedE kind = 0 := by unfold storedE; rw [if_pos HK.out]
      have HE := Lib.hid eE
      have HL := Lib.hid hl
      clear eP he hsz h eE hl
      have hs1 := sumP_len kind s.data.toList HK.out
      have hs2 := mixP_len kind n (storedP kind s.data.toList) HK.out
      have hs3 := sizeK_le kind
      have hs5 := storedP_le kind s.data.toList
      have HS1 := Lib.hid hs1
      have HS2 := Lib.hid hs2
      clear hs1 hs2
      go_enter Try.func75, Try.ntmps75
      go_wp2_with (first
        | (go_at_call 36; refine (check_r _ _ n 0 HNN.out H.out).mono ?_; rintro e w1 ⟨rfl, rfl⟩)
        | (go_at_call 38; refine (stored_r _ kind s hs).mono ?_; rintro e w1 ⟨v1, rfl, ho1, hx1⟩; rw [HE.out])
        | ((with_reducible show wpList _ _ _ (⟨some 28, _, _, _, _, _⟩ :: _) _ _); refine wpl_bytes bt s (by unfold maxLen; omega) rfl _ rfl rfl ?_; intro A2 m2 c2 w2 hr2 _ hx2)
        | (go_at_call 76; refine (sum_r _ kind _ _ HK.out hr2 (by rw [HSZ.out]; exact hs)).mono ?_; rintro e w3 ⟨v3, rfl, ho3, hx3⟩; have hx23 := hx2.trans hx3; have hx03 := hx1.trans hx23)
        | (go_at_call 78; refine (mixed_r _ kind _ _ _ n HK.out (ho1.rd.ext hx23) (HNN.out.ext hx03) (by have := HL.out; omega) (by omega)).mono ?_; rintro e w4 ⟨v4, rfl, ho4, hx4⟩)
        | (go_at_call 77; refine (both_r _ _ _ _ _ (ho3.rd.ext hx4) ho4.rd (by rw [HS1.out, HS2.out]; exact Nat.le_refl _) (by rw [HS1.out]; omega)).mono ?_; rintro e w5 ⟨v5, rfl, ho5, hx5⟩)
        | fail)
      go_ret2
      exact ⟨_, rfl, ho5.rd, (hx03.trans hx4).trans hx5⟩
  · have eP : respP kind s.data.toList n = [] := by unfold respP; rw [if_neg (fun h2 => by rw [h] at h2; exact absurd h2.1 (by decide))]
    rw [eP, h]
    have H := Lib.hid h
    clear h eP
    go_enter Try.func75, Try.ntmps75
    go_wp2_with (go_at_call 36; refine (check_r _ _ n 2 HNN.out H.out).mono ?_; rintro e w1 ⟨rfl, rfl⟩)
    go_ret2
    exact ⟨_, rfl, Rd.nil _, Ext.refl _⟩

theorem ntv_r (w : World) (s : ByteArray) (vn : Value) (n : List UInt8) (hs : s.size ≤ 1000000) (hn : Rd w vn n) :
    Calls Try.prog 33 #[.string s, vn] w fun e w' => ∃ v', e = .returned (.tuple #[v', .int .i64 (checkE n)]) ∧ Rd w' v' (respP 1 s.data.toList n) ∧ Ext w w' := by
  have HNN := Lib.hid hn
  clear hn
  go_enter Try.func33, Try.ntmps33
  go_wp2_with (go_at_call 75; refine (response_r _ 1 s _ n (.inl rfl) hs HNN.out).mono ?_; rintro e w1 ⟨v1, rfl, hr1, hx1⟩)
  go_ret2
  exact ⟨_, rfl, hr1, hx1⟩

theorem fast_r (w : World) (s : ByteArray) (vn : Value) (n : List UInt8) (hs : s.size ≤ 1000000) (hn : Rd w vn n) :
    Calls Try.prog 35 #[.string s, vn] w fun e w' => ∃ v', e = .returned (.tuple #[v', .int .i64 (checkE n)]) ∧ Rd w' v' (respP 2 s.data.toList n) ∧ Ext w w' := by
  have HNN := Lib.hid hn
  clear hn
  go_enter Try.func35, Try.ntmps35
  go_wp2_with (go_at_call 75; refine (response_r _ 2 s _ n (.inr rfl) hs HNN.out).mono ?_; rintro e w1 ⟨v1, rfl, hr1, hx1⟩)
  go_ret2
  exact ⟨_, rfl, hr1, hx1⟩


set_option maxRecDepth 100000 in
set_option maxHeartbeats 1000000 in
theorem right_r1 (w : World) (vs vn vr : Value) (s n r : List UInt8) (b : Bool) (er : Int) (hs : Rd w vs s) (hn : Rd w vn n) (hr : Rd w vr r) (hx : rightP 1 s n r = (b, er)) :
    Calls Try.prog 39 #[.int .i64 1, vs, vn, vr] w fun e w' => e = .returned (.tuple #[.bool b, .int .i64 er]) ∧ Ext w w' := by
  have HS := Lib.hid hs
  have HNN := Lib.hid hn
  have HR := Lib.hid hr
  obtain ⟨A, ca, rfl, hla, hma, _, _⟩ := id hs
  obtain ⟨C, cc, rfl, hlc, hmc, _, _⟩ := id hr
  unfold maxLen at hma hmc
  clear hs hn hr
  have hz : sizeK 1 = 20 := rfl
  unfold rightP at hx
  rw [if_neg (by decide), hz] at hx
  have HZ := Lib.hid hz
  clear hz
  rcases checkE_or n with h | h
  · have hl := checkE_len h
    rw [if_neg (by simpa using h)] at hx
    have H := Lib.hid h
    have HL := Lib.hid hl
    clear h hl
    by_cases hs0 : s = []
    · rw [if_pos hs0] at hx
      cases hx
      subst hs0
      by_cases hr0 : r = []
      · subst hr0
        go_enter Try.func39, Try.ntmps39
        go_wp2_with (go_at_call 36; refine (check_r _ _ n 0 HNN.out H.out).mono ?_; rintro e w1 ⟨rfl, rfl⟩)
        go_ret2
        exact ⟨rfl, Ext.refl _⟩
      · have e1 : r.isEmpty = false := by simpa using hr0
        have e2 : ((r.length : Int) == 0) = false := by simpa using hr0
        rw [e1]
        clear e1 hr0
        go_enter Try.func39, Try.ntmps39
        go_wp2_with (go_at_call 36; refine (check_r _ _ n 0 HNN.out H.out).mono ?_; rintro e w1 ⟨rfl, rfl⟩)
        go_ret2
        exact ⟨rfl, Ext.refl _⟩
    · rw [if_neg hs0] at hx
      have e0 : ((s.length : Int) == 0) = false := by simpa using hs0
      by_cases hsl : s.length = 20
      · have e1 : ((s.length : Int) != 20) = false := by simp; omega
        rw [if_neg (by simpa using hsl)] at hx
        by_cases hrl : r.length = 20
        · have e2 : ((r.length : Int) != 20) = false := by simp; omega
          rw [if_neg (by simpa using hrl)] at hx
          injection hx with hx1 hx2
          subst hx2
          have HB := Lib.hid hx1
          have hmx := mixP_len 1 n s (.inl rfl)
          have h3 : s.length ≤ 32 := by omega
          have h4 : r.length ≤ 32 := by omega
          have h6 : (xorL r (mixP 1 n s)).length ≤ 1000 := by rw [xorL_length]; omega
          have h7 : r.length ≤ (mixP 1 n s).length := by rw [hmx, HZ.out]; omega
          clear hx1 hsl hrl hmx hs0
          go_enter Try.func39, Try.ntmps39
          go_wp2_with (first
            | (go_at_call 36; refine (check_r _ _ n 0 HNN.out H.out).mono ?_; rintro e w1 ⟨rfl, rfl⟩)
            | (go_at_call 78; refine (mixed_r _ 1 _ _ s n (.inl rfl) HS.out HNN.out (by have := HL.out; omega) (by omega)).mono ?_; rintro e w4 ⟨v4, rfl, ho4, hx4⟩)
            | (go_at_call 77; refine (both_r _ _ _ _ _ (HR.out.ext hx4) ho4.rd h7 (by omega)).mono ?_; rintro e w5 ⟨v5, rfl, ho5, hx5⟩)
            | (go_at_call 76; refine (sum_r _ 1 _ _ (.inl rfl) ho5.rd (by omega)).mono ?_; rintro e w6 ⟨v6, rfl, ho6, hx6⟩; have hx56 := (hx4.trans hx5).trans hx6)
            | ((with_reducible show wpList _ _ _ (⟨some 49, _, _, _, _, _⟩ :: _) _ _); refine wpl_str bt ho6.rd rfl _ rfl rfl ?_)
            | ((with_reducible show wpList _ _ _ (⟨some 51, _, _, _, _, _⟩ :: _) _ _); refine wpl_str bt (HS.out.ext hx56) rfl _ rfl rfl ?_)
            | fail)
          go_ret2
          refine ⟨?_, hx56⟩
          rw [← HB.out]
          show Ending.returned (Value.tuple #[Value.bool ((strL _).toList == (strL _).toList), _]) = _
          rw [strL_tl, strL_tl]
          rfl
        · have e2 : ((r.length : Int) != 20) = true := by simp; omega
          rw [if_pos (by simpa using hrl)] at hx
          cases hx
          clear hsl hrl hs0
          go_enter Try.func39, Try.ntmps39
          go_wp2_with (go_at_call 36; refine (check_r _ _ n 0 HNN.out H.out).mono ?_; rintro e w1 ⟨rfl, rfl⟩)
          go_ret2
          exact ⟨rfl, Ext.refl _⟩
      · have e1 : ((s.length : Int) != 20) = true := by simp; omega
        rw [if_pos (by simpa using hsl)] at hx
        cases hx
        clear hsl hs0
        go_enter Try.func39, Try.ntmps39
        go_wp2_with (go_at_call 36; refine (check_r _ _ n 0 HNN.out H.out).mono ?_; rintro e w1 ⟨rfl, rfl⟩)
        go_ret2
        exact ⟨rfl, Ext.refl _⟩
  · rw [if_pos (by rw [h]; decide)] at hx
    cases hx
    have H := Lib.hid h
    clear h
    go_enter Try.func39, Try.ntmps39
    go_wp2_with (go_at_call 36; refine (check_r _ _ n 2 HNN.out H.out).mono ?_; rintro e w1 ⟨rfl, rfl⟩)
    go_ret2
    exact ⟨rfl, Ext.refl _⟩


set_option maxRecDepth 100000 in
set_option maxHeartbeats 1000000 in
theorem right_r2 (w : World) (vs vn vr : Value) (s n r : List UInt8) (b : Bool) (er : Int) (hs : Rd w vs s) (hn : Rd w vn n) (hr : Rd w vr r) (hx : rightP 2 s n r = (b, er)) :
    Calls Try.prog 39 #[.int .i64 2, vs, vn, vr] w fun e w' => e = .returned (.tuple #[.bool b, .int .i64 er]) ∧ Ext w w' := by
  have HS := Lib.hid hs
  have HNN := Lib.hid hn
  have HR := Lib.hid hr
  obtain ⟨A, ca, rfl, hla, hma, _, _⟩ := id hs
  obtain ⟨C, cc, rfl, hlc, hmc, _, _⟩ := id hr
  unfold maxLen at hma hmc
  clear hs hn hr
  have hz : sizeK 2 = 32 := rfl
  unfold rightP at hx
  rw [if_neg (by decide), hz] at hx
  have HZ := Lib.hid hz
  clear hz
  rcases checkE_or n with h | h
  · have hl := checkE_len h
    rw [if_neg (by simpa using h)] at hx
    have H := Lib.hid h
    have HL := Lib.hid hl
    clear h hl
    by_cases hs0 : s = []
    · rw [if_pos hs0] at hx
      cases hx
      subst hs0
      by_cases hr0 : r = []
      · subst hr0
        go_enter Try.func39, Try.ntmps39
        go_wp2_with (go_at_call 36; refine (check_r _ _ n 0 HNN.out H.out).mono ?_; rintro e w1 ⟨rfl, rfl⟩)
        go_ret2
        exact ⟨rfl, Ext.refl _⟩
      · have e1 : r.isEmpty = false := by simpa using hr0
        have e2 : ((r.length : Int) == 0) = false := by simpa using hr0
        rw [e1]
        clear e1 hr0
        go_enter Try.func39, Try.ntmps39
        go_wp2_with (go_at_call 36; refine (check_r _ _ n 0 HNN.out H.out).mono ?_; rintro e w1 ⟨rfl, rfl⟩)
        go_ret2
        exact ⟨rfl, Ext.refl _⟩
    · rw [if_neg hs0] at hx
      have e0 : ((s.length : Int) == 0) = false := by simpa using hs0
      by_cases hsl : s.length = 32
      · have e1 : ((s.length : Int) != 32) = false := by simp; omega
        rw [if_neg (by simpa using hsl)] at hx
        by_cases hrl : r.length = 32
        · have e2 : ((r.length : Int) != 32) = false := by simp; omega
          rw [if_neg (by simpa using hrl)] at hx
          injection hx with hx1 hx2
          subst hx2
          have HB := Lib.hid hx1
          have hmx := mixP_len 2 n s (.inr rfl)
          have h3 : s.length ≤ 32 := by omega
          have h4 : r.length ≤ 32 := by omega
          have h6 : (xorL r (mixP 2 n s)).length ≤ 1000 := by rw [xorL_length]; omega
          have h7 : r.length ≤ (mixP 2 n s).length := by rw [hmx, HZ.out]; omega
          clear hx1 hsl hrl hmx hs0
          go_enter Try.func39, Try.ntmps39
          go_wp2_with (first
            | (go_at_call 36; refine (check_r _ _ n 0 HNN.out H.out).mono ?_; rintro e w1 ⟨rfl, rfl⟩)
            | (go_at_call 78; refine (mixed_r _ 2 _ _ s n (.inr rfl) HS.out HNN.out (by have := HL.out; omega) (by omega)).mono ?_; rintro e w4 ⟨v4, rfl, ho4, hx4⟩)
            | (go_at_call 77; refine (both_r _ _ _ _ _ (HR.out.ext hx4) ho4.rd h7 (by omega)).mono ?_; rintro e w5 ⟨v5, rfl, ho5, hx5⟩)
            | (go_at_call 76; refine (sum_r _ 2 _ _ (.inr rfl) ho5.rd (by omega)).mono ?_; rintro e w6 ⟨v6, rfl, ho6, hx6⟩; have hx56 := (hx4.trans hx5).trans hx6)
            | ((with_reducible show wpList _ _ _ (⟨some 49, _, _, _, _, _⟩ :: _) _ _); refine wpl_str bt ho6.rd rfl _ rfl rfl ?_)
            | ((with_reducible show wpList _ _ _ (⟨some 51, _, _, _, _, _⟩ :: _) _ _); refine wpl_str bt (HS.out.ext hx56) rfl _ rfl rfl ?_)
            | fail)
          go_ret2
          refine ⟨?_, hx56⟩
          rw [← HB.out]
          show Ending.returned (Value.tuple #[Value.bool ((strL _).toList == (strL _).toList), _]) = _
          rw [strL_tl, strL_tl]
          rfl
        · have e2 : ((r.length : Int) != 32) = true := by simp; omega
          rw [if_pos (by simpa using hrl)] at hx
          cases hx
          clear hsl hrl hs0
          go_enter Try.func39, Try.ntmps39
          go_wp2_with (go_at_call 36; refine (check_r _ _ n 0 HNN.out H.out).mono ?_; rintro e w1 ⟨rfl, rfl⟩)
          go_ret2
          exact ⟨rfl, Ext.refl _⟩
      · have e1 : ((s.length : Int) != 32) = true := by simp; omega
        rw [if_pos (by simpa using hsl)] at hx
        cases hx
        clear hsl hs0
        go_enter Try.func39, Try.ntmps39
        go_wp2_with (go_at_call 36; refine (check_r _ _ n 0 HNN.out H.out).mono ?_; rintro e w1 ⟨rfl, rfl⟩)
        go_ret2
        exact ⟨rfl, Ext.refl _⟩
  · rw [if_pos (by rw [h]; decide)] at hx
    cases hx
    have H := Lib.hid h
    clear h
    go_enter Try.func39, Try.ntmps39
    go_wp2_with (go_at_call 36; refine (check_r _ _ n 2 HNN.out H.out).mono ?_; rintro e w1 ⟨rfl, rfl⟩)
    go_ret2
    exact ⟨rfl, Ext.refl _⟩


theorem right_r (w : World) (kind : Int) (vs vn vr : Value) (s n r : List UInt8) (b : Bool) (er : Int) (hs : Rd w vs s) (hn : Rd w vn n) (hr : Rd w vr r) (hx : rightP kind s n r = (b, er)) :
    Calls Try.prog 39 #[.int .i64 kind, vs, vn, vr] w fun e w' => e = .returned (.tuple #[.bool b, .int .i64 er]) ∧ Ext w w' := by
  by_cases h1 : kind = 1
  · subst h1; exact right_r1 w vs vn vr s n r b er hs hn hr hx
  · by_cases h2 : kind = 2
    · subst h2; exact right_r2 w vs vn vr s n r b er hs hn hr hx
    · have e1 : (kind != 1) = true := by simpa using h1
      have e2 : (kind != 2) = true := by simpa using h2
      unfold rightP at hx
      rw [if_pos (by simp [sizeK, h1, h2])] at hx
      cases hx
      clear h1 h2 hs hn hr
      go_enter Try.func39, Try.ntmps39
      go_wp2_with fail
      go_ret2
      exact ⟨rfl, Ext.refl _⟩
end Go.Proofs.Ytimelnihiocngaa
