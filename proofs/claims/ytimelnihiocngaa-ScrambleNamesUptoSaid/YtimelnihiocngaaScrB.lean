/- The program's responses: a hash of several lists, what is stored, responses, what is right. -/
import Derived.Test.YtimelnihiocngaaScrA
namespace Go.Proofs.Ytimelnihiocngaa
open Go.RowKit

theorem Lists.at_ {w : World} {A : Option Addr} {n cap : Nat} {ls : List (List UInt8)} (h : Lists w (.slice A n cap) ls) (hn : 0 < n) : ∃ b o, A = some ⟨b, o, none⟩ ∧ n = ls.length ∧ ∀ j, j < n → ∃ u, w.cell? ⟨b, o + j, none⟩ = some u ∧ Rd w u (ls.getD j []) := by
  obtain ⟨A', cap', hv, _, _, h4⟩ := h
  injection hv with e1 e2 e3
  subst e1 e2
  obtain ⟨b, o, rfl, hc⟩ := h4 (by intro e; subst e; simp at hn)
  exact ⟨b, o, rfl, rfl, hc⟩
theorem lists1 (w : World) (v : Value) (l : List UInt8) (hr : Rd w v l) (t : TypeId) (g : Nat) (hg : g = w.heap.size) : Lists (w.alloc (.cells #[v] t)) (.slice (some ⟨g, 0, none⟩) 1 1) [l] := by
  subst hg
  refine ⟨_, 1, rfl, Nat.le_refl _, by unfold maxLen; omega, fun _ => ⟨_, 0, rfl, fun j hj => ?_⟩⟩
  obtain rfl : j = 0 := by simp at hj; exact hj
  exact ⟨v, (Box.new w [v] t) 0 (by simp), hr.ext ((Ext.refl w).alloc _)⟩
theorem lists2 (w : World) (v u : Value) (l m : List UInt8) (hr : Rd w v l) (hs : Rd w u m) (t : TypeId) (g : Nat) (hg : g = w.heap.size) : Lists (w.alloc (.cells #[v, u] t)) (.slice (some ⟨g, 0, none⟩) 2 2) [l, m] := by
  subst hg
  refine ⟨_, 2, rfl, Nat.le_refl _, by unfold maxLen; omega, fun _ => ⟨_, 0, rfl, fun j hj => ?_⟩⟩
  have h2 : j = 0 ∨ j = 1 := by simp at hj; omega
  rcases h2 with rfl | rfl
  · exact ⟨v, (Box.new w [v, u] t) 0 (by simp), hr.ext ((Ext.refl w).alloc _)⟩
  · exact ⟨u, (Box.new w [v, u] t) 1 (by simp), hs.ext ((Ext.refl w).alloc _)⟩
theorem flat_take (ls : List (List UInt8)) (k : Nat) (h : k < ls.length) : (ls.take (k + 1)).flatten = (ls.take k).flatten ++ ls.getD k [] := by
  rw [List.take_add_one, List.getElem?_eq_getElem h, List.getD_eq_getElem?_getD, List.getElem?_eq_getElem h, List.flatten_append]
  simp
theorem flat_le (ls : List (List UInt8)) (k : Nat) : (ls.take k).flatten.length ≤ ls.flatten.length := by
  conv => rhs; rw [← List.take_append_drop k ls, List.flatten_append, List.length_append]
  omega

set_option maxRecDepth 100000 in
set_option maxHeartbeats 1000000 in
theorem hash_c (w : World) (kind : Int) (v : Value) (ls : List (List UInt8)) (hk : kind = 1 ∨ kind = 2) (hls : Lists w v ls) (ht : ls.flatten.length ≤ 1000000) :
    Calls Try.prog 70 #[.int .i64 kind, v] w fun e w' => ∃ v', e = .returned v' ∧ Own w' w.heap.size v' (sumP kind ls.flatten) ∧ Ext w w' := by
  have HL := Lib.hid hls
  have HK := Lib.hid hk
  obtain ⟨A, cap, rfl, hle, hm, hz⟩ := hls
  clear hz hk
  unfold maxLen at hm
  obtain ⟨N, hN⟩ : ∃ N, N = ls.length := ⟨_, rfl⟩
  rw [← hN] at HL hle ⊢
  have HN := Lib.hid hN
  have HT := Lib.hid ht
  clear hN ht
  go_enter Try.func70, Try.ntmps70
  go_wp2_with (go_at_call 13; refine (new_c _ _ HK.out).mono ?_; rintro e w1 ⟨g, rfl, hg, hx1, B1⟩)
  have HG := Lib.hid hg
  clear hg
  go_loopw [8, 16] (fun _ i W => ∃ k : Nat, k ≤ N ∧ i = .int .i64 k ∧ BoxF W g (hashS kind (feedH kind (initH kind) (ls.take k).flatten) ((ls.take k).flatten.length : Int)) ∧ Ext w W) (fun _ i _ => N - (intOf i).toNat)
  case atStart => exact ⟨0, Nat.zero_le _, rfl, B1, hx1⟩
  case round =>
    clear B1 hx1
    obtain ⟨k, hk, rfl, BK, hx⟩ := hrel
    have HBK := Lib.hid BK
    have HX := Lib.hid hx
    clear BK
    by_cases hkN : k < N
    · have hb : (k : Int) < (N : Int) := by omega
      obtain ⟨b, o, hA, hn1, hcs⟩ := (HL.out.ext hx).at_ (by omega)
      obtain ⟨b', o', hA', hn2, hcs0⟩ := HL.out.at_ (by omega)
      clear hn1 hn2
      obtain ⟨u, hu, hru⟩ := hcs0 k hkN
      subst hA
      cases hA'
      have hcu := hx.cell hu
      have hf := flat_take ls k (by have := HN.out; omega)
      have hfl := flat_le ls (k + 1)
      have hfl2 : (ls.take (k + 1)).flatten.length = (ls.take k).flatten.length + (ls.getD k []).length := by rw [hf, List.length_append]
      generalize ls.getD k [] = L at hru hf hfl2
      obtain ⟨Au, cu, rfl, hleu, hmu, hzu⟩ := id hru
      have HRU := Lib.hid hru
      have HF := Lib.hid hf
      have HFL := Lib.hid hfl
      have HFL2 := Lib.hid hfl2
      clear hzu hu hcs hcs0 hru hf hfl hfl2 hx
      go_wp2_with (go_at_call 23; refine (write_c _ g kind _ _ _ L HBK.out (goodH_feed kind _ (goodH_init kind)) (by rcases HK.out with h | h <;> omega) (HRU.out.ext HX.out) (HRU.out.far HG.out) (by have h1 := HFL.out; have h2 := HFL2.out; have h3 := HT.out; omega)).mono ?_; rintro e w2 ⟨rfl, O2, B2⟩)
      rw [← feedH_append, ← HF.out, ← HFL2.out] at B2
      go_roundw
      case rel => exact ⟨k + 1, by omega, by go_num, B2, HX.out.on O2 HG.out⟩
      case measure => simp [intOf]; omega
    · obtain rfl : k = N := by omega
      have e : ls.take k = ls := List.take_of_length_le (by have := HN.out; omega)
      rw [e] at HBK
      clear e
      go_wp2_with (go_at_call 25; refine (sum_c _ g kind _ _ HBK.out (goodH_feed kind _ (goodH_init kind)) (by rcases HK.out with h | h <;> omega) (by have h3 := HT.out; omega)).mono ?_; rintro e w3 ⟨v3, rfl, OW3, hx3⟩)
      go_ret
      exact ⟨_, rfl, OW3.more (Ext.size hx), hx.trans hx3⟩

/-- A slice's value, taken apart. -/
theorem Own.shape {base : Nat} {w : World} {v : Value} {l : List UInt8} (h : Own w base v l) : ∃ A m c, v = .slice A m c := by obtain ⟨A, c, rfl, _⟩ := h.rd; exact ⟨_, _, _, rfl⟩
theorem Rd.shape {w : World} {v : Value} {l : List UInt8} (h : Rd w v l) : ∃ A m c, v = .slice A m c := by obtain ⟨A, c, rfl, _⟩ := h; exact ⟨_, _, _, rfl⟩
theorem hash_d (w : World) (kind : Int) (v : Value) (ls : List (List UInt8)) (hk : kind = 1 ∨ kind = 2) (hls : Lists w v ls) (ht : ls.flatten.length ≤ 1000000) :
    Calls Try.prog 70 #[.int .i64 kind, v] w fun e w' => ∃ A m c, e = .returned (.slice A m c) ∧ Own w' w.heap.size (.slice A m c) (sumP kind ls.flatten) ∧ Ext w w' := by
  refine (hash_c w kind v ls hk hls ht).mono ?_
  rintro e w' ⟨v', rfl, h2, h3⟩
  obtain ⟨A, m, c, rfl⟩ := h2.shape
  exact ⟨A, m, c, rfl, h2, h3⟩
theorem xor_d (w : World) (va vb : Value) (a b : List UInt8) (ha : Rd w va a) (hb : Rd w vb b) (h0 : 0 < a.length) (hab : a.length ≤ b.length) (h1 : a.length ≤ 1000) :
    Calls Try.prog 72 #[va, vb] w fun e w' => ∃ A m c, e = .returned (.slice A m c) ∧ Rd w' (.slice A m c) (xorL a b) ∧ Ext w w' := by
  refine (xor_c w va vb a b ha hb h0 hab h1).mono ?_
  rintro e w' ⟨v', rfl, h2, h3⟩
  obtain ⟨A, m, c, rfl⟩ := h2.shape
  exact ⟨A, m, c, rfl, h2, h3⟩

set_option maxRecDepth 100000 in
theorem mask_c (w : World) (kind : Int) (vn vs : Value) (n s : List UInt8) (hk : kind = 1 ∨ kind = 2) (hn : Rd w vn n) (hs : Rd w vs s) (h1 : n.length ≤ 10000) (h2 : s.length ≤ 10000) :
    Calls Try.prog 73 #[.int .i64 kind, vn, vs] w fun e w' => ∃ v', e = .returned v' ∧ Own w' w.heap.size v' (mixP kind n s) ∧ Ext w w' := by
  have HNN := Lib.hid hn
  have HS := Lib.hid hs
  obtain ⟨An, mn, cn, rfl⟩ := hn.shape
  obtain ⟨As, ms, cs, rfl⟩ := hs.shape
  clear hn hs
  rcases hk with rfl | rfl
  · rw [show mixP 1 n s = sumP 1 (n ++ s) by unfold mixP; rw [if_pos rfl]]
    go_enter Try.func73, Try.ntmps73
    go_wp2_with (go_at_call 70; refine (hash_c _ 1 _ [n, s] (.inl rfl) (lists2 w _ _ n s HNN.out HS.out _ _ rfl) (by rw [List.flatten_cons, List.flatten_cons, List.flatten_nil, List.append_nil, List.length_append]; omega)).mono ?_; rintro e w2 ⟨v2, rfl, ho2, hx2⟩)
    go_ret
    rw [show [n, s].flatten = n ++ s by simp] at ho2
    exact ⟨_, rfl, ho2.more (by simp), ((Ext.refl w).alloc _).trans hx2⟩
  · rw [show mixP 2 n s = sumP 2 (s ++ n) by unfold mixP; rw [if_neg (by decide)]]
    go_enter Try.func73, Try.ntmps73
    go_wp2_with (go_at_call 70; refine (hash_c _ 2 _ [s, n] (.inr rfl) (lists2 w _ _ s n HS.out HNN.out _ _ rfl) (by rw [List.flatten_cons, List.flatten_cons, List.flatten_nil, List.append_nil, List.length_append]; omega)).mono ?_; rintro e w2 ⟨v2, rfl, ho2, hx2⟩)
    go_ret
    rw [show [s, n].flatten = s ++ n by simp] at ho2
    exact ⟨_, rfl, ho2.more (by simp), ((Ext.refl w).alloc _).trans hx2⟩

theorem size_c (w : World) (kind x : Int) (hx : (sizeK kind : Int) = x) :
    Calls Try.prog 69 #[.int .i64 kind] w fun e w' => e = .returned (.int .i64 x) ∧ w = w' := by
  by_cases h1 : kind = 1
  · subst h1
    obtain rfl : x = 20 := by rw [← hx]; rfl
    clear hx
    go_enter Try.func69, Try.ntmps69
    go_wp2_with fail
    go_ret
    exact ⟨rfl, rfl⟩
  · by_cases h2 : kind = 2
    · subst h2
      obtain rfl : x = 32 := by rw [← hx]; rfl
      clear hx
      go_enter Try.func69, Try.ntmps69
      go_wp2_with fail
      go_ret
      exact ⟨rfl, rfl⟩
    · obtain rfl : x = 0 := by rw [← hx]; simp [sizeK, h1, h2]
      have e1 : (kind == 1) = false := by simpa using h1
      have e2 : (kind == 2) = false := by simpa using h2
      clear hx
      go_enter Try.func69, Try.ntmps69
      go_wp2_with fail
      go_ret
      exact ⟨rfl, rfl⟩

theorem equal_c (w : World) (a b : Value) (l m : List UInt8) (ha : Rd w a l) (hb : Rd w b m) (r : Bool) (hr : (l == m) = r) :
    Calls Try.prog 71 #[a, b] w fun e w' => e = .returned (.bool r) ∧ w = w' := by
  have HA := Lib.hid ha
  have HB := Lib.hid hb
  have HR := Lib.hid hr
  clear ha hb hr
  go_enter Try.func71, Try.ntmps71
  go_wp2_with (first | ((with_reducible show wpList _ _ _ (⟨some 6, _, _, _, _, _⟩ :: _) _ _); refine wpl_str bt HA.out rfl _ rfl rfl ?_) | ((with_reducible show wpList _ _ _ (⟨some 8, _, _, _, _, _⟩ :: _) _ _); refine wpl_str bt HB.out rfl _ rfl rfl ?_))
  go_ret
  refine ⟨?_, rfl⟩
  rw [← HR.out]
  show Ending.returned (Value.bool ((strL l).toList == (strL m).toList)) = _
  rw [strL_tl, strL_tl]

/-- Is a text empty? In the walk's own forms. -/
theorem str_empty {s : ByteArray} (h : s.data.toList = []) : s = ByteArray.empty := by
  apply ByteArray.ext
  exact Array.toList_eq_nil_iff.1 h
theorem str_ne {s : ByteArray} (h : s.data.toList ≠ []) : s.toList.isEmpty = false := by
  rw [ByteArray.toList_eq]
  simpa using h

set_option maxRecDepth 100000 in
set_option maxHeartbeats 1000000 in
theorem stored_c (w : World) (kind : Int) (s : ByteArray) (hs : s.size ≤ 1000000) :
    Calls Try.prog 28 #[.int .i64 kind, .string s] w fun e w' => ∃ v', e = .returned (.tuple #[v', .int .i64 (storedE kind)]) ∧ Own w' w.heap.size v' (storedP kind s.data.toList) ∧ Ext w w' := by
  by_cases hk : kind = 1 ∨ kind = 2
  · have eE : storedE kind = 0 := by unfold storedE; rw [if_pos hk]
    rw [eE]
    have hz : ((sizeK kind : Nat) : Int) ≠ 0 := by rcases hk with rfl | rfl <;> decide
    obtain ⟨z, hq⟩ : ∃ z : Int, (sizeK kind : Int) = z := ⟨_, rfl⟩
    have hz1 : (z == 0) = false := by simpa [← hq] using hz
    have HQ := Lib.hid hq
    have HK := Lib.hid hk
    clear eE hz hq hk
    by_cases he : s.data.toList = []
    · obtain rfl := str_empty he
      have eP : storedP kind ByteArray.empty.data.toList = [] := by simp [storedP]
      rw [eP]
      clear eP he
      go_enter Try.func28, Try.ntmps28
      go_wp2_with (go_at_call 69; refine (size_c _ _ z HQ.out).mono ?_; rintro e w1 ⟨rfl, rfl⟩)
      go_ret2
      exact ⟨_, rfl, Own.nil _ _, Ext.refl _⟩
    · have eP : storedP kind s.data.toList = sumP kind (sumP kind s.data.toList) := by unfold storedP; rw [if_pos ⟨HK.out, he⟩]
      rw [eP]
      have hne := str_ne he
      have hsz : s.data.toList.length = s.size := size_toList s
      have HSZ := Lib.hid hsz
      clear eP he hsz
      go_enter Try.func28, Try.ntmps28
      go_wp2_with (first
        | (go_at_call 69; refine (size_c _ _ z HQ.out).mono ?_; rintro e w1 ⟨rfl, rfl⟩)
        | ((with_reducible show wpList _ _ _ (⟨some 14, _, _, _, _, _⟩ :: _) _ _); refine wpl_bytes bt s (by unfold maxLen; omega) rfl _ rfl rfl ?_; intro A1 m1 c1 w1 hr1 _ hx1; have tok1 : True := trivial)
        | (go_at_call 70; have _t := tok1; refine (hash_d _ kind _ [s.data.toList] HK.out (lists1 w1 _ _ hr1 _ _ rfl) (by rw [List.flatten_cons, List.flatten_nil, List.append_nil, HSZ.out]; exact hs)).mono ?_; rintro e w2 ⟨A2, m2, c2, rfl, ho2, hx2⟩; clear tok1; simp only [List.flatten_cons, List.flatten_nil, List.append_nil] at ho2)
        | (go_at_call 70; refine (hash_c _ kind _ [sumP kind s.data.toList] HK.out (lists1 w2 _ _ ho2.rd _ _ rfl) (by rw [List.flatten_cons, List.flatten_nil, List.append_nil, sumP_len kind _ HK.out]; have := sizeK_le kind; omega)).mono ?_; rintro e w3 ⟨v3, rfl, ho3, hx3⟩)
        | fail)
      go_ret2
      simp only [List.flatten_cons, List.flatten_nil, List.append_nil] at ho3
      have hx02 := (hx1.alloc _).trans hx2
      exact ⟨_, rfl, ho3.more (Nat.le_trans (Ext.size hx02) (by simp)), (hx02.alloc _).trans hx3⟩
  · have eE : storedE kind = 2 := by unfold storedE; rw [if_neg hk]
    have eP : storedP kind s.data.toList = [] := by unfold storedP; rw [if_neg (fun h => hk h.1)]
    have hz : (sizeK kind : Int) = 0 := by unfold sizeK; rw [if_neg (fun h => hk (.inl h)), if_neg (fun h => hk (.inr h))]; rfl
    rw [eE, eP]
    have HZ := Lib.hid hz
    clear eE eP hk hz
    go_enter Try.func28, Try.ntmps28
    go_wp2_with (go_at_call 69; refine (size_c _ _ 0 HZ.out).mono ?_; rintro e w1 ⟨rfl, rfl⟩)
    go_ret2
    exact ⟨_, rfl, Own.nil _ _, Ext.refl _⟩

set_option maxRecDepth 100000 in
set_option maxHeartbeats 1000000 in
theorem response_c (w : World) (kind : Int) (s : ByteArray) (vn : Value) (n : List UInt8) (hk : kind = 1 ∨ kind = 2) (hs : s.size ≤ 1000000) (hn : Rd w vn n) :
    Calls Try.prog 68 #[.int .i64 kind, .string s, vn] w fun e w' => ∃ v', e = .returned (.tuple #[v', .int .i64 (checkE n)]) ∧ Rd w' v' (respP kind s.data.toList n) ∧ Ext w w' := by
  have HK := Lib.hid hk
  have HNN := Lib.hid hn
  clear hk hn
  rcases checkE_or n with h | h
  · have hl := checkE_len h
    rw [h]
    by_cases he : s.data.toList = []
    · have eP : respP kind s.data.toList n = [] := by unfold respP; rw [if_neg (fun h => h.2 he)]
      rw [eP]
      obtain rfl := str_empty he
      have H := Lib.hid h
      clear h he eP hl
      go_enter Try.func68, Try.ntmps68
      go_wp2_with (go_at_call 32; refine (check_c _ _ n 0 HNN.out H.out).mono ?_; rintro e w1 ⟨rfl, rfl⟩)
      go_ret2
      exact ⟨_, rfl, Rd.nil _, Ext.refl _⟩
    · have eP : respP kind s.data.toList n = xorL (sumP kind s.data.toList) (mixP kind n (storedP kind s.data.toList)) := by unfold respP; rw [if_pos ⟨h, he⟩]
      rw [eP]
      have hne := str_ne he
      have hsz : s.data.toList.length = s.size := size_toList s
      have HSZ := Lib.hid hsz
      have H := Lib.hid h
      have eE : storedE kind = 0 := by unfold storedE; rw [if_pos HK.out]
      have HE := Lib.hid eE
      have HL := Lib.hid hl
      clear eP he hsz h eE hl
      have hs1 := sumP_len kind s.data.toList HK.out
      have hs2 := mixP_len kind n (storedP kind s.data.toList) HK.out
      have hs3 := sizeK_le kind
      have hs4 : 0 < sizeK kind := by rcases HK.out with rfl | rfl <;> decide
      have hs5 := storedP_le kind s.data.toList
      have HS1 := Lib.hid hs1
      have HS2 := Lib.hid hs2
      clear hs1 hs2
      go_enter Try.func68, Try.ntmps68
      go_wp2_with (first
        | (go_at_call 32; refine (check_c _ _ n 0 HNN.out H.out).mono ?_; rintro e w1 ⟨rfl, rfl⟩)
        | (go_at_call 28; refine (stored_c _ kind s hs).mono ?_; rintro e w1 ⟨v1, rfl, ho1, hx1⟩; rw [HE.out])
        | ((with_reducible show wpList _ _ _ (⟨some 26, _, _, _, _, _⟩ :: _) _ _); refine wpl_bytes bt s (by unfold maxLen; omega) rfl _ rfl rfl ?_; intro A2 m2 c2 w2 hr2 _ hx2)
        | (go_at_call 70; refine (hash_c _ kind _ [s.data.toList] HK.out (lists1 w2 _ _ hr2 _ _ rfl) (by rw [List.flatten_cons, List.flatten_nil, List.append_nil, HSZ.out]; exact hs)).mono ?_; rintro e w3 ⟨v3, rfl, ho3, hx3⟩; simp only [List.flatten_cons, List.flatten_nil, List.append_nil] at ho3; have hx23 := (hx2.alloc _).trans hx3; have hx03 := hx1.trans hx23)
        | (go_at_call 73; refine (mask_c _ kind _ _ n _ HK.out (HNN.out.ext hx03) (ho1.rd.ext hx23) (by have := HL.out; omega) (by omega)).mono ?_; rintro e w4 ⟨v4, rfl, ho4, hx4⟩)
        | (go_at_call 72; refine (xor_c _ _ _ _ _ (ho3.rd.ext hx4) ho4.rd (by rw [HS1.out]; omega) (by rw [HS1.out, HS2.out]; exact Nat.le_refl _) (by rw [HS1.out]; omega)).mono ?_; rintro e w5 ⟨v5, rfl, ho5, hx5⟩)
        | fail)
      go_ret2
      exact ⟨_, rfl, ho5, (hx03.trans hx4).trans hx5⟩
  · have eP : respP kind s.data.toList n = [] := by unfold respP; rw [if_neg (fun h2 => by rw [h] at h2; exact absurd h2.1 (by decide))]
    rw [eP, h]
    have H := Lib.hid h
    clear h eP
    go_enter Try.func68, Try.ntmps68
    go_wp2_with (go_at_call 32; refine (check_c _ _ n 2 HNN.out H.out).mono ?_; rintro e w1 ⟨rfl, rfl⟩)
    go_ret2
    exact ⟨_, rfl, Rd.nil _, Ext.refl _⟩

theorem ntv_c (w : World) (s : ByteArray) (vn : Value) (n : List UInt8) (hs : s.size ≤ 1000000) (hn : Rd w vn n) :
    Calls Try.prog 26 #[.string s, vn] w fun e w' => ∃ v', e = .returned (.tuple #[v', .int .i64 (checkE n)]) ∧ Rd w' v' (respP 1 s.data.toList n) ∧ Ext w w' := by
  have HNN := Lib.hid hn
  clear hn
  go_enter Try.func26, Try.ntmps26
  go_wp2_with (go_at_call 68; refine (response_c _ 1 s _ n (.inl rfl) hs HNN.out).mono ?_; rintro e w1 ⟨v1, rfl, hr1, hx1⟩)
  go_ret2
  exact ⟨_, rfl, hr1, hx1⟩
theorem fast_c (w : World) (s : ByteArray) (vn : Value) (n : List UInt8) (hs : s.size ≤ 1000000) (hn : Rd w vn n) :
    Calls Try.prog 34 #[.string s, vn] w fun e w' => ∃ v', e = .returned (.tuple #[v', .int .i64 (checkE n)]) ∧ Rd w' v' (respP 2 s.data.toList n) ∧ Ext w w' := by
  have HNN := Lib.hid hn
  clear hn
  go_enter Try.func34, Try.ntmps34
  go_wp2_with (go_at_call 68; refine (response_c _ 2 s _ n (.inr rfl) hs HNN.out).mono ?_; rintro e w1 ⟨v1, rfl, hr1, hx1⟩)
  go_ret2
  exact ⟨_, rfl, hr1, hx1⟩

set_option maxRecDepth 100000 in
set_option maxHeartbeats 1000000 in
theorem right_c (w : World) (kind : Int) (vs vn vr : Value) (s n r : List UInt8) (b : Bool) (er : Int) (hs : Rd w vs s) (hn : Rd w vn n) (hr : Rd w vr r) (hx : rightP kind s n r = (b, er)) :
    Calls Try.prog 29 #[.int .i64 kind, vs, vn, vr] w fun e w' => e = .returned (.tuple #[.bool b, .int .i64 er]) ∧ Ext w w' := by
  have HS := Lib.hid hs
  have HNN := Lib.hid hn
  have HR := Lib.hid hr
  obtain ⟨A, ca, rfl, hla, hma, _, _⟩ := id hs
  obtain ⟨C, cc, rfl, hlc, hmc, _, _⟩ := id hr
  unfold maxLen at hma hmc
  clear hs hn hr
  obtain ⟨z, hq⟩ : ∃ z : Int, (sizeK kind : Int) = z := ⟨_, rfl⟩
  have HQ := Lib.hid hq
  by_cases hk : sizeK kind = 0
  · obtain rfl : z = 0 := by rw [← hq, hk]; rfl
    unfold rightP at hx
    rw [if_pos hk] at hx
    cases hx
    clear hq hk
    go_enter Try.func29, Try.ntmps29
    go_wp2_with (go_at_call 69; refine (size_c _ _ 0 HQ.out).mono ?_; rintro e w1 ⟨rfl, rfl⟩)
    go_ret2
    exact ⟨rfl, Ext.refl _⟩
  · have hz1 : (z == 0) = false := by simp; omega
    have hk2 : kind = 1 ∨ kind = 2 := by
      unfold sizeK at hk
      by_cases h1 : kind = 1
      · exact .inl h1
      · by_cases h2 : kind = 2
        · exact .inr h2
        · rw [if_neg h1, if_neg h2] at hk; exact absurd rfl hk
    have HK := Lib.hid hk2
    have hz32 := sizeK_le kind
    unfold rightP at hx
    rw [if_neg hk] at hx
    rcases checkE_or n with h | h
    · have hl := checkE_len h
      rw [if_neg (by simpa using h)] at hx
      have H := Lib.hid h
      have HL := Lib.hid hl
      clear h hl
      by_cases hs0 : s = []
      · rw [if_pos hs0] at hx
        cases hx
        subst hs0
        clear hq hk hk2
        by_cases hr0 : r = []
        · subst hr0
          go_enter Try.func29, Try.ntmps29
          go_wp2_with (first
            | (go_at_call 69; refine (size_c _ _ z HQ.out).mono ?_; rintro e w1 ⟨rfl, rfl⟩)
            | (go_at_call 32; refine (check_c _ _ n 0 HNN.out H.out).mono ?_; rintro e w1 ⟨rfl, rfl⟩))
          go_ret2
          exact ⟨rfl, Ext.refl _⟩
        · have e1 : r.isEmpty = false := by simpa using hr0
          have e2 : ((r.length : Int) == 0) = false := by simpa using hr0
          rw [e1]
          clear e1 hr0
          go_enter Try.func29, Try.ntmps29
          go_wp2_with (first
            | (go_at_call 69; refine (size_c _ _ z HQ.out).mono ?_; rintro e w1 ⟨rfl, rfl⟩)
            | (go_at_call 32; refine (check_c _ _ n 0 HNN.out H.out).mono ?_; rintro e w1 ⟨rfl, rfl⟩))
          go_ret2
          exact ⟨rfl, Ext.refl _⟩
      · rw [if_neg hs0] at hx
        have e0 : ((s.length : Int) == 0) = false := by simpa using hs0
        by_cases hsl : s.length = sizeK kind
        · have e1 : ((s.length : Int) != z) = false := by simp; omega
          rw [if_neg (by simpa using hsl)] at hx
          by_cases hrl : r.length = sizeK kind
          · have e2 : ((r.length : Int) != z) = false := by simp; omega
            rw [if_neg (by simpa using hrl)] at hx
            injection hx with hx1 hx2
            subst hx2
            have HB := Lib.hid hx1
            have hmx := mixP_len kind n s HK.out
            have h3 : s.length ≤ 32 := by omega
            have h4 : r.length ≤ 32 := by omega
            have h5 : 0 < r.length := by omega
            have h6 : (xorL r (mixP kind n s)).length ≤ 1000 := by rw [xorL_length]; omega
            have h7 : r.length ≤ (mixP kind n s).length := by omega
            clear hx1 hq hk hk2 hsl hrl hmx hs0 hz32
            go_enter Try.func29, Try.ntmps29
            go_wp2_with (first
              | (go_at_call 69; refine (size_c _ _ z HQ.out).mono ?_; rintro e w1 ⟨rfl, rfl⟩)
              | (go_at_call 32; refine (check_c _ _ n 0 HNN.out H.out).mono ?_; rintro e w1 ⟨rfl, rfl⟩)
              | (go_at_call 73; refine (mask_c _ kind _ _ n s HK.out HNN.out HS.out (by have := HL.out; omega) (by omega)).mono ?_; rintro e w4 ⟨v4, rfl, ho4, hx4⟩)
              | (go_at_call 72; refine (xor_d _ _ _ _ _ (HR.out.ext hx4) ho4.rd h5 h7 (by omega)).mono ?_; rintro e w5 ⟨A5, m5, c5, rfl, ho5, hx5⟩)
              | (go_at_call 70; refine (hash_c _ kind _ [xorL r (mixP kind n s)] HK.out (lists1 w5 _ _ ho5 _ _ rfl) (by rw [List.flatten_cons, List.flatten_nil, List.append_nil]; omega)).mono ?_; rintro e w6 ⟨v6, rfl, ho6, hx6⟩; simp only [List.flatten_cons, List.flatten_nil, List.append_nil] at ho6; have hx56 := ((hx4.trans hx5).alloc _).trans hx6)
              | (go_at_call 71; refine (equal_c _ _ _ _ _ ho6.rd (HS.out.ext hx56) b HB.out).mono ?_; rintro e w7 ⟨rfl, rfl⟩)
              | fail)
            go_ret2
            exact ⟨rfl, hx56⟩
          · have e2 : ((r.length : Int) != z) = true := by simp; omega
            rw [if_pos (by simpa using hrl)] at hx
            cases hx
            clear hq hk hk2 hsl hrl hs0
            go_enter Try.func29, Try.ntmps29
            go_wp2_with (first
              | (go_at_call 69; refine (size_c _ _ z HQ.out).mono ?_; rintro e w1 ⟨rfl, rfl⟩)
              | (go_at_call 32; refine (check_c _ _ n 0 HNN.out H.out).mono ?_; rintro e w1 ⟨rfl, rfl⟩))
            go_ret2
            exact ⟨rfl, Ext.refl _⟩
        · have e1 : ((s.length : Int) != z) = true := by simp; omega
          rw [if_pos (by simpa using hsl)] at hx
          cases hx
          clear hq hk hk2 hsl hs0
          go_enter Try.func29, Try.ntmps29
          go_wp2_with (first
            | (go_at_call 69; refine (size_c _ _ z HQ.out).mono ?_; rintro e w1 ⟨rfl, rfl⟩)
            | (go_at_call 32; refine (check_c _ _ n 0 HNN.out H.out).mono ?_; rintro e w1 ⟨rfl, rfl⟩))
          go_ret2
          exact ⟨rfl, Ext.refl _⟩
    · rw [if_pos (by rw [h]; decide)] at hx
      cases hx
      have H := Lib.hid h
      clear h hq hk hk2
      go_enter Try.func29, Try.ntmps29
      go_wp2_with (first
        | (go_at_call 69; refine (size_c _ _ z HQ.out).mono ?_; rintro e w1 ⟨rfl, rfl⟩)
        | (go_at_call 32; refine (check_c _ _ n 2 HNN.out H.out).mono ?_; rintro e w1 ⟨rfl, rfl⟩))
      go_ret2
      exact ⟨rfl, Ext.refl _⟩
end Go.Proofs.Ytimelnihiocngaa
