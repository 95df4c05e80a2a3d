/- Changes that are read: both sides. (Printed by gen_trF.py.) -/
import Derived.Test.YtdjnjhlgpflcjaaTrE
namespace Go.Proofs.Ytdjnjhlgpflcjaa
open Go.RowKit

theorem one_g (w : World) (k : Int) (s : List UInt8) (hk : 0 ≤ k ∧ k ≤ 5) (hs : s.length ≤ 100000000) : Calls Try.prog 24 #[.int .u8 k, .string (strL s)] w (RetOne w (oneP k s)) := by
  have hk6 : k = 0 ∨ k = 1 ∨ k = 2 ∨ k = 3 ∨ k = 4 ∨ k = 5 := by omega
  rcases hk6 with rfl | rfl | rfl | rfl | rfl | rfl
  · obtain ⟨x1, n1, r1, h1⟩ : ∃ x1 n1 r1, readT s = (x1, n1, r1) := ⟨_, _, _, rfl⟩
    by_cases hr1 : r1 = 0
    · subst hr1
      obtain ⟨x2, n2, r2, h2⟩ : ∃ x2 n2 r2, readT (s.drop n1) = (x2, n2, r2) := ⟨_, _, _, rfl⟩
      by_cases hr2 : r2 = 0
      · subst hr2
        by_cases hn2 : n2 = (s.drop n1).length
        · exact one_0m w s hs x1 n1 h1 x2 n2 h2 hn2 _ rfl
        · exact one_0n w s hs x1 n1 h1 x2 n2 h2 hn2
      · exact one_0r w s hs x1 n1 h1 x2 n2 r2 h2 hr2
    · exact one_0e w s hs x1 n1 r1 h1 hr1
  · skip
    obtain ⟨x2, n2, r2, h2⟩ : ∃ x2 n2 r2, readT (s) = (x2, n2, r2) := ⟨_, _, _, rfl⟩
    by_cases hr2 : r2 = 0
    · subst hr2
      by_cases hn2 : n2 = (s).length
      · exact one_1m w s hs x2 n2 h2 hn2 _ rfl
      · exact one_1n w s hs x2 n2 h2 hn2
    · exact one_1r w s hs x2 n2 r2 h2 hr2
  · skip
    obtain ⟨x2, n2, r2, h2⟩ : ∃ x2 n2 r2, readT (s) = (x2, n2, r2) := ⟨_, _, _, rfl⟩
    by_cases hr2 : r2 = 0
    · subst hr2
      by_cases hn2 : n2 = (s).length
      · exact one_2m w s hs x2 n2 h2 hn2 _ rfl
      · exact one_2n w s hs x2 n2 h2 hn2
    · exact one_2r w s hs x2 n2 r2 h2 hr2
  · by_cases hp : s.length = 0
    · exact one_3l w s hp
    · have hp2 : 0 < s.length := by omega
      by_cases h0 : s.getD 0 0 = 0
      · skip
        obtain ⟨x2, n2, r2, h2⟩ : ∃ x2 n2 r2, readT (s.drop 1) = (x2, n2, r2) := ⟨_, _, _, rfl⟩
        by_cases hr2 : r2 = 0
        · subst hr2
          by_cases hn2 : n2 = (s.drop 1).length
          · exact one_3m w s hs hp2 h0 x2 n2 h2 hn2 _ rfl
          · exact one_3n w s hs hp2 h0 x2 n2 h2 hn2
        · exact one_3r w s hs hp2 h0 x2 n2 r2 h2 hr2
      · exact one_3z w s hs hp2 h0
  · skip
    obtain ⟨x2, n2, r2, h2⟩ : ∃ x2 n2 r2, readT (s) = (x2, n2, r2) := ⟨_, _, _, rfl⟩
    by_cases hr2 : r2 = 0
    · subst hr2
      by_cases hn2 : n2 = (s).length
      · exact one_4m w s hs x2 n2 h2 hn2 _ rfl
      · exact one_4n w s hs x2 n2 h2 hn2
    · exact one_4r w s hs x2 n2 r2 h2 hr2
  · skip
    obtain ⟨x2, n2, r2, h2⟩ : ∃ x2 n2 r2, readT (s) = (x2, n2, r2) := ⟨_, _, _, rfl⟩
    by_cases hr2 : r2 = 0
    · subst hr2
      by_cases hn2 : n2 = (s).length
      · exact one_5m w s hs x2 n2 h2 hn2 _ rfl
      · exact one_5n w s hs x2 n2 h2 hn2
    · exact one_5r w s hs x2 n2 r2 h2 hr2

theorem one_r (w : World) (v : Value) (k : Int) (s : List UInt8) (hk : 0 ≤ k ∧ k ≤ 5) (hr : Rd w v s) : Calls Try.prog 32 #[.int .i64 k, v] w (RetOne w (oneP k s)) := by
  have hk6 : k = 0 ∨ k = 1 ∨ k = 2 ∨ k = 3 ∨ k = 4 ∨ k = 5 := by omega
  rcases hk6 with rfl | rfl | rfl | rfl | rfl | rfl
  · obtain ⟨x1, n1, r1, h1⟩ : ∃ x1 n1 r1, readT s = (x1, n1, r1) := ⟨_, _, _, rfl⟩
    by_cases hr1 : r1 = 0
    · subst hr1
      obtain ⟨x2, n2, r2, h2⟩ : ∃ x2 n2 r2, readT (s.drop n1) = (x2, n2, r2) := ⟨_, _, _, rfl⟩
      by_cases hr2 : r2 = 0
      · subst hr2
        by_cases hn2 : n2 = (s.drop n1).length
        · exact oner_0m w v s hr x1 n1 h1 x2 n2 h2 hn2 _ rfl
        · exact oner_0n w v s hr x1 n1 h1 x2 n2 h2 hn2
      · exact oner_0r w v s hr x1 n1 h1 x2 n2 r2 h2 hr2
    · exact oner_0e w v s hr x1 n1 r1 h1 hr1
  · skip
    obtain ⟨x2, n2, r2, h2⟩ : ∃ x2 n2 r2, readT (s) = (x2, n2, r2) := ⟨_, _, _, rfl⟩
    by_cases hr2 : r2 = 0
    · subst hr2
      by_cases hn2 : n2 = (s).length
      · exact oner_1m w v s hr x2 n2 h2 hn2 _ rfl
      · exact oner_1n w v s hr x2 n2 h2 hn2
    · exact oner_1r w v s hr x2 n2 r2 h2 hr2
  · skip
    obtain ⟨x2, n2, r2, h2⟩ : ∃ x2 n2 r2, readT (s) = (x2, n2, r2) := ⟨_, _, _, rfl⟩
    by_cases hr2 : r2 = 0
    · subst hr2
      by_cases hn2 : n2 = (s).length
      · exact oner_2m w v s hr x2 n2 h2 hn2 _ rfl
      · exact oner_2n w v s hr x2 n2 h2 hn2
    · exact oner_2r w v s hr x2 n2 r2 h2 hr2
  · by_cases hp : s.length = 0
    · exact oner_3l w v s hr hp
    · have hp2 : 0 < s.length := by omega
      by_cases h0 : s.getD 0 0 = 0
      · skip
        obtain ⟨x2, n2, r2, h2⟩ : ∃ x2 n2 r2, readT (s.drop 1) = (x2, n2, r2) := ⟨_, _, _, rfl⟩
        by_cases hr2 : r2 = 0
        · subst hr2
          by_cases hn2 : n2 = (s.drop 1).length
          · exact oner_3m w v s hr hp2 h0 x2 n2 h2 hn2 _ rfl
          · exact oner_3n w v s hr hp2 h0 x2 n2 h2 hn2
        · exact oner_3r w v s hr hp2 h0 x2 n2 r2 h2 hr2
      · exact oner_3z w v s hr hp2 h0
  · skip
    obtain ⟨x2, n2, r2, h2⟩ : ∃ x2 n2 r2, readT (s) = (x2, n2, r2) := ⟨_, _, _, rfl⟩
    by_cases hr2 : r2 = 0
    · subst hr2
      by_cases hn2 : n2 = (s).length
      · exact oner_4m w v s hr x2 n2 h2 hn2 _ rfl
      · exact oner_4n w v s hr x2 n2 h2 hn2
    · exact oner_4r w v s hr x2 n2 r2 h2 hr2
  · skip
    obtain ⟨x2, n2, r2, h2⟩ : ∃ x2 n2 r2, readT (s) = (x2, n2, r2) := ⟨_, _, _, rfl⟩
    by_cases hr2 : r2 = 0
    · subst hr2
      by_cases hn2 : n2 = (s).length
      · exact oner_5m w v s hr x2 n2 h2 hn2 _ rfl
      · exact oner_5n w v s hr x2 n2 h2 hn2
    · exact oner_5r w v s hr x2 n2 r2 h2 hr2

theorem one_at (w : World) (k : Int) (s : List UInt8) (c : Option Chg) (hk : 0 ≤ k ∧ k ≤ 5) (hs : s.length ≤ 100000000) (h : oneP k s = c) : Calls Try.prog 24 #[.int .u8 k, .string (strL s)] w (RetOne w c) := h ▸ one_g w k s hk hs
theorem one_at_r (w : World) (v : Value) (k : Int) (s : List UInt8) (c : Option Chg) (hk : 0 ≤ k ∧ k ≤ 5) (hr : Rd w v s) (h : oneP k s = c) : Calls Try.prog 32 #[.int .i64 k, v] w (RetOne w c) := h ▸ one_r w v k s hk hr
def chgsC (cs : List Chg) : List (List Value) := cs.map chgC
theorem chgsC_length (cs : List Chg) : (chgsC cs).length = cs.length := by simp [chgsC]
def OwnC (w : World) (base : Nat) (v : Value) (cs : List Chg) : Prop := OwnR 28 3 w base v (chgsC cs)
def RetRead (w : World) (r : List Chg × Int) (e : Ending) (w' : World) : Prop := ∃ v, e = .returned (.tuple #[v, .int .i64 r.2]) ∧ OwnC w' w.heap.size v r.1 ∧ Ext w w'
theorem OwnC.ext {w w' : World} {base : Nat} {v : Value} {cs : List Chg} (h : OwnC w base v cs) (k : Ext w w') : OwnC w' base v cs := OwnR.ext h k
theorem OwnC.shape {w : World} {base : Nat} {v : Value} {cs : List Chg} (h : OwnC w base v cs) : ∃ A c, v = .slice A cs.length c ∧ cs.length ≤ c ∧ c ≤ maxLen := by
  obtain ⟨A, c, h1, h2, h3⟩ := (OwnR.recs h).shape
  rw [chgsC_length] at h1 h2
  exact ⟨A, c, h1, h2, h3⟩
theorem onto_nil (r : List Chg × Int) (h : r.2 = 0 ∨ r.1 = []) : onto [] r = r := by
  obtain ⟨a, b⟩ := r
  unfold onto
  dsimp only at h ⊢
  by_cases hb : b = 0
  · rw [if_pos hb, hb]; rfl
  · rw [if_neg hb]
    rcases h with h | h
    · exact absurd h hb
    · rw [h]
theorem readC_err : ∀ (f : Nat) (l : List UInt8), (readC f l).2 = 0 ∨ (readC f l).1 = []
  | 0, _ => .inl rfl
  | f + 1, l => by
    unfold readC
    split
    · exact .inl rfl
    · split
      · exact .inr rfl
      · split
        · split
          · exact .inr rfl
          · split
            · exact .inl rfl
            · exact .inr rfl
        · exact .inr rfl
theorem onto_err (a : List Chg) (e : Int) (h : e ≠ 0) : onto a ([], e) = ([], e) := by unfold onto; rw [if_neg h]
def lenB (v : Value) : Nat := match v with | .slice _ n _ => n | _ => 0

set_option maxRecDepth 100000 in
set_option maxHeartbeats 4000000 in
theorem read_g (w : World) (v : Value) (l : List UInt8) (hr : Rd w v l) (hl : l.length ≤ 10000000) : Calls Try.prog 9 #[v] w (RetRead w (readCs l)) := by
  have hr0 := hr
  obtain ⟨A, cap, rfl, _⟩ := hr
  obtain ⟨F, hF⟩ : ∃ F, F = readCs l := ⟨_, rfl⟩
  have HF := Lib.hid hF
  rw [← hF]
  clear hF
  have HL := Lib.hid hl
  clear hl
  go_enter Try.func9, Try.ntmps9
  go_wp2_with fail
  have OW0 : OwnC w w.heap.size (.slice none 0 0) [] := OwnR.nil _ _ _ _
  go_loopw [0, 4] (fun b u W => ∃ (st : List UInt8) (done : List Chg) (fuel : Nat), Rd w b st ∧ OwnC W w.heap.size u done ∧ Ext w W ∧ Hid (st.length ≤ fuel) ∧ Hid (done.length + st.length ≤ l.length) ∧ Hid (readCs l = onto done (readC fuel st))) (fun b _ _ => lenB b)
  case atStart => exact ⟨l, [], l.length, hr0, OW0, Ext.refl _, Lib.hid (Nat.le_refl _), Lib.hid (by simp), Lib.hid (by rw [onto_nil _ (readC_err _ _)]; rfl)⟩
  case round =>
    clear OW0 hr0
    obtain ⟨st, done, fuel, hri, OA, hx, HFU, HDN, HI⟩ := hrel
    obtain ⟨Au, cu, rfl, hu1, hu2⟩ := OA.shape
    obtain ⟨Ab, cb, rfl, hb1, hb2, _, _⟩ := id hri
    have HRI := Lib.hid hri
    have HOA := Lib.hid OA
    have HX := Lib.hid hx
    clear hu1 hu2 hb1 hb2 hri OA hx
    by_cases hp : st.length = 0
    · obtain rfl : st = [] := List.eq_nil_of_length_eq_zero hp
      have hi := HI.out
      rw [readC_nil] at hi
      have hFe : F = (done, 0) := by rw [HF.out, hi]; unfold onto; rw [if_pos rfl, List.append_nil]
      clear hi hp
      subst hFe
      go_wp2_with fail
      go_ret2
      exact ⟨_, rfl, HOA.out, HX.out⟩
    · have hpos : 0 < st.length := by omega
      have hpi : 0 < (st.length : Int) := by omega
      obtain ⟨f, rfl⟩ : ∃ f, fuel = f + 1 := ⟨fuel - 1, by have := HFU.out; omega⟩
      obtain ⟨b0, o0, rfl, hc0⟩ := rd_first HRI.out hpos
      replace hc0 := HX.out.cell hc0
      obtain ⟨x0, hx0⟩ : ∃ x0 : Int, ((st.getD 0 0).toNat : Int) = x0 := ⟨_, rfl⟩
      rw [hx0] at hc0
      have hx0a : 0 ≤ x0 := by omega
      have hx255 : x0 < 256 := by have := (st.getD 0 0).toNat_lt; omega
      by_cases h5 : 5 < (st.getD 0 0).toNat
      · have h5i : 5 < x0 := by omega
        have hFe : F = ([], 5) := by rw [HF.out, HI.out, readC_kind f st hp h5, onto_err _ _ (by decide)]
        subst hFe
        clear h5 hx0 hp
        go_wp2_with fail
        go_ret2
        exact ⟨_, rfl, OwnR.nil _ _ _ _, HX.out⟩
      · have hx0b : x0 ≤ 5 := by omega
        have h5i : ¬ 5 < x0 := by omega
        obtain ⟨x, n, e, ht⟩ : ∃ x n e, readT (st.drop 1) = (x, n, e) := ⟨_, _, _, rfl⟩
        have HT := Lib.hid ht
        have HP := Lib.hid hp
        have H5 := Lib.hid h5
        have HX0 := Lib.hid hx0
        clear hp h5 hx0
        by_cases he : e = 0
        · subst he
          have hlen := readT_len ht
          rw [List.length_drop] at hlen
          have HXL := Lib.hid (show x.length ≤ 100000000 by have := HL.out; have := HDN.out; omega)
          have HXL2 := Lib.hid (show (strL x).size ≤ maxLen by rw [strL_size]; have := HXL.out; unfold maxLen; omega)
          obtain ⟨hn1, hn2, _⟩ := hlen
          have hn3 : 1 + n ≤ st.length := by omega
          have hst : st.length ≤ 10000000 := by have := HL.out; have := HDN.out; omega
          clear ht hn1
          cases hc : oneP x0 x with
          | none =>
            have HC := Lib.hid hc
            have hFe : F = ([], 5) := by rw [HF.out, HI.out, readC_none f st HP.out H5.out HT.out (by rw [HX0.out]; exact HC.out), onto_err _ _ (by decide)]
            subst hFe
            clear hc
            go_wp2_with (first
              | ((with_reducible show wpList _ _ _ (⟨some 19, _, _, _, _, _⟩ :: _) _ _); refine wpl_cut_lo bt HRI.out 1 (by omega) (by omega) rfl _ _ _ rfl rfl rfl ?_; intro A5 m5 k5 hr5; rw [show (1 : Int).toNat = 1 from rfl] at hr5; replace hr5 := Lib.hid hr5)
              | (go_at_call 23; refine (rt_b _ _ _ x n _ (hr5.out.ext HX.out) HT.out).mono ?_; rintro e w3 ⟨rfl, rfl⟩)
              | (go_at_call 24; refine (one_at _ x0 x none ⟨hx0a, hx0b⟩ HXL.out HC.out).mono ?_; rintro e w4 ⟨⟨_, _, _, rfl⟩, hx4⟩)
              | fail)
            go_ret2
            exact ⟨_, rfl, OwnR.nil _ _ _ _, (HX.out.trans hx4).alloc _⟩
          | some c =>
            have HC := Lib.hid hc
            have hI2 : readCs l = onto (done ++ [c]) (readC f (st.drop (1 + n))) := by rw [HI.out, readC_some f st HP.out H5.out HT.out (by rw [HX0.out]; exact HC.out), onto_onto]
            have HI2 := Lib.hid hI2
            clear hc hI2
            obtain ⟨ck, cn, cv⟩ := c
            have tok : True := trivial
            go_wp2_with (first
              | ((with_reducible show wpList _ _ _ (⟨some 19, _, _, _, _, _⟩ :: _) _ _); refine wpl_cut_lo bt HRI.out 1 (by omega) (by omega) rfl _ _ _ rfl rfl rfl ?_; intro A5 m5 k5 hr5; rw [show (1 : Int).toNat = 1 from rfl] at hr5; replace hr5 := Lib.hid hr5)
              | (go_at_call 23; refine (rt_b _ _ _ x n _ (hr5.out.ext HX.out) HT.out).mono ?_; rintro e w3 ⟨rfl, rfl⟩)
              | (go_at_call 24; refine (one_at _ x0 x (some (ck, cn, cv)) ⟨hx0a, hx0b⟩ HXL.out HC.out).mono ?_; rintro e w4 ⟨he, hx4⟩; replace he : e = .returned (.tuple #[.agg #[.int .i64 ck, .string (strL cn), .string (strL cv)], .bool true]) := he; subst he)
              | ((with_reducible show wpList _ _ _ (⟨none, Op.store _ _ _, _, _, _, _⟩ :: _) _ _); clear tok; refine wpl_store_box rfl _ _ _ rfl _ [.int .i64 ck, .string (strL cn), .string (strL cv)] rfl rfl (BoxF.new w4 (chg0 0) _) rfl (by kernel_rfl) (by rfl) ?_; intro w6 C6 O6; have hx6 : Ext w4 w6 := ((Ext.refl w4).alloc _).on O6 (Nat.le_refl _))
              | ((with_reducible show wpList _ _ _ (⟨some 38, _, _, _, _, _⟩ :: _) _ _); refine wpl_load_box rfl _ _ rfl _ rfl C6 Try.underlying28 rfl (by kernel_rfl) ?_)
              | ((with_reducible show wpList _ _ _ (⟨some 40, _, _, _, _, _⟩ :: _) _ _); refine wpl_append_rec (z := .agg #[.int .i64 0, .string ByteArray.empty, .string ByteArray.empty]) (bytes := 40) Try.underlying29 (by kernel_rfl) (by kernel_rfl) (by omega) (by omega) ((HOA.out.ext hx4).ext hx6) (chgC (ck, cn, cv)) rfl (by kernel_rfl) rfl _ _ rfl rfl _ rfl rfl (by rw [chgsC_length]; have := HDN.out; have := HL.out; omega) (Ext.size ((HX.out.trans hx4).trans hx6)) ?_; intro v7 w7 OA7 hb7)
              | ((with_reducible show wpList _ _ _ (⟨some 44, _, _, _, _, _⟩ :: _) _ _); refine wpl_cut_lo bt HRI.out (1 + (n : Int)) (by omega) (by omega) rfl _ _ _ rfl rfl rfl ?_; intro A9 m9 k9 hr9; rw [show (1 + (n : Int)).toNat = 1 + n by omega] at hr9; obtain ⟨hm9, _⟩ := rd_shape hr9; rw [List.length_drop] at hm9; replace hr9 := Lib.hid hr9; replace hm9 := Lib.hid hm9)
              | fail)
            have e7 : chgsC done ++ [chgC (ck, cn, cv)] = chgsC (done ++ [(ck, cn, cv)]) := by simp [chgsC]
            rw [e7] at OA7
            go_roundw
            case rel => exact ⟨st.drop (1 + n), done ++ [(ck, cn, cv)], f, hr9.out, OA7, ((HX.out.trans hx4).trans hx6).below hb7 (Nat.le_refl _), Lib.hid (by rw [List.length_drop]; have := HFU.out; omega), Lib.hid (by rw [List.length_append, List.length_drop]; have := HDN.out; simp; omega), HI2⟩
            case measure =>
              show m9 < st.length
              have := hm9.out
              omega
        · have hFe : F = ([], e) := by rw [HF.out, HI.out, readC_text f st HP.out H5.out HT.out he, onto_err _ _ he]
          subst hFe
          have hbe : (e == 0) = false := by simpa using he
          clear he ht
          go_wp2_with (first
            | ((with_reducible show wpList _ _ _ (⟨some 19, _, _, _, _, _⟩ :: _) _ _); refine wpl_cut_lo bt HRI.out 1 (by omega) (by omega) rfl _ _ _ rfl rfl rfl ?_; intro A5 m5 k5 hr5; rw [show (1 : Int).toNat = 1 from rfl] at hr5; replace hr5 := Lib.hid hr5)
            | (go_at_call 23; refine (rt_b _ _ _ x n _ (hr5.out.ext HX.out) HT.out).mono ?_; rintro e w3 ⟨rfl, rfl⟩)
            | fail)
          go_ret2
          exact ⟨_, rfl, OwnR.nil _ _ _ _, HX.out⟩

set_option maxRecDepth 100000 in
set_option maxHeartbeats 4000000 in
theorem read_r (w : World) (v : Value) (l : List UInt8) (hr : Rd w v l) (hl : l.length ≤ 10000000) : Calls Try.prog 16 #[v] w (RetRead w (readCs l)) := by
  have hr0 := hr
  obtain ⟨A, cap, rfl, _⟩ := hr
  obtain ⟨F, hF⟩ : ∃ F, F = readCs l := ⟨_, rfl⟩
  have HF := Lib.hid hF
  rw [← hF]
  clear hF
  have HL := Lib.hid hl
  clear hl
  go_enter Try.func16, Try.ntmps16
  go_wp2_with fail
  have OW0 : OwnC w w.heap.size (.slice none 0 0) [] := OwnR.nil _ _ _ _
  go_loopw [0, 4] (fun b u W => ∃ (st : List UInt8) (done : List Chg) (fuel : Nat), Rd w b st ∧ OwnC W w.heap.size u done ∧ Ext w W ∧ Hid (st.length ≤ fuel) ∧ Hid (done.length + st.length ≤ l.length) ∧ Hid (readCs l = onto done (readC fuel st))) (fun b _ _ => lenB b)
  case atStart => exact ⟨l, [], l.length, hr0, OW0, Ext.refl _, Lib.hid (Nat.le_refl _), Lib.hid (by simp), Lib.hid (by rw [onto_nil _ (readC_err _ _)]; rfl)⟩
  case round =>
    clear OW0 hr0
    obtain ⟨st, done, fuel, hri, OA, hx, HFU, HDN, HI⟩ := hrel
    obtain ⟨Au, cu, rfl, hu1, hu2⟩ := OA.shape
    obtain ⟨Ab, cb, rfl, hb1, hb2, _, _⟩ := id hri
    have HRI := Lib.hid hri
    have HOA := Lib.hid OA
    have HX := Lib.hid hx
    clear hu1 hu2 hb1 hb2 hri OA hx
    by_cases hp : st.length = 0
    · obtain rfl : st = [] := List.eq_nil_of_length_eq_zero hp
      have hi := HI.out
      rw [readC_nil] at hi
      have hFe : F = (done, 0) := by rw [HF.out, hi]; unfold onto; rw [if_pos rfl, List.append_nil]
      clear hi hp
      subst hFe
      go_wp2_with fail
      go_ret2
      exact ⟨_, rfl, HOA.out, HX.out⟩
    · have hpos : 0 < st.length := by omega
      have hpi : 0 < (st.length : Int) := by omega
      obtain ⟨f, rfl⟩ : ∃ f, fuel = f + 1 := ⟨fuel - 1, by have := HFU.out; omega⟩
      obtain ⟨b0, o0, rfl, hc0⟩ := rd_first HRI.out hpos
      replace hc0 := HX.out.cell hc0
      obtain ⟨x0, hx0⟩ : ∃ x0 : Int, ((st.getD 0 0).toNat : Int) = x0 := ⟨_, rfl⟩
      rw [hx0] at hc0
      have hx0a : 0 ≤ x0 := by omega
      have hx255 : x0 < 256 := by have := (st.getD 0 0).toNat_lt; omega
      by_cases h5 : 5 < (st.getD 0 0).toNat
      · have h5i : 5 < x0 := by omega
        have hFe : F = ([], 5) := by rw [HF.out, HI.out, readC_kind f st hp h5, onto_err _ _ (by decide)]
        subst hFe
        clear h5 hx0 hp
        go_wp2_with fail
        go_ret2
        exact ⟨_, rfl, OwnR.nil _ _ _ _, HX.out⟩
      · have hx0b : x0 ≤ 5 := by omega
        have h5i : ¬ 5 < x0 := by omega
        obtain ⟨x, n, e, ht⟩ : ∃ x n e, readT (st.drop 1) = (x, n, e) := ⟨_, _, _, rfl⟩
        have HT := Lib.hid ht
        have HP := Lib.hid hp
        have H5 := Lib.hid h5
        have HX0 := Lib.hid hx0
        clear hp h5 hx0
        by_cases he : e = 0
        · subst he
          have hlen := readT_len ht
          rw [List.length_drop] at hlen
          have HXL := Lib.hid (show x.length ≤ 100000000 by have := HL.out; have := HDN.out; omega)
          have HXL2 := Lib.hid (show (strL x).size ≤ maxLen by rw [strL_size]; have := HXL.out; unfold maxLen; omega)
          obtain ⟨hn1, hn2, _⟩ := hlen
          have hn3 : 1 + n ≤ st.length := by omega
          have hst : st.length ≤ 10000000 := by have := HL.out; have := HDN.out; omega
          clear ht hn1
          cases hc : oneP x0 x with
          | none =>
            have HC := Lib.hid hc
            have hFe : F = ([], 5) := by rw [HF.out, HI.out, readC_none f st HP.out H5.out HT.out (by rw [HX0.out]; exact HC.out), onto_err _ _ (by decide)]
            subst hFe
            clear hc
            go_wp2_with (first
              | ((with_reducible show wpList _ _ _ (⟨some 22, _, _, _, _, _⟩ :: _) _ _); refine wpl_cut_lo bt HRI.out 1 (by omega) (by omega) rfl _ _ _ rfl rfl rfl ?_; intro A5 m5 k5 hr5; rw [show (1 : Int).toNat = 1 from rfl] at hr5; replace hr5 := Lib.hid hr5)
              | (go_at_call 31; refine (rt_r _ _ _ x n _ (hr5.out.ext HX.out) HT.out).mono ?_; rintro e w3 ⟨rfl, rfl⟩)
              | ((with_reducible show wpList _ _ _ (⟨some 33, _, _, _, _, _⟩ :: _) _ _); refine wpl_bytes bt _ HXL2.out rfl _ rfl rfl ?_; intro A3 m3 k3 w3 hr3 _ hx3; rw [strL_toList] at hr3)
              | (go_at_call 32; refine (one_at_r _ _ x0 x none ⟨hx0a, hx0b⟩ hr3 HC.out).mono ?_; rintro e w4 ⟨⟨_, _, _, rfl⟩, hx4⟩)
              | fail)
            go_ret2
            exact ⟨_, rfl, OwnR.nil _ _ _ _, (HX.out.trans (hx3.trans hx4)).alloc _⟩
          | some c =>
            have HC := Lib.hid hc
            have hI2 : readCs l = onto (done ++ [c]) (readC f (st.drop (1 + n))) := by rw [HI.out, readC_some f st HP.out H5.out HT.out (by rw [HX0.out]; exact HC.out), onto_onto]
            have HI2 := Lib.hid hI2
            clear hc hI2
            obtain ⟨ck, cn, cv⟩ := c
            have tok : True := trivial
            go_wp2_with (first
              | ((with_reducible show wpList _ _ _ (⟨some 22, _, _, _, _, _⟩ :: _) _ _); refine wpl_cut_lo bt HRI.out 1 (by omega) (by omega) rfl _ _ _ rfl rfl rfl ?_; intro A5 m5 k5 hr5; rw [show (1 : Int).toNat = 1 from rfl] at hr5; replace hr5 := Lib.hid hr5)
              | (go_at_call 31; refine (rt_r _ _ _ x n _ (hr5.out.ext HX.out) HT.out).mono ?_; rintro e w3 ⟨rfl, rfl⟩)
              | ((with_reducible show wpList _ _ _ (⟨some 33, _, _, _, _, _⟩ :: _) _ _); refine wpl_bytes bt _ HXL2.out rfl _ rfl rfl ?_; intro A3 m3 k3 w3 hr3 _ hx3; rw [strL_toList] at hr3)
              | (go_at_call 32; refine (one_at_r _ _ x0 x (some (ck, cn, cv)) ⟨hx0a, hx0b⟩ hr3 HC.out).mono ?_; rintro e w4 ⟨he, hx4⟩; replace he : e = .returned (.tuple #[.agg #[.int .i64 ck, .string (strL cn), .string (strL cv)], .bool true]) := he; subst he)
              | ((with_reducible show wpList _ _ _ (⟨none, Op.store _ _ _, _, _, _, _⟩ :: _) _ _); clear tok; refine wpl_store_box rfl _ _ _ rfl _ [.int .i64 ck, .string (strL cn), .string (strL cv)] rfl rfl (BoxF.new w4 (chg0 0) _) rfl (by kernel_rfl) (by rfl) ?_; intro w6 C6 O6; have hx6 : Ext w4 w6 := ((Ext.refl w4).alloc _).on O6 (Nat.le_refl _))
              | ((with_reducible show wpList _ _ _ (⟨some 40, _, _, _, _, _⟩ :: _) _ _); refine wpl_load_box rfl _ _ rfl _ rfl C6 Try.underlying28 rfl (by kernel_rfl) ?_)
              | ((with_reducible show wpList _ _ _ (⟨some 42, _, _, _, _, _⟩ :: _) _ _); refine wpl_append_rec (z := .agg #[.int .i64 0, .string ByteArray.empty, .string ByteArray.empty]) (bytes := 40) Try.underlying29 (by kernel_rfl) (by kernel_rfl) (by omega) (by omega) ((HOA.out.ext (hx3.trans hx4)).ext hx6) (chgC (ck, cn, cv)) rfl (by kernel_rfl) rfl _ _ rfl rfl _ rfl rfl (by rw [chgsC_length]; have := HDN.out; have := HL.out; omega) (Ext.size ((HX.out.trans (hx3.trans hx4)).trans hx6)) ?_; intro v7 w7 OA7 hb7)
              | ((with_reducible show wpList _ _ _ (⟨some 46, _, _, _, _, _⟩ :: _) _ _); refine wpl_cut_lo bt HRI.out (1 + (n : Int)) (by omega) (by omega) rfl _ _ _ rfl rfl rfl ?_; intro A9 m9 k9 hr9; rw [show (1 + (n : Int)).toNat = 1 + n by omega] at hr9; obtain ⟨hm9, _⟩ := rd_shape hr9; rw [List.length_drop] at hm9; replace hr9 := Lib.hid hr9; replace hm9 := Lib.hid hm9)
              | fail)
            have e7 : chgsC done ++ [chgC (ck, cn, cv)] = chgsC (done ++ [(ck, cn, cv)]) := by simp [chgsC]
            rw [e7] at OA7
            go_roundw
            case rel => exact ⟨st.drop (1 + n), done ++ [(ck, cn, cv)], f, hr9.out, OA7, ((HX.out.trans (hx3.trans hx4)).trans hx6).below hb7 (Nat.le_refl _), Lib.hid (by rw [List.length_drop]; have := HFU.out; omega), Lib.hid (by rw [List.length_append, List.length_drop]; have := HDN.out; simp; omega), HI2⟩
            case measure =>
              show m9 < st.length
              have := hm9.out
              omega
        · have hFe : F = ([], e) := by rw [HF.out, HI.out, readC_text f st HP.out H5.out HT.out he, onto_err _ _ he]
          subst hFe
          have hbe : (e == 0) = false := by simpa using he
          clear he ht
          go_wp2_with (first
            | ((with_reducible show wpList _ _ _ (⟨some 22, _, _, _, _, _⟩ :: _) _ _); refine wpl_cut_lo bt HRI.out 1 (by omega) (by omega) rfl _ _ _ rfl rfl rfl ?_; intro A5 m5 k5 hr5; rw [show (1 : Int).toNat = 1 from rfl] at hr5; replace hr5 := Lib.hid hr5)
            | (go_at_call 31; refine (rt_r _ _ _ x n _ (hr5.out.ext HX.out) HT.out).mono ?_; rintro e w3 ⟨rfl, rfl⟩)
            | fail)
          go_ret2
          exact ⟨_, rfl, OwnR.nil _ _ _ _, HX.out⟩
end Go.Proofs.Ytdjnjhlgpflcjaa
