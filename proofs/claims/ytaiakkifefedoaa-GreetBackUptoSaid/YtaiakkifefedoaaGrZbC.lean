import Derived.Test.YtaiakkifefedoaaGrVC
/- Packets that may not be are refused: greetings, switches. (Printed by gen_grZb.py.) -/
namespace Go.Proofs.Ytaiakkifefedoaa
open Go.RowKit

theorem plain2 {a b : List UInt8} (h : plainP [a, b] = true) : a.contains 0 = false ∧ b.contains 0 = false := by simpa [plainP] using h
theorem plain1 {a : List UInt8} (h : plainP [a] = true) : a.contains 0 = false := by simpa [plainP] using h
theorem plain3 {a b c : List UInt8} (h : plainP [a, b, c] = true) : a.contains 0 = false ∧ b.contains 0 = false ∧ c.contains 0 = false := by simpa [plainP] using h
theorem check_ok {n : List UInt8} (h : checkE n = 0) : n.length = 20 ∧ nonceOk n = true := by
  unfold checkE at h
  split at h
  · rename_i hh
    exact ⟨hh.1, by unfold nonceOk; rw [hh.2.1, hh.2.2]; rfl⟩
  · simp at h
theorem check_two {n : List UInt8} (h : ¬ checkE n = 0) : checkE n = 2 := by
  unfold checkE at h ⊢
  split
  · rename_i hh
    rw [if_pos hh] at h
    exact absurd rfl h
  · rfl
theorem empty_or {l : List UInt8} {b : Prop} (h : (strL l).toList.isEmpty = true ∨ b) : l = [] ∨ b := by
  rcases h with h | h
  · left
    simpa [strL_tl] using h
  · exact .inr h
set_option linter.unusedVariables false in
set_option maxRecDepth 100000 in
set_option maxHeartbeats 4000000 in
theorem fineGreeting_z (w : World) (ver n pl : List UInt8) (thr caps ch st : Int) (vn : Value) (hn : Rd w vn n) (ht : 0 ≤ thr ∧ thr < 4294967296) (hcaps : 0 ≤ caps ∧ caps < 4294967296) (hch : 0 ≤ ch ∧ ch < 256) (hst : 0 ≤ st ∧ st < 65536) (h : ¬ GreOk ⟨ver, thr, n, caps, ch, st, pl⟩) :
    Calls Try.prog 43 #[.agg #[.string (strL ver), .int .u32 thr, vn, .int .u32 caps, .int .u8 ch, .int .u16 st, .string (strL pl)]] w fun e w' => e = .returned (.bool false) ∧ Ext w w' := by
  have HN := Lib.hid hn
  obtain ⟨An, cn, rfl, _⟩ := hn
  by_cases p1 : plainP [ver, pl] = true
  · have HP := Lib.hid p1
    by_cases hck : checkE n = 0
    · have HK := Lib.hid hck
      by_cases p3 : hasC caps 33280 = true
      · have HC := Lib.hid p3
        by_cases q1 : (strL pl).toList.isEmpty = true
        · skip
          exact absurd ⟨(plain2 p1).1, (plain2 p1).2, (check_ok hck).1, (check_ok hck).2, p3, empty_or (by first | exact .inl q1 | exact .inr q2), ht, hcaps, hch, hst⟩ h
        · have q1 : (strL pl).toList.isEmpty = false := by simpa using q1
          by_cases q2 : hasC caps 524288 = true
          · have HL := Lib.hid q2
            exact absurd ⟨(plain2 p1).1, (plain2 p1).2, (check_ok hck).1, (check_ok hck).2, p3, empty_or (by first | exact .inl q1 | exact .inr q2), ht, hcaps, hch, hst⟩ h
          · have HL := Lib.hid (show hasC caps 524288 = false by simpa using q2)
            clear q2
            go_enter Try.func43, Try.ntmps43
            go_wp2_with fail
            generalize hW0 : w.alloc _ = wS
            have hb : Box wS w.heap.size [.string (strL ver), .int .u32 thr, .slice An n.length cn, .int .u32 caps, .int .u8 ch, .int .u16 st, .string (strL pl)] := by rw [← hW0]; exact Box.new w _ _
            have hx0 : Ext w wS := by rw [← hW0]; exact (Ext.refl w).alloc _
            have hsz : w.heap.size + 1 = wS.heap.size := by rw [← hW0]; simp
            have HSZ := Lib.hid hsz
            have HX0 := Lib.hid hx0
            clear hW0 hsz hx0
            go_wp2_with (first
              | (go_at_call 25; have hpl9 : plainP [ver, pl] = true := HP.out; refine (plain_g _ _ [ver, pl] true (texts_new _ _ _ (by rfl) _ _ _ HSZ.out (by rfl) (by simp)) hpl9).mono ?_; clear hpl9; rintro e wT ⟨rfl, hq⟩; have hx1 : Ext wS wT := hq ▸ (Ext.refl wS).alloc _; clear hq; have c2 := hb.one' (j := 2) rfl hx1; have c3 := hb.one' (j := 3) rfl hx1; have c6 := hb.one' (j := 6) rfl hx1)
              | (go_at_call 25; have hpl9 : plainP [ver, pl] = false := HP.out; refine (plain_g _ _ [ver, pl] false (texts_new _ _ _ (by rfl) _ _ _ HSZ.out (by rfl) (by simp)) hpl9).mono ?_; clear hpl9; rintro e wT ⟨rfl, hq⟩; have hx1 : Ext wS wT := hq ▸ (Ext.refl wS).alloc _; clear hq; have c2 := hb.one' (j := 2) rfl hx1; have c3 := hb.one' (j := 3) rfl hx1; have c6 := hb.one' (j := 6) rfl hx1)
              | (go_at_call 26; have hck9 : checkE n = 0 := HK.out; refine (check_c _ _ n 0 (HN.out.ext (HX0.out.trans hx1)) hck9).mono ?_; clear hck9; rintro e wy ⟨rfl, rfl⟩)
              | (go_at_call 26; have hck9 : checkE n = 2 := HK.out; refine (check_c _ _ n 2 (HN.out.ext (HX0.out.trans hx1)) hck9).mono ?_; clear hck9; rintro e wy ⟨rfl, rfl⟩)
              | ((with_reducible show Calls _ _ #[_, Value.int .u32 33280] _ _); go_at_call 36; have hh9 : hasC _ 33280 = true := HC.out; refine (has_g _ _ _ true hh9).mono ?_; clear hh9; rintro e wy ⟨rfl, rfl⟩)
              | ((with_reducible show Calls _ _ #[_, Value.int .u32 33280] _ _); go_at_call 36; have hh9 : hasC _ 33280 = false := HC.out; refine (has_g _ _ _ false hh9).mono ?_; clear hh9; rintro e wy ⟨rfl, rfl⟩)
              | ((with_reducible show Calls _ _ #[_, Value.int .u32 8] _ _); go_at_call 36; have hh9 : hasC _ 8 = true := HD.out; refine (has_g _ _ _ true hh9).mono ?_; clear hh9; rintro e wy ⟨rfl, rfl⟩)
              | ((with_reducible show Calls _ _ #[_, Value.int .u32 8] _ _); go_at_call 36; have hh9 : hasC _ 8 = false := HD.out; refine (has_g _ _ _ false hh9).mono ?_; clear hh9; rintro e wy ⟨rfl, rfl⟩)
              | ((with_reducible show Calls _ _ #[_, Value.int .u32 524288] _ _); go_at_call 36; have hh9 : hasC _ 524288 = true := HL.out; refine (has_g _ _ _ true hh9).mono ?_; clear hh9; rintro e wy ⟨rfl, rfl⟩)
              | ((with_reducible show Calls _ _ #[_, Value.int .u32 524288] _ _); go_at_call 36; have hh9 : hasC _ 524288 = false := HL.out; refine (has_g _ _ _ false hh9).mono ?_; clear hh9; rintro e wy ⟨rfl, rfl⟩)
              | ((with_reducible show Calls _ _ #[_, Value.int .u32 1048576] _ _); go_at_call 36; have hh9 : hasC _ 1048576 = true := HA9.out; refine (has_g _ _ _ true hh9).mono ?_; clear hh9; rintro e wy ⟨rfl, rfl⟩)
              | ((with_reducible show Calls _ _ #[_, Value.int .u32 1048576] _ _); go_at_call 36; have hh9 : hasC _ 1048576 = false := HA9.out; refine (has_g _ _ _ false hh9).mono ?_; clear hh9; rintro e wy ⟨rfl, rfl⟩)
              | fail)
            go_ret
            exact ⟨rfl, HX0.out.trans hx1⟩
      · have HC := Lib.hid (show hasC caps 33280 = false by simpa using p3)
        clear p3
        go_enter Try.func43, Try.ntmps43
        go_wp2_with fail
        generalize hW0 : w.alloc _ = wS
        have hb : Box wS w.heap.size [.string (strL ver), .int .u32 thr, .slice An n.length cn, .int .u32 caps, .int .u8 ch, .int .u16 st, .string (strL pl)] := by rw [← hW0]; exact Box.new w _ _
        have hx0 : Ext w wS := by rw [← hW0]; exact (Ext.refl w).alloc _
        have hsz : w.heap.size + 1 = wS.heap.size := by rw [← hW0]; simp
        have HSZ := Lib.hid hsz
        have HX0 := Lib.hid hx0
        clear hW0 hsz hx0
        go_wp2_with (first
          | (go_at_call 25; have hpl9 : plainP [ver, pl] = true := HP.out; refine (plain_g _ _ [ver, pl] true (texts_new _ _ _ (by rfl) _ _ _ HSZ.out (by rfl) (by simp)) hpl9).mono ?_; clear hpl9; rintro e wT ⟨rfl, hq⟩; have hx1 : Ext wS wT := hq ▸ (Ext.refl wS).alloc _; clear hq; have c2 := hb.one' (j := 2) rfl hx1; have c3 := hb.one' (j := 3) rfl hx1; have c6 := hb.one' (j := 6) rfl hx1)
          | (go_at_call 25; have hpl9 : plainP [ver, pl] = false := HP.out; refine (plain_g _ _ [ver, pl] false (texts_new _ _ _ (by rfl) _ _ _ HSZ.out (by rfl) (by simp)) hpl9).mono ?_; clear hpl9; rintro e wT ⟨rfl, hq⟩; have hx1 : Ext wS wT := hq ▸ (Ext.refl wS).alloc _; clear hq; have c2 := hb.one' (j := 2) rfl hx1; have c3 := hb.one' (j := 3) rfl hx1; have c6 := hb.one' (j := 6) rfl hx1)
          | (go_at_call 26; have hck9 : checkE n = 0 := HK.out; refine (check_c _ _ n 0 (HN.out.ext (HX0.out.trans hx1)) hck9).mono ?_; clear hck9; rintro e wy ⟨rfl, rfl⟩)
          | (go_at_call 26; have hck9 : checkE n = 2 := HK.out; refine (check_c _ _ n 2 (HN.out.ext (HX0.out.trans hx1)) hck9).mono ?_; clear hck9; rintro e wy ⟨rfl, rfl⟩)
          | ((with_reducible show Calls _ _ #[_, Value.int .u32 33280] _ _); go_at_call 36; have hh9 : hasC _ 33280 = true := HC.out; refine (has_g _ _ _ true hh9).mono ?_; clear hh9; rintro e wy ⟨rfl, rfl⟩)
          | ((with_reducible show Calls _ _ #[_, Value.int .u32 33280] _ _); go_at_call 36; have hh9 : hasC _ 33280 = false := HC.out; refine (has_g _ _ _ false hh9).mono ?_; clear hh9; rintro e wy ⟨rfl, rfl⟩)
          | ((with_reducible show Calls _ _ #[_, Value.int .u32 8] _ _); go_at_call 36; have hh9 : hasC _ 8 = true := HD.out; refine (has_g _ _ _ true hh9).mono ?_; clear hh9; rintro e wy ⟨rfl, rfl⟩)
          | ((with_reducible show Calls _ _ #[_, Value.int .u32 8] _ _); go_at_call 36; have hh9 : hasC _ 8 = false := HD.out; refine (has_g _ _ _ false hh9).mono ?_; clear hh9; rintro e wy ⟨rfl, rfl⟩)
          | ((with_reducible show Calls _ _ #[_, Value.int .u32 524288] _ _); go_at_call 36; have hh9 : hasC _ 524288 = true := HL.out; refine (has_g _ _ _ true hh9).mono ?_; clear hh9; rintro e wy ⟨rfl, rfl⟩)
          | ((with_reducible show Calls _ _ #[_, Value.int .u32 524288] _ _); go_at_call 36; have hh9 : hasC _ 524288 = false := HL.out; refine (has_g _ _ _ false hh9).mono ?_; clear hh9; rintro e wy ⟨rfl, rfl⟩)
          | ((with_reducible show Calls _ _ #[_, Value.int .u32 1048576] _ _); go_at_call 36; have hh9 : hasC _ 1048576 = true := HA9.out; refine (has_g _ _ _ true hh9).mono ?_; clear hh9; rintro e wy ⟨rfl, rfl⟩)
          | ((with_reducible show Calls _ _ #[_, Value.int .u32 1048576] _ _); go_at_call 36; have hh9 : hasC _ 1048576 = false := HA9.out; refine (has_g _ _ _ false hh9).mono ?_; clear hh9; rintro e wy ⟨rfl, rfl⟩)
          | fail)
        go_ret
        exact ⟨rfl, HX0.out.trans hx1⟩
    · have HK := Lib.hid (check_two hck)
      clear hck
      go_enter Try.func43, Try.ntmps43
      go_wp2_with fail
      generalize hW0 : w.alloc _ = wS
      have hb : Box wS w.heap.size [.string (strL ver), .int .u32 thr, .slice An n.length cn, .int .u32 caps, .int .u8 ch, .int .u16 st, .string (strL pl)] := by rw [← hW0]; exact Box.new w _ _
      have hx0 : Ext w wS := by rw [← hW0]; exact (Ext.refl w).alloc _
      have hsz : w.heap.size + 1 = wS.heap.size := by rw [← hW0]; simp
      have HSZ := Lib.hid hsz
      have HX0 := Lib.hid hx0
      clear hW0 hsz hx0
      go_wp2_with (first
        | (go_at_call 25; have hpl9 : plainP [ver, pl] = true := HP.out; refine (plain_g _ _ [ver, pl] true (texts_new _ _ _ (by rfl) _ _ _ HSZ.out (by rfl) (by simp)) hpl9).mono ?_; clear hpl9; rintro e wT ⟨rfl, hq⟩; have hx1 : Ext wS wT := hq ▸ (Ext.refl wS).alloc _; clear hq; have c2 := hb.one' (j := 2) rfl hx1; have c3 := hb.one' (j := 3) rfl hx1; have c6 := hb.one' (j := 6) rfl hx1)
        | (go_at_call 25; have hpl9 : plainP [ver, pl] = false := HP.out; refine (plain_g _ _ [ver, pl] false (texts_new _ _ _ (by rfl) _ _ _ HSZ.out (by rfl) (by simp)) hpl9).mono ?_; clear hpl9; rintro e wT ⟨rfl, hq⟩; have hx1 : Ext wS wT := hq ▸ (Ext.refl wS).alloc _; clear hq; have c2 := hb.one' (j := 2) rfl hx1; have c3 := hb.one' (j := 3) rfl hx1; have c6 := hb.one' (j := 6) rfl hx1)
        | (go_at_call 26; have hck9 : checkE n = 0 := HK.out; refine (check_c _ _ n 0 (HN.out.ext (HX0.out.trans hx1)) hck9).mono ?_; clear hck9; rintro e wy ⟨rfl, rfl⟩)
        | (go_at_call 26; have hck9 : checkE n = 2 := HK.out; refine (check_c _ _ n 2 (HN.out.ext (HX0.out.trans hx1)) hck9).mono ?_; clear hck9; rintro e wy ⟨rfl, rfl⟩)
        | ((with_reducible show Calls _ _ #[_, Value.int .u32 33280] _ _); go_at_call 36; have hh9 : hasC _ 33280 = true := HC.out; refine (has_g _ _ _ true hh9).mono ?_; clear hh9; rintro e wy ⟨rfl, rfl⟩)
        | ((with_reducible show Calls _ _ #[_, Value.int .u32 33280] _ _); go_at_call 36; have hh9 : hasC _ 33280 = false := HC.out; refine (has_g _ _ _ false hh9).mono ?_; clear hh9; rintro e wy ⟨rfl, rfl⟩)
        | ((with_reducible show Calls _ _ #[_, Value.int .u32 8] _ _); go_at_call 36; have hh9 : hasC _ 8 = true := HD.out; refine (has_g _ _ _ true hh9).mono ?_; clear hh9; rintro e wy ⟨rfl, rfl⟩)
        | ((with_reducible show Calls _ _ #[_, Value.int .u32 8] _ _); go_at_call 36; have hh9 : hasC _ 8 = false := HD.out; refine (has_g _ _ _ false hh9).mono ?_; clear hh9; rintro e wy ⟨rfl, rfl⟩)
        | ((with_reducible show Calls _ _ #[_, Value.int .u32 524288] _ _); go_at_call 36; have hh9 : hasC _ 524288 = true := HL.out; refine (has_g _ _ _ true hh9).mono ?_; clear hh9; rintro e wy ⟨rfl, rfl⟩)
        | ((with_reducible show Calls _ _ #[_, Value.int .u32 524288] _ _); go_at_call 36; have hh9 : hasC _ 524288 = false := HL.out; refine (has_g _ _ _ false hh9).mono ?_; clear hh9; rintro e wy ⟨rfl, rfl⟩)
        | ((with_reducible show Calls _ _ #[_, Value.int .u32 1048576] _ _); go_at_call 36; have hh9 : hasC _ 1048576 = true := HA9.out; refine (has_g _ _ _ true hh9).mono ?_; clear hh9; rintro e wy ⟨rfl, rfl⟩)
        | ((with_reducible show Calls _ _ #[_, Value.int .u32 1048576] _ _); go_at_call 36; have hh9 : hasC _ 1048576 = false := HA9.out; refine (has_g _ _ _ false hh9).mono ?_; clear hh9; rintro e wy ⟨rfl, rfl⟩)
        | fail)
      go_ret
      exact ⟨rfl, HX0.out.trans hx1⟩
  · have HP := Lib.hid (show plainP [ver, pl] = false by simpa using p1)
    clear p1
    go_enter Try.func43, Try.ntmps43
    go_wp2_with fail
    generalize hW0 : w.alloc _ = wS
    have hb : Box wS w.heap.size [.string (strL ver), .int .u32 thr, .slice An n.length cn, .int .u32 caps, .int .u8 ch, .int .u16 st, .string (strL pl)] := by rw [← hW0]; exact Box.new w _ _
    have hx0 : Ext w wS := by rw [← hW0]; exact (Ext.refl w).alloc _
    have hsz : w.heap.size + 1 = wS.heap.size := by rw [← hW0]; simp
    have HSZ := Lib.hid hsz
    have HX0 := Lib.hid hx0
    clear hW0 hsz hx0
    go_wp2_with (first
      | (go_at_call 25; have hpl9 : plainP [ver, pl] = true := HP.out; refine (plain_g _ _ [ver, pl] true (texts_new _ _ _ (by rfl) _ _ _ HSZ.out (by rfl) (by simp)) hpl9).mono ?_; clear hpl9; rintro e wT ⟨rfl, hq⟩; have hx1 : Ext wS wT := hq ▸ (Ext.refl wS).alloc _; clear hq; have c2 := hb.one' (j := 2) rfl hx1; have c3 := hb.one' (j := 3) rfl hx1; have c6 := hb.one' (j := 6) rfl hx1)
      | (go_at_call 25; have hpl9 : plainP [ver, pl] = false := HP.out; refine (plain_g _ _ [ver, pl] false (texts_new _ _ _ (by rfl) _ _ _ HSZ.out (by rfl) (by simp)) hpl9).mono ?_; clear hpl9; rintro e wT ⟨rfl, hq⟩; have hx1 : Ext wS wT := hq ▸ (Ext.refl wS).alloc _; clear hq; have c2 := hb.one' (j := 2) rfl hx1; have c3 := hb.one' (j := 3) rfl hx1; have c6 := hb.one' (j := 6) rfl hx1)
      | (go_at_call 26; have hck9 : checkE n = 0 := HK.out; refine (check_c _ _ n 0 (HN.out.ext (HX0.out.trans hx1)) hck9).mono ?_; clear hck9; rintro e wy ⟨rfl, rfl⟩)
      | (go_at_call 26; have hck9 : checkE n = 2 := HK.out; refine (check_c _ _ n 2 (HN.out.ext (HX0.out.trans hx1)) hck9).mono ?_; clear hck9; rintro e wy ⟨rfl, rfl⟩)
      | ((with_reducible show Calls _ _ #[_, Value.int .u32 33280] _ _); go_at_call 36; have hh9 : hasC _ 33280 = true := HC.out; refine (has_g _ _ _ true hh9).mono ?_; clear hh9; rintro e wy ⟨rfl, rfl⟩)
      | ((with_reducible show Calls _ _ #[_, Value.int .u32 33280] _ _); go_at_call 36; have hh9 : hasC _ 33280 = false := HC.out; refine (has_g _ _ _ false hh9).mono ?_; clear hh9; rintro e wy ⟨rfl, rfl⟩)
      | ((with_reducible show Calls _ _ #[_, Value.int .u32 8] _ _); go_at_call 36; have hh9 : hasC _ 8 = true := HD.out; refine (has_g _ _ _ true hh9).mono ?_; clear hh9; rintro e wy ⟨rfl, rfl⟩)
      | ((with_reducible show Calls _ _ #[_, Value.int .u32 8] _ _); go_at_call 36; have hh9 : hasC _ 8 = false := HD.out; refine (has_g _ _ _ false hh9).mono ?_; clear hh9; rintro e wy ⟨rfl, rfl⟩)
      | ((with_reducible show Calls _ _ #[_, Value.int .u32 524288] _ _); go_at_call 36; have hh9 : hasC _ 524288 = true := HL.out; refine (has_g _ _ _ true hh9).mono ?_; clear hh9; rintro e wy ⟨rfl, rfl⟩)
      | ((with_reducible show Calls _ _ #[_, Value.int .u32 524288] _ _); go_at_call 36; have hh9 : hasC _ 524288 = false := HL.out; refine (has_g _ _ _ false hh9).mono ?_; clear hh9; rintro e wy ⟨rfl, rfl⟩)
      | ((with_reducible show Calls _ _ #[_, Value.int .u32 1048576] _ _); go_at_call 36; have hh9 : hasC _ 1048576 = true := HA9.out; refine (has_g _ _ _ true hh9).mono ?_; clear hh9; rintro e wy ⟨rfl, rfl⟩)
      | ((with_reducible show Calls _ _ #[_, Value.int .u32 1048576] _ _); go_at_call 36; have hh9 : hasC _ 1048576 = false := HA9.out; refine (has_g _ _ _ false hh9).mono ?_; clear hh9; rintro e wy ⟨rfl, rfl⟩)
      | fail)
    go_ret
    exact ⟨rfl, HX0.out.trans hx1⟩
set_option maxHeartbeats 1000000 in
theorem appendGreeting_z (w : World) (ver n pl : List UInt8) (thr caps ch st : Int) (vn : Value) (hn : Rd w vn n) (ht : 0 ≤ thr ∧ thr < 4294967296) (hcaps : 0 ≤ caps ∧ caps < 4294967296) (hch : 0 ≤ ch ∧ ch < 256) (hst : 0 ≤ st ∧ st < 65536) (h : ¬ GreOk ⟨ver, thr, n, caps, ch, st, pl⟩) :
    Calls Try.prog 16 #[.slice none 0 0, .agg #[.string (strL ver), .int .u32 thr, vn, .int .u32 caps, .int .u8 ch, .int .u16 st, .string (strL pl)]] w (RetBE w [] 2) := by
  have HN := Lib.hid hn
  obtain ⟨An, cn, rfl, _⟩ := hn
  have HF := Lib.hid (fun w1 hr => fineGreeting_z w1 ver n pl thr caps ch st (.slice An n.length cn) hr ht hcaps hch hst h)
  clear ht hcaps hch hst h
  go_enter Try.func16, Try.ntmps16
  go_wp2_with (first
    | (go_at_call 43; refine (HF.out _ (HN.out.ext ((Ext.refl _).alloc _))).mono ?_; rintro e w1 ⟨rfl, hx1⟩)
    | fail)
  go_ret2
  exact ⟨_, rfl, Own.nil _ _, ((Ext.refl _).alloc _).trans hx1⟩
set_option linter.unusedVariables false in
set_option maxRecDepth 100000 in
set_option maxHeartbeats 2000000 in
theorem appendSwitch_z (w : World) (pl n : List UInt8) (vn : Value) (hn : Rd w vn n) (h : ¬ switchOk (pl, n)) :
    Calls Try.prog 6 #[.slice none 0 0, .agg #[.string (strL pl), vn]] w (RetBE w [] 2) := by
  have HN := Lib.hid hn
  obtain ⟨An, cn, rfl, _⟩ := hn
  by_cases p1 : plainP [pl] = true
  · have HP := Lib.hid p1
    by_cases hck : checkE n = 0
    · have HK := Lib.hid hck
      exact absurd ⟨plain1 p1, (check_ok hck).1, (check_ok hck).2⟩ h
    · have HK := Lib.hid (check_two hck)
      clear hck
      go_enter Try.func6, Try.ntmps6
      go_wp2_with fail
      generalize hW0 : w.alloc _ = wS
      have hb : Box wS w.heap.size [.string (strL pl), .slice An n.length cn] := by rw [← hW0]; exact Box.new w _ _
      have hx0 : Ext w wS := by rw [← hW0]; exact (Ext.refl w).alloc _
      have hsz : w.heap.size + 1 = wS.heap.size := by rw [← hW0]; simp
      have HSZ := Lib.hid hsz
      have HX0 := Lib.hid hx0
      clear hW0 hsz hx0
      have c0 := hb.one' (j := 0) rfl (Ext.refl wS)
      have c1 := hb.one' (j := 1) rfl (Ext.refl wS)
      go_wp2_with (first
        | (go_at_call 25; have hpl9 : plainP [pl] = true := HP.out; refine (plain_g _ _ [pl] true (texts_new _ _ _ (by rfl) _ _ _ HSZ.out (by rfl) (by simp)) hpl9).mono ?_; clear hpl9; rintro e wT ⟨rfl, hq⟩; have hx1 : Ext wS wT := hq ▸ (Ext.refl wS).alloc _; clear hq c0 c1; have c1 := hb.one' (j := 1) rfl hx1)
        | (go_at_call 25; have hpl9 : plainP [pl] = false := HP.out; refine (plain_g _ _ [pl] false (texts_new _ _ _ (by rfl) _ _ _ HSZ.out (by rfl) (by simp)) hpl9).mono ?_; clear hpl9; rintro e wT ⟨rfl, hq⟩; have hx1 : Ext wS wT := hq ▸ (Ext.refl wS).alloc _; clear hq c0 c1; have c1 := hb.one' (j := 1) rfl hx1)
        | (go_at_call 26; have hck9 : checkE n = 0 := HK.out; refine (check_c _ _ n 0 (HN.out.ext (HX0.out.trans hx1)) hck9).mono ?_; clear hck9; rintro e wy ⟨rfl, rfl⟩)
        | (go_at_call 26; have hck9 : checkE n = 2 := HK.out; refine (check_c _ _ n 2 (HN.out.ext (HX0.out.trans hx1)) hck9).mono ?_; clear hck9; rintro e wy ⟨rfl, rfl⟩)
        | ((with_reducible show Calls _ _ #[_, Value.int .u32 33280] _ _); go_at_call 36; have hh9 : hasC _ 33280 = true := HC.out; refine (has_g _ _ _ true hh9).mono ?_; clear hh9; rintro e wy ⟨rfl, rfl⟩)
        | ((with_reducible show Calls _ _ #[_, Value.int .u32 33280] _ _); go_at_call 36; have hh9 : hasC _ 33280 = false := HC.out; refine (has_g _ _ _ false hh9).mono ?_; clear hh9; rintro e wy ⟨rfl, rfl⟩)
        | ((with_reducible show Calls _ _ #[_, Value.int .u32 8] _ _); go_at_call 36; have hh9 : hasC _ 8 = true := HD.out; refine (has_g _ _ _ true hh9).mono ?_; clear hh9; rintro e wy ⟨rfl, rfl⟩)
        | ((with_reducible show Calls _ _ #[_, Value.int .u32 8] _ _); go_at_call 36; have hh9 : hasC _ 8 = false := HD.out; refine (has_g _ _ _ false hh9).mono ?_; clear hh9; rintro e wy ⟨rfl, rfl⟩)
        | ((with_reducible show Calls _ _ #[_, Value.int .u32 524288] _ _); go_at_call 36; have hh9 : hasC _ 524288 = true := HL.out; refine (has_g _ _ _ true hh9).mono ?_; clear hh9; rintro e wy ⟨rfl, rfl⟩)
        | ((with_reducible show Calls _ _ #[_, Value.int .u32 524288] _ _); go_at_call 36; have hh9 : hasC _ 524288 = false := HL.out; refine (has_g _ _ _ false hh9).mono ?_; clear hh9; rintro e wy ⟨rfl, rfl⟩)
        | ((with_reducible show Calls _ _ #[_, Value.int .u32 1048576] _ _); go_at_call 36; have hh9 : hasC _ 1048576 = true := HA9.out; refine (has_g _ _ _ true hh9).mono ?_; clear hh9; rintro e wy ⟨rfl, rfl⟩)
        | ((with_reducible show Calls _ _ #[_, Value.int .u32 1048576] _ _); go_at_call 36; have hh9 : hasC _ 1048576 = false := HA9.out; refine (has_g _ _ _ false hh9).mono ?_; clear hh9; rintro e wy ⟨rfl, rfl⟩)
        | fail)
      go_ret2
      exact ⟨_, rfl, Own.nil _ _, HX0.out.trans hx1⟩
  · have HP := Lib.hid (show plainP [pl] = false by simpa using p1)
    clear p1
    go_enter Try.func6, Try.ntmps6
    go_wp2_with fail
    generalize hW0 : w.alloc _ = wS
    have hb : Box wS w.heap.size [.string (strL pl), .slice An n.length cn] := by rw [← hW0]; exact Box.new w _ _
    have hx0 : Ext w wS := by rw [← hW0]; exact (Ext.refl w).alloc _
    have hsz : w.heap.size + 1 = wS.heap.size := by rw [← hW0]; simp
    have HSZ := Lib.hid hsz
    have HX0 := Lib.hid hx0
    clear hW0 hsz hx0
    have c0 := hb.one' (j := 0) rfl (Ext.refl wS)
    have c1 := hb.one' (j := 1) rfl (Ext.refl wS)
    go_wp2_with (first
      | (go_at_call 25; have hpl9 : plainP [pl] = true := HP.out; refine (plain_g _ _ [pl] true (texts_new _ _ _ (by rfl) _ _ _ HSZ.out (by rfl) (by simp)) hpl9).mono ?_; clear hpl9; rintro e wT ⟨rfl, hq⟩; have hx1 : Ext wS wT := hq ▸ (Ext.refl wS).alloc _; clear hq c0 c1; have c1 := hb.one' (j := 1) rfl hx1)
      | (go_at_call 25; have hpl9 : plainP [pl] = false := HP.out; refine (plain_g _ _ [pl] false (texts_new _ _ _ (by rfl) _ _ _ HSZ.out (by rfl) (by simp)) hpl9).mono ?_; clear hpl9; rintro e wT ⟨rfl, hq⟩; have hx1 : Ext wS wT := hq ▸ (Ext.refl wS).alloc _; clear hq c0 c1; have c1 := hb.one' (j := 1) rfl hx1)
      | (go_at_call 26; have hck9 : checkE n = 0 := HK.out; refine (check_c _ _ n 0 (HN.out.ext (HX0.out.trans hx1)) hck9).mono ?_; clear hck9; rintro e wy ⟨rfl, rfl⟩)
      | (go_at_call 26; have hck9 : checkE n = 2 := HK.out; refine (check_c _ _ n 2 (HN.out.ext (HX0.out.trans hx1)) hck9).mono ?_; clear hck9; rintro e wy ⟨rfl, rfl⟩)
      | ((with_reducible show Calls _ _ #[_, Value.int .u32 33280] _ _); go_at_call 36; have hh9 : hasC _ 33280 = true := HC.out; refine (has_g _ _ _ true hh9).mono ?_; clear hh9; rintro e wy ⟨rfl, rfl⟩)
      | ((with_reducible show Calls _ _ #[_, Value.int .u32 33280] _ _); go_at_call 36; have hh9 : hasC _ 33280 = false := HC.out; refine (has_g _ _ _ false hh9).mono ?_; clear hh9; rintro e wy ⟨rfl, rfl⟩)
      | ((with_reducible show Calls _ _ #[_, Value.int .u32 8] _ _); go_at_call 36; have hh9 : hasC _ 8 = true := HD.out; refine (has_g _ _ _ true hh9).mono ?_; clear hh9; rintro e wy ⟨rfl, rfl⟩)
      | ((with_reducible show Calls _ _ #[_, Value.int .u32 8] _ _); go_at_call 36; have hh9 : hasC _ 8 = false := HD.out; refine (has_g _ _ _ false hh9).mono ?_; clear hh9; rintro e wy ⟨rfl, rfl⟩)
      | ((with_reducible show Calls _ _ #[_, Value.int .u32 524288] _ _); go_at_call 36; have hh9 : hasC _ 524288 = true := HL.out; refine (has_g _ _ _ true hh9).mono ?_; clear hh9; rintro e wy ⟨rfl, rfl⟩)
      | ((with_reducible show Calls _ _ #[_, Value.int .u32 524288] _ _); go_at_call 36; have hh9 : hasC _ 524288 = false := HL.out; refine (has_g _ _ _ false hh9).mono ?_; clear hh9; rintro e wy ⟨rfl, rfl⟩)
      | ((with_reducible show Calls _ _ #[_, Value.int .u32 1048576] _ _); go_at_call 36; have hh9 : hasC _ 1048576 = true := HA9.out; refine (has_g _ _ _ true hh9).mono ?_; clear hh9; rintro e wy ⟨rfl, rfl⟩)
      | ((with_reducible show Calls _ _ #[_, Value.int .u32 1048576] _ _); go_at_call 36; have hh9 : hasC _ 1048576 = false := HA9.out; refine (has_g _ _ _ false hh9).mono ?_; clear hh9; rintro e wy ⟨rfl, rfl⟩)
      | fail)
    go_ret2
    exact ⟨_, rfl, Own.nil _ _, HX0.out.trans hx1⟩
end Go.Proofs.Ytaiakkifefedoaa
