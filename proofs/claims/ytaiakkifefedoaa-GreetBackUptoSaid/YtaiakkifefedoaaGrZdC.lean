import Derived.Test.YtaiakkifefedoaaGrZbC
/- Packets that may not be are refused: changes of user. (Printed by gen_grZb.py.) -/
namespace Go.Proofs.Ytaiakkifefedoaa
open Go.RowKit

set_option linter.unusedVariables false in
set_option maxRecDepth 100000 in
set_option maxHeartbeats 8000000 in
theorem appendChange_z (w : World) (c : Int) (user resp db pl : List UInt8) (ch : Int) (ps : Pairs) (vr va : Value) (hr : Rd w vr resp) (ha : Attrs w va ps) (hch : 0 ≤ ch ∧ ch < 65536) (h : ¬ ChgOk c ⟨user, resp, db, ch, pl, ps⟩) :
    Calls Try.prog 22 #[.slice none 0 0, .int .u32 c, .agg #[.string (strL user), vr, .string (strL db), .int .u16 ch, .string (strL pl), va]] w (RetBE w [] 2) := by
  obtain ⟨Ar, cr, rfl, _⟩ := hr
  obtain ⟨Aa, ca, hva, _, _⟩ := Recs.shape ha
  rw [pairsC_length] at hva
  subst hva
  clear ha
  by_cases p1 : plainP [user, db, pl] = true
  · have HP := Lib.hid p1
    by_cases q3 : (strL pl).toList.isEmpty = true
    · skip
      by_cases hri : (resp.length : Int) ≤ 255
      · skip
        by_cases hni : (ps.length : Int) ≤ 64
        · skip
          by_cases q5 : ((ps.length : Int) == 0) = true
          · skip
            exact absurd ⟨(plain3 p1).1, (plain3 p1).2.1, (plain3 p1).2.2, hch, empty_or (by first | exact .inl q3 | exact .inr q4), by dsimp only; omega, by dsimp only; omega, by first | exact .inr q6 | exact .inl (by simpa using q5)⟩ h
          · have q5 : ((ps.length : Int) == 0) = false := by simpa using q5
            by_cases q6 : hasC c 1048576 = true
            · have HA9 := Lib.hid q6
              exact absurd ⟨(plain3 p1).1, (plain3 p1).2.1, (plain3 p1).2.2, hch, empty_or (by first | exact .inl q3 | exact .inr q4), by dsimp only; omega, by dsimp only; omega, by first | exact .inr q6 | exact .inl (by simpa using q5)⟩ h
            · have HA9 := Lib.hid (show hasC c 1048576 = false by simpa using q6)
              clear q6
              (try (have hgt : 0 < (ps.length : Int) := by (simp at q5; have := List.length_pos_iff.2 q5; omega)))
              go_enter Try.func22, Try.ntmps22
              go_wp2_with fail
              generalize hW0 : w.alloc _ = wS
              have hb : Box wS w.heap.size [.string (strL user), .slice Ar resp.length cr, .string (strL db), .int .u16 ch, .string (strL pl), .slice Aa ps.length ca] := by rw [← hW0]; exact Box.new w _ _
              have hx0 : Ext w wS := by rw [← hW0]; exact (Ext.refl w).alloc _
              have hsz : w.heap.size + 1 = wS.heap.size := by rw [← hW0]; simp
              have HSZ := Lib.hid hsz
              have HX0 := Lib.hid hx0
              clear hW0 hsz hx0
              go_wp2_with (first
                | (go_at_call 25; have hpl9 : plainP [user, db, pl] = true := HP.out; refine (plain_g _ _ [user, db, pl] true (texts_new _ _ _ (by rfl) _ _ _ HSZ.out (by rfl) (by simp)) hpl9).mono ?_; clear hpl9; rintro e wT ⟨rfl, hq⟩; have hx1 : Ext wS wT := hq ▸ (Ext.refl wS).alloc _; clear hq; have c1 := hb.one' (j := 1) rfl hx1; have c4 := hb.one' (j := 4) rfl hx1; have c5 := hb.one' (j := 5) rfl hx1)
                | (go_at_call 25; have hpl9 : plainP [user, db, pl] = false := HP.out; refine (plain_g _ _ [user, db, pl] false (texts_new _ _ _ (by rfl) _ _ _ HSZ.out (by rfl) (by simp)) hpl9).mono ?_; clear hpl9; rintro e wT ⟨rfl, hq⟩; have hx1 : Ext wS wT := hq ▸ (Ext.refl wS).alloc _; clear hq; have c1 := hb.one' (j := 1) rfl hx1; have c4 := hb.one' (j := 4) rfl hx1; have c5 := hb.one' (j := 5) rfl hx1)
                | ((with_reducible show Calls _ _ #[_, Value.int .u32 33280] _ _); go_at_call 36; have hh9 : hasC _ 33280 = true := HC.out; refine (has_g _ _ _ true hh9).mono ?_; clear hh9; rintro e wy ⟨rfl, rfl⟩)
                | ((with_reducible show Calls _ _ #[_, Value.int .u32 33280] _ _); go_at_call 36; have hh9 : hasC _ 33280 = false := HC.out; refine (has_g _ _ _ false hh9).mono ?_; clear hh9; rintro e wy ⟨rfl, rfl⟩)
                | ((with_reducible show Calls _ _ #[_, Value.int .u32 8] _ _); go_at_call 36; have hh9 : hasC _ 8 = true := HD.out; refine (has_g _ _ _ true hh9).mono ?_; clear hh9; rintro e wy ⟨rfl, rfl⟩)
                | ((with_reducible show Calls _ _ #[_, Value.int .u32 8] _ _); go_at_call 36; have hh9 : hasC _ 8 = false := HD.out; refine (has_g _ _ _ false hh9).mono ?_; clear hh9; rintro e wy ⟨rfl, rfl⟩)
                | ((with_reducible show Calls _ _ #[_, Value.int .u32 524288] _ _); go_at_call 36; have hh9 : hasC _ 524288 = true := HL.out; refine (has_g _ _ _ true hh9).mono ?_; clear hh9; rintro e wy ⟨rfl, rfl⟩)
                | ((with_reducible show Calls _ _ #[_, Value.int .u32 524288] _ _); go_at_call 36; have hh9 : hasC _ 524288 = false := HL.out; refine (has_g _ _ _ false hh9).mono ?_; clear hh9; rintro e wy ⟨rfl, rfl⟩)
                | ((with_reducible show Calls _ _ #[_, Value.int .u32 1048576] _ _); go_at_call 36; have hh9 : hasC _ 1048576 = true := HA9.out; refine (has_g _ _ _ true hh9).mono ?_; clear hh9; rintro e wy ⟨rfl, rfl⟩)
                | ((with_reducible show Calls _ _ #[_, Value.int .u32 1048576] _ _); go_at_call 36; have hh9 : hasC _ 1048576 = false := HA9.out; refine (has_g _ _ _ false hh9).mono ?_; clear hh9; rintro e wy ⟨rfl, rfl⟩)
                | fail)
              go_ret2
              exact ⟨_, rfl, Own.nil _ _, HX0.out.trans hx1⟩
        · skip
          (try (have hgt : 0 < (ps.length : Int) := by (simp at q5; have := List.length_pos_iff.2 q5; omega)))
          go_enter Try.func22, Try.ntmps22
          go_wp2_with fail
          generalize hW0 : w.alloc _ = wS
          have hb : Box wS w.heap.size [.string (strL user), .slice Ar resp.length cr, .string (strL db), .int .u16 ch, .string (strL pl), .slice Aa ps.length ca] := by rw [← hW0]; exact Box.new w _ _
          have hx0 : Ext w wS := by rw [← hW0]; exact (Ext.refl w).alloc _
          have hsz : w.heap.size + 1 = wS.heap.size := by rw [← hW0]; simp
          have HSZ := Lib.hid hsz
          have HX0 := Lib.hid hx0
          clear hW0 hsz hx0
          go_wp2_with (first
            | (go_at_call 25; have hpl9 : plainP [user, db, pl] = true := HP.out; refine (plain_g _ _ [user, db, pl] true (texts_new _ _ _ (by rfl) _ _ _ HSZ.out (by rfl) (by simp)) hpl9).mono ?_; clear hpl9; rintro e wT ⟨rfl, hq⟩; have hx1 : Ext wS wT := hq ▸ (Ext.refl wS).alloc _; clear hq; have c1 := hb.one' (j := 1) rfl hx1; have c4 := hb.one' (j := 4) rfl hx1; have c5 := hb.one' (j := 5) rfl hx1)
            | (go_at_call 25; have hpl9 : plainP [user, db, pl] = false := HP.out; refine (plain_g _ _ [user, db, pl] false (texts_new _ _ _ (by rfl) _ _ _ HSZ.out (by rfl) (by simp)) hpl9).mono ?_; clear hpl9; rintro e wT ⟨rfl, hq⟩; have hx1 : Ext wS wT := hq ▸ (Ext.refl wS).alloc _; clear hq; have c1 := hb.one' (j := 1) rfl hx1; have c4 := hb.one' (j := 4) rfl hx1; have c5 := hb.one' (j := 5) rfl hx1)
            | ((with_reducible show Calls _ _ #[_, Value.int .u32 33280] _ _); go_at_call 36; have hh9 : hasC _ 33280 = true := HC.out; refine (has_g _ _ _ true hh9).mono ?_; clear hh9; rintro e wy ⟨rfl, rfl⟩)
            | ((with_reducible show Calls _ _ #[_, Value.int .u32 33280] _ _); go_at_call 36; have hh9 : hasC _ 33280 = false := HC.out; refine (has_g _ _ _ false hh9).mono ?_; clear hh9; rintro e wy ⟨rfl, rfl⟩)
            | ((with_reducible show Calls _ _ #[_, Value.int .u32 8] _ _); go_at_call 36; have hh9 : hasC _ 8 = true := HD.out; refine (has_g _ _ _ true hh9).mono ?_; clear hh9; rintro e wy ⟨rfl, rfl⟩)
            | ((with_reducible show Calls _ _ #[_, Value.int .u32 8] _ _); go_at_call 36; have hh9 : hasC _ 8 = false := HD.out; refine (has_g _ _ _ false hh9).mono ?_; clear hh9; rintro e wy ⟨rfl, rfl⟩)
            | ((with_reducible show Calls _ _ #[_, Value.int .u32 524288] _ _); go_at_call 36; have hh9 : hasC _ 524288 = true := HL.out; refine (has_g _ _ _ true hh9).mono ?_; clear hh9; rintro e wy ⟨rfl, rfl⟩)
            | ((with_reducible show Calls _ _ #[_, Value.int .u32 524288] _ _); go_at_call 36; have hh9 : hasC _ 524288 = false := HL.out; refine (has_g _ _ _ false hh9).mono ?_; clear hh9; rintro e wy ⟨rfl, rfl⟩)
            | ((with_reducible show Calls _ _ #[_, Value.int .u32 1048576] _ _); go_at_call 36; have hh9 : hasC _ 1048576 = true := HA9.out; refine (has_g _ _ _ true hh9).mono ?_; clear hh9; rintro e wy ⟨rfl, rfl⟩)
            | ((with_reducible show Calls _ _ #[_, Value.int .u32 1048576] _ _); go_at_call 36; have hh9 : hasC _ 1048576 = false := HA9.out; refine (has_g _ _ _ false hh9).mono ?_; clear hh9; rintro e wy ⟨rfl, rfl⟩)
            | fail)
          go_ret2
          exact ⟨_, rfl, Own.nil _ _, HX0.out.trans hx1⟩
      · skip
        (try (have hgt : 0 < (ps.length : Int) := by (simp at q5; have := List.length_pos_iff.2 q5; omega)))
        go_enter Try.func22, Try.ntmps22
        go_wp2_with fail
        generalize hW0 : w.alloc _ = wS
        have hb : Box wS w.heap.size [.string (strL user), .slice Ar resp.length cr, .string (strL db), .int .u16 ch, .string (strL pl), .slice Aa ps.length ca] := by rw [← hW0]; exact Box.new w _ _
        have hx0 : Ext w wS := by rw [← hW0]; exact (Ext.refl w).alloc _
        have hsz : w.heap.size + 1 = wS.heap.size := by rw [← hW0]; simp
        have HSZ := Lib.hid hsz
        have HX0 := Lib.hid hx0
        clear hW0 hsz hx0
        go_wp2_with (first
          | (go_at_call 25; have hpl9 : plainP [user, db, pl] = true := HP.out; refine (plain_g _ _ [user, db, pl] true (texts_new _ _ _ (by rfl) _ _ _ HSZ.out (by rfl) (by simp)) hpl9).mono ?_; clear hpl9; rintro e wT ⟨rfl, hq⟩; have hx1 : Ext wS wT := hq ▸ (Ext.refl wS).alloc _; clear hq; have c1 := hb.one' (j := 1) rfl hx1; have c4 := hb.one' (j := 4) rfl hx1; have c5 := hb.one' (j := 5) rfl hx1)
          | (go_at_call 25; have hpl9 : plainP [user, db, pl] = false := HP.out; refine (plain_g _ _ [user, db, pl] false (texts_new _ _ _ (by rfl) _ _ _ HSZ.out (by rfl) (by simp)) hpl9).mono ?_; clear hpl9; rintro e wT ⟨rfl, hq⟩; have hx1 : Ext wS wT := hq ▸ (Ext.refl wS).alloc _; clear hq; have c1 := hb.one' (j := 1) rfl hx1; have c4 := hb.one' (j := 4) rfl hx1; have c5 := hb.one' (j := 5) rfl hx1)
          | ((with_reducible show Calls _ _ #[_, Value.int .u32 33280] _ _); go_at_call 36; have hh9 : hasC _ 33280 = true := HC.out; refine (has_g _ _ _ true hh9).mono ?_; clear hh9; rintro e wy ⟨rfl, rfl⟩)
          | ((with_reducible show Calls _ _ #[_, Value.int .u32 33280] _ _); go_at_call 36; have hh9 : hasC _ 33280 = false := HC.out; refine (has_g _ _ _ false hh9).mono ?_; clear hh9; rintro e wy ⟨rfl, rfl⟩)
          | ((with_reducible show Calls _ _ #[_, Value.int .u32 8] _ _); go_at_call 36; have hh9 : hasC _ 8 = true := HD.out; refine (has_g _ _ _ true hh9).mono ?_; clear hh9; rintro e wy ⟨rfl, rfl⟩)
          | ((with_reducible show Calls _ _ #[_, Value.int .u32 8] _ _); go_at_call 36; have hh9 : hasC _ 8 = false := HD.out; refine (has_g _ _ _ false hh9).mono ?_; clear hh9; rintro e wy ⟨rfl, rfl⟩)
          | ((with_reducible show Calls _ _ #[_, Value.int .u32 524288] _ _); go_at_call 36; have hh9 : hasC _ 524288 = true := HL.out; refine (has_g _ _ _ true hh9).mono ?_; clear hh9; rintro e wy ⟨rfl, rfl⟩)
          | ((with_reducible show Calls _ _ #[_, Value.int .u32 524288] _ _); go_at_call 36; have hh9 : hasC _ 524288 = false := HL.out; refine (has_g _ _ _ false hh9).mono ?_; clear hh9; rintro e wy ⟨rfl, rfl⟩)
          | ((with_reducible show Calls _ _ #[_, Value.int .u32 1048576] _ _); go_at_call 36; have hh9 : hasC _ 1048576 = true := HA9.out; refine (has_g _ _ _ true hh9).mono ?_; clear hh9; rintro e wy ⟨rfl, rfl⟩)
          | ((with_reducible show Calls _ _ #[_, Value.int .u32 1048576] _ _); go_at_call 36; have hh9 : hasC _ 1048576 = false := HA9.out; refine (has_g _ _ _ false hh9).mono ?_; clear hh9; rintro e wy ⟨rfl, rfl⟩)
          | fail)
        go_ret2
        exact ⟨_, rfl, Own.nil _ _, HX0.out.trans hx1⟩
    · have q3 : (strL pl).toList.isEmpty = false := by simpa using q3
      by_cases q4 : hasC c 524288 = true
      · have HL := Lib.hid q4
        by_cases hri : (resp.length : Int) ≤ 255
        · skip
          by_cases hni : (ps.length : Int) ≤ 64
          · skip
            by_cases q5 : ((ps.length : Int) == 0) = true
            · skip
              exact absurd ⟨(plain3 p1).1, (plain3 p1).2.1, (plain3 p1).2.2, hch, empty_or (by first | exact .inl q3 | exact .inr q4), by dsimp only; omega, by dsimp only; omega, by first | exact .inr q6 | exact .inl (by simpa using q5)⟩ h
            · have q5 : ((ps.length : Int) == 0) = false := by simpa using q5
              by_cases q6 : hasC c 1048576 = true
              · have HA9 := Lib.hid q6
                exact absurd ⟨(plain3 p1).1, (plain3 p1).2.1, (plain3 p1).2.2, hch, empty_or (by first | exact .inl q3 | exact .inr q4), by dsimp only; omega, by dsimp only; omega, by first | exact .inr q6 | exact .inl (by simpa using q5)⟩ h
              · have HA9 := Lib.hid (show hasC c 1048576 = false by simpa using q6)
                clear q6
                (try (have hgt : 0 < (ps.length : Int) := by (simp at q5; have := List.length_pos_iff.2 q5; omega)))
                go_enter Try.func22, Try.ntmps22
                go_wp2_with fail
                generalize hW0 : w.alloc _ = wS
                have hb : Box wS w.heap.size [.string (strL user), .slice Ar resp.length cr, .string (strL db), .int .u16 ch, .string (strL pl), .slice Aa ps.length ca] := by rw [← hW0]; exact Box.new w _ _
                have hx0 : Ext w wS := by rw [← hW0]; exact (Ext.refl w).alloc _
                have hsz : w.heap.size + 1 = wS.heap.size := by rw [← hW0]; simp
                have HSZ := Lib.hid hsz
                have HX0 := Lib.hid hx0
                clear hW0 hsz hx0
                go_wp2_with (first
                  | (go_at_call 25; have hpl9 : plainP [user, db, pl] = true := HP.out; refine (plain_g _ _ [user, db, pl] true (texts_new _ _ _ (by rfl) _ _ _ HSZ.out (by rfl) (by simp)) hpl9).mono ?_; clear hpl9; rintro e wT ⟨rfl, hq⟩; have hx1 : Ext wS wT := hq ▸ (Ext.refl wS).alloc _; clear hq; have c1 := hb.one' (j := 1) rfl hx1; have c4 := hb.one' (j := 4) rfl hx1; have c5 := hb.one' (j := 5) rfl hx1)
                  | (go_at_call 25; have hpl9 : plainP [user, db, pl] = false := HP.out; refine (plain_g _ _ [user, db, pl] false (texts_new _ _ _ (by rfl) _ _ _ HSZ.out (by rfl) (by simp)) hpl9).mono ?_; clear hpl9; rintro e wT ⟨rfl, hq⟩; have hx1 : Ext wS wT := hq ▸ (Ext.refl wS).alloc _; clear hq; have c1 := hb.one' (j := 1) rfl hx1; have c4 := hb.one' (j := 4) rfl hx1; have c5 := hb.one' (j := 5) rfl hx1)
                  | ((with_reducible show Calls _ _ #[_, Value.int .u32 33280] _ _); go_at_call 36; have hh9 : hasC _ 33280 = true := HC.out; refine (has_g _ _ _ true hh9).mono ?_; clear hh9; rintro e wy ⟨rfl, rfl⟩)
                  | ((with_reducible show Calls _ _ #[_, Value.int .u32 33280] _ _); go_at_call 36; have hh9 : hasC _ 33280 = false := HC.out; refine (has_g _ _ _ false hh9).mono ?_; clear hh9; rintro e wy ⟨rfl, rfl⟩)
                  | ((with_reducible show Calls _ _ #[_, Value.int .u32 8] _ _); go_at_call 36; have hh9 : hasC _ 8 = true := HD.out; refine (has_g _ _ _ true hh9).mono ?_; clear hh9; rintro e wy ⟨rfl, rfl⟩)
                  | ((with_reducible show Calls _ _ #[_, Value.int .u32 8] _ _); go_at_call 36; have hh9 : hasC _ 8 = false := HD.out; refine (has_g _ _ _ false hh9).mono ?_; clear hh9; rintro e wy ⟨rfl, rfl⟩)
                  | ((with_reducible show Calls _ _ #[_, Value.int .u32 524288] _ _); go_at_call 36; have hh9 : hasC _ 524288 = true := HL.out; refine (has_g _ _ _ true hh9).mono ?_; clear hh9; rintro e wy ⟨rfl, rfl⟩)
                  | ((with_reducible show Calls _ _ #[_, Value.int .u32 524288] _ _); go_at_call 36; have hh9 : hasC _ 524288 = false := HL.out; refine (has_g _ _ _ false hh9).mono ?_; clear hh9; rintro e wy ⟨rfl, rfl⟩)
                  | ((with_reducible show Calls _ _ #[_, Value.int .u32 1048576] _ _); go_at_call 36; have hh9 : hasC _ 1048576 = true := HA9.out; refine (has_g _ _ _ true hh9).mono ?_; clear hh9; rintro e wy ⟨rfl, rfl⟩)
                  | ((with_reducible show Calls _ _ #[_, Value.int .u32 1048576] _ _); go_at_call 36; have hh9 : hasC _ 1048576 = false := HA9.out; refine (has_g _ _ _ false hh9).mono ?_; clear hh9; rintro e wy ⟨rfl, rfl⟩)
                  | fail)
                go_ret2
                exact ⟨_, rfl, Own.nil _ _, HX0.out.trans hx1⟩
          · skip
            (try (have hgt : 0 < (ps.length : Int) := by (simp at q5; have := List.length_pos_iff.2 q5; omega)))
            go_enter Try.func22, Try.ntmps22
            go_wp2_with fail
            generalize hW0 : w.alloc _ = wS
            have hb : Box wS w.heap.size [.string (strL user), .slice Ar resp.length cr, .string (strL db), .int .u16 ch, .string (strL pl), .slice Aa ps.length ca] := by rw [← hW0]; exact Box.new w _ _
            have hx0 : Ext w wS := by rw [← hW0]; exact (Ext.refl w).alloc _
            have hsz : w.heap.size + 1 = wS.heap.size := by rw [← hW0]; simp
            have HSZ := Lib.hid hsz
            have HX0 := Lib.hid hx0
            clear hW0 hsz hx0
            go_wp2_with (first
              | (go_at_call 25; have hpl9 : plainP [user, db, pl] = true := HP.out; refine (plain_g _ _ [user, db, pl] true (texts_new _ _ _ (by rfl) _ _ _ HSZ.out (by rfl) (by simp)) hpl9).mono ?_; clear hpl9; rintro e wT ⟨rfl, hq⟩; have hx1 : Ext wS wT := hq ▸ (Ext.refl wS).alloc _; clear hq; have c1 := hb.one' (j := 1) rfl hx1; have c4 := hb.one' (j := 4) rfl hx1; have c5 := hb.one' (j := 5) rfl hx1)
              | (go_at_call 25; have hpl9 : plainP [user, db, pl] = false := HP.out; refine (plain_g _ _ [user, db, pl] false (texts_new _ _ _ (by rfl) _ _ _ HSZ.out (by rfl) (by simp)) hpl9).mono ?_; clear hpl9; rintro e wT ⟨rfl, hq⟩; have hx1 : Ext wS wT := hq ▸ (Ext.refl wS).alloc _; clear hq; have c1 := hb.one' (j := 1) rfl hx1; have c4 := hb.one' (j := 4) rfl hx1; have c5 := hb.one' (j := 5) rfl hx1)
              | ((with_reducible show Calls _ _ #[_, Value.int .u32 33280] _ _); go_at_call 36; have hh9 : hasC _ 33280 = true := HC.out; refine (has_g _ _ _ true hh9).mono ?_; clear hh9; rintro e wy ⟨rfl, rfl⟩)
              | ((with_reducible show Calls _ _ #[_, Value.int .u32 33280] _ _); go_at_call 36; have hh9 : hasC _ 33280 = false := HC.out; refine (has_g _ _ _ false hh9).mono ?_; clear hh9; rintro e wy ⟨rfl, rfl⟩)
              | ((with_reducible show Calls _ _ #[_, Value.int .u32 8] _ _); go_at_call 36; have hh9 : hasC _ 8 = true := HD.out; refine (has_g _ _ _ true hh9).mono ?_; clear hh9; rintro e wy ⟨rfl, rfl⟩)
              | ((with_reducible show Calls _ _ #[_, Value.int .u32 8] _ _); go_at_call 36; have hh9 : hasC _ 8 = false := HD.out; refine (has_g _ _ _ false hh9).mono ?_; clear hh9; rintro e wy ⟨rfl, rfl⟩)
              | ((with_reducible show Calls _ _ #[_, Value.int .u32 524288] _ _); go_at_call 36; have hh9 : hasC _ 524288 = true := HL.out; refine (has_g _ _ _ true hh9).mono ?_; clear hh9; rintro e wy ⟨rfl, rfl⟩)
              | ((with_reducible show Calls _ _ #[_, Value.int .u32 524288] _ _); go_at_call 36; have hh9 : hasC _ 524288 = false := HL.out; refine (has_g _ _ _ false hh9).mono ?_; clear hh9; rintro e wy ⟨rfl, rfl⟩)
              | ((with_reducible show Calls _ _ #[_, Value.int .u32 1048576] _ _); go_at_call 36; have hh9 : hasC _ 1048576 = true := HA9.out; refine (has_g _ _ _ true hh9).mono ?_; clear hh9; rintro e wy ⟨rfl, rfl⟩)
              | ((with_reducible show Calls _ _ #[_, Value.int .u32 1048576] _ _); go_at_call 36; have hh9 : hasC _ 1048576 = false := HA9.out; refine (has_g _ _ _ false hh9).mono ?_; clear hh9; rintro e wy ⟨rfl, rfl⟩)
              | fail)
            go_ret2
            exact ⟨_, rfl, Own.nil _ _, HX0.out.trans hx1⟩
        · skip
          (try (have hgt : 0 < (ps.length : Int) := by (simp at q5; have := List.length_pos_iff.2 q5; omega)))
          go_enter Try.func22, Try.ntmps22
          go_wp2_with fail
          generalize hW0 : w.alloc _ = wS
          have hb : Box wS w.heap.size [.string (strL user), .slice Ar resp.length cr, .string (strL db), .int .u16 ch, .string (strL pl), .slice Aa ps.length ca] := by rw [← hW0]; exact Box.new w _ _
          have hx0 : Ext w wS := by rw [← hW0]; exact (Ext.refl w).alloc _
          have hsz : w.heap.size + 1 = wS.heap.size := by rw [← hW0]; simp
          have HSZ := Lib.hid hsz
          have HX0 := Lib.hid hx0
          clear hW0 hsz hx0
          go_wp2_with (first
            | (go_at_call 25; have hpl9 : plainP [user, db, pl] = true := HP.out; refine (plain_g _ _ [user, db, pl] true (texts_new _ _ _ (by rfl) _ _ _ HSZ.out (by rfl) (by simp)) hpl9).mono ?_; clear hpl9; rintro e wT ⟨rfl, hq⟩; have hx1 : Ext wS wT := hq ▸ (Ext.refl wS).alloc _; clear hq; have c1 := hb.one' (j := 1) rfl hx1; have c4 := hb.one' (j := 4) rfl hx1; have c5 := hb.one' (j := 5) rfl hx1)
            | (go_at_call 25; have hpl9 : plainP [user, db, pl] = false := HP.out; refine (plain_g _ _ [user, db, pl] false (texts_new _ _ _ (by rfl) _ _ _ HSZ.out (by rfl) (by simp)) hpl9).mono ?_; clear hpl9; rintro e wT ⟨rfl, hq⟩; have hx1 : Ext wS wT := hq ▸ (Ext.refl wS).alloc _; clear hq; have c1 := hb.one' (j := 1) rfl hx1; have c4 := hb.one' (j := 4) rfl hx1; have c5 := hb.one' (j := 5) rfl hx1)
            | ((with_reducible show Calls _ _ #[_, Value.int .u32 33280] _ _); go_at_call 36; have hh9 : hasC _ 33280 = true := HC.out; refine (has_g _ _ _ true hh9).mono ?_; clear hh9; rintro e wy ⟨rfl, rfl⟩)
            | ((with_reducible show Calls _ _ #[_, Value.int .u32 33280] _ _); go_at_call 36; have hh9 : hasC _ 33280 = false := HC.out; refine (has_g _ _ _ false hh9).mono ?_; clear hh9; rintro e wy ⟨rfl, rfl⟩)
            | ((with_reducible show Calls _ _ #[_, Value.int .u32 8] _ _); go_at_call 36; have hh9 : hasC _ 8 = true := HD.out; refine (has_g _ _ _ true hh9).mono ?_; clear hh9; rintro e wy ⟨rfl, rfl⟩)
            | ((with_reducible show Calls _ _ #[_, Value.int .u32 8] _ _); go_at_call 36; have hh9 : hasC _ 8 = false := HD.out; refine (has_g _ _ _ false hh9).mono ?_; clear hh9; rintro e wy ⟨rfl, rfl⟩)
            | ((with_reducible show Calls _ _ #[_, Value.int .u32 524288] _ _); go_at_call 36; have hh9 : hasC _ 524288 = true := HL.out; refine (has_g _ _ _ true hh9).mono ?_; clear hh9; rintro e wy ⟨rfl, rfl⟩)
            | ((with_reducible show Calls _ _ #[_, Value.int .u32 524288] _ _); go_at_call 36; have hh9 : hasC _ 524288 = false := HL.out; refine (has_g _ _ _ false hh9).mono ?_; clear hh9; rintro e wy ⟨rfl, rfl⟩)
            | ((with_reducible show Calls _ _ #[_, Value.int .u32 1048576] _ _); go_at_call 36; have hh9 : hasC _ 1048576 = true := HA9.out; refine (has_g _ _ _ true hh9).mono ?_; clear hh9; rintro e wy ⟨rfl, rfl⟩)
            | ((with_reducible show Calls _ _ #[_, Value.int .u32 1048576] _ _); go_at_call 36; have hh9 : hasC _ 1048576 = false := HA9.out; refine (has_g _ _ _ false hh9).mono ?_; clear hh9; rintro e wy ⟨rfl, rfl⟩)
            | fail)
          go_ret2
          exact ⟨_, rfl, Own.nil _ _, HX0.out.trans hx1⟩
      · have HL := Lib.hid (show hasC c 524288 = false by simpa using q4)
        clear q4
        (try (have hgt : 0 < (ps.length : Int) := by (simp at q5; have := List.length_pos_iff.2 q5; omega)))
        go_enter Try.func22, Try.ntmps22
        go_wp2_with fail
        generalize hW0 : w.alloc _ = wS
        have hb : Box wS w.heap.size [.string (strL user), .slice Ar resp.length cr, .string (strL db), .int .u16 ch, .string (strL pl), .slice Aa ps.length ca] := by rw [← hW0]; exact Box.new w _ _
        have hx0 : Ext w wS := by rw [← hW0]; exact (Ext.refl w).alloc _
        have hsz : w.heap.size + 1 = wS.heap.size := by rw [← hW0]; simp
        have HSZ := Lib.hid hsz
        have HX0 := Lib.hid hx0
        clear hW0 hsz hx0
        go_wp2_with (first
          | (go_at_call 25; have hpl9 : plainP [user, db, pl] = true := HP.out; refine (plain_g _ _ [user, db, pl] true (texts_new _ _ _ (by rfl) _ _ _ HSZ.out (by rfl) (by simp)) hpl9).mono ?_; clear hpl9; rintro e wT ⟨rfl, hq⟩; have hx1 : Ext wS wT := hq ▸ (Ext.refl wS).alloc _; clear hq; have c1 := hb.one' (j := 1) rfl hx1; have c4 := hb.one' (j := 4) rfl hx1; have c5 := hb.one' (j := 5) rfl hx1)
          | (go_at_call 25; have hpl9 : plainP [user, db, pl] = false := HP.out; refine (plain_g _ _ [user, db, pl] false (texts_new _ _ _ (by rfl) _ _ _ HSZ.out (by rfl) (by simp)) hpl9).mono ?_; clear hpl9; rintro e wT ⟨rfl, hq⟩; have hx1 : Ext wS wT := hq ▸ (Ext.refl wS).alloc _; clear hq; have c1 := hb.one' (j := 1) rfl hx1; have c4 := hb.one' (j := 4) rfl hx1; have c5 := hb.one' (j := 5) rfl hx1)
          | ((with_reducible show Calls _ _ #[_, Value.int .u32 33280] _ _); go_at_call 36; have hh9 : hasC _ 33280 = true := HC.out; refine (has_g _ _ _ true hh9).mono ?_; clear hh9; rintro e wy ⟨rfl, rfl⟩)
          | ((with_reducible show Calls _ _ #[_, Value.int .u32 33280] _ _); go_at_call 36; have hh9 : hasC _ 33280 = false := HC.out; refine (has_g _ _ _ false hh9).mono ?_; clear hh9; rintro e wy ⟨rfl, rfl⟩)
          | ((with_reducible show Calls _ _ #[_, Value.int .u32 8] _ _); go_at_call 36; have hh9 : hasC _ 8 = true := HD.out; refine (has_g _ _ _ true hh9).mono ?_; clear hh9; rintro e wy ⟨rfl, rfl⟩)
          | ((with_reducible show Calls _ _ #[_, Value.int .u32 8] _ _); go_at_call 36; have hh9 : hasC _ 8 = false := HD.out; refine (has_g _ _ _ false hh9).mono ?_; clear hh9; rintro e wy ⟨rfl, rfl⟩)
          | ((with_reducible show Calls _ _ #[_, Value.int .u32 524288] _ _); go_at_call 36; have hh9 : hasC _ 524288 = true := HL.out; refine (has_g _ _ _ true hh9).mono ?_; clear hh9; rintro e wy ⟨rfl, rfl⟩)
          | ((with_reducible show Calls _ _ #[_, Value.int .u32 524288] _ _); go_at_call 36; have hh9 : hasC _ 524288 = false := HL.out; refine (has_g _ _ _ false hh9).mono ?_; clear hh9; rintro e wy ⟨rfl, rfl⟩)
          | ((with_reducible show Calls _ _ #[_, Value.int .u32 1048576] _ _); go_at_call 36; have hh9 : hasC _ 1048576 = true := HA9.out; refine (has_g _ _ _ true hh9).mono ?_; clear hh9; rintro e wy ⟨rfl, rfl⟩)
          | ((with_reducible show Calls _ _ #[_, Value.int .u32 1048576] _ _); go_at_call 36; have hh9 : hasC _ 1048576 = false := HA9.out; refine (has_g _ _ _ false hh9).mono ?_; clear hh9; rintro e wy ⟨rfl, rfl⟩)
          | fail)
        go_ret2
        exact ⟨_, rfl, Own.nil _ _, HX0.out.trans hx1⟩
  · have HP := Lib.hid (show plainP [user, db, pl] = false by simpa using p1)
    clear p1
    (try (have hgt : 0 < (ps.length : Int) := by (simp at q5; have := List.length_pos_iff.2 q5; omega)))
    go_enter Try.func22, Try.ntmps22
    go_wp2_with fail
    generalize hW0 : w.alloc _ = wS
    have hb : Box wS w.heap.size [.string (strL user), .slice Ar resp.length cr, .string (strL db), .int .u16 ch, .string (strL pl), .slice Aa ps.length ca] := by rw [← hW0]; exact Box.new w _ _
    have hx0 : Ext w wS := by rw [← hW0]; exact (Ext.refl w).alloc _
    have hsz : w.heap.size + 1 = wS.heap.size := by rw [← hW0]; simp
    have HSZ := Lib.hid hsz
    have HX0 := Lib.hid hx0
    clear hW0 hsz hx0
    go_wp2_with (first
      | (go_at_call 25; have hpl9 : plainP [user, db, pl] = true := HP.out; refine (plain_g _ _ [user, db, pl] true (texts_new _ _ _ (by rfl) _ _ _ HSZ.out (by rfl) (by simp)) hpl9).mono ?_; clear hpl9; rintro e wT ⟨rfl, hq⟩; have hx1 : Ext wS wT := hq ▸ (Ext.refl wS).alloc _; clear hq; have c1 := hb.one' (j := 1) rfl hx1; have c4 := hb.one' (j := 4) rfl hx1; have c5 := hb.one' (j := 5) rfl hx1)
      | (go_at_call 25; have hpl9 : plainP [user, db, pl] = false := HP.out; refine (plain_g _ _ [user, db, pl] false (texts_new _ _ _ (by rfl) _ _ _ HSZ.out (by rfl) (by simp)) hpl9).mono ?_; clear hpl9; rintro e wT ⟨rfl, hq⟩; have hx1 : Ext wS wT := hq ▸ (Ext.refl wS).alloc _; clear hq; have c1 := hb.one' (j := 1) rfl hx1; have c4 := hb.one' (j := 4) rfl hx1; have c5 := hb.one' (j := 5) rfl hx1)
      | ((with_reducible show Calls _ _ #[_, Value.int .u32 33280] _ _); go_at_call 36; have hh9 : hasC _ 33280 = true := HC.out; refine (has_g _ _ _ true hh9).mono ?_; clear hh9; rintro e wy ⟨rfl, rfl⟩)
      | ((with_reducible show Calls _ _ #[_, Value.int .u32 33280] _ _); go_at_call 36; have hh9 : hasC _ 33280 = false := HC.out; refine (has_g _ _ _ false hh9).mono ?_; clear hh9; rintro e wy ⟨rfl, rfl⟩)
      | ((with_reducible show Calls _ _ #[_, Value.int .u32 8] _ _); go_at_call 36; have hh9 : hasC _ 8 = true := HD.out; refine (has_g _ _ _ true hh9).mono ?_; clear hh9; rintro e wy ⟨rfl, rfl⟩)
      | ((with_reducible show Calls _ _ #[_, Value.int .u32 8] _ _); go_at_call 36; have hh9 : hasC _ 8 = false := HD.out; refine (has_g _ _ _ false hh9).mono ?_; clear hh9; rintro e wy ⟨rfl, rfl⟩)
      | ((with_reducible show Calls _ _ #[_, Value.int .u32 524288] _ _); go_at_call 36; have hh9 : hasC _ 524288 = true := HL.out; refine (has_g _ _ _ true hh9).mono ?_; clear hh9; rintro e wy ⟨rfl, rfl⟩)
      | ((with_reducible show Calls _ _ #[_, Value.int .u32 524288] _ _); go_at_call 36; have hh9 : hasC _ 524288 = false := HL.out; refine (has_g _ _ _ false hh9).mono ?_; clear hh9; rintro e wy ⟨rfl, rfl⟩)
      | ((with_reducible show Calls _ _ #[_, Value.int .u32 1048576] _ _); go_at_call 36; have hh9 : hasC _ 1048576 = true := HA9.out; refine (has_g _ _ _ true hh9).mono ?_; clear hh9; rintro e wy ⟨rfl, rfl⟩)
      | ((with_reducible show Calls _ _ #[_, Value.int .u32 1048576] _ _); go_at_call 36; have hh9 : hasC _ 1048576 = false := HA9.out; refine (has_g _ _ _ false hh9).mono ?_; clear hh9; rintro e wy ⟨rfl, rfl⟩)
      | fail)
    go_ret2
    exact ⟨_, rfl, Own.nil _ _, HX0.out.trans hx1⟩
end Go.Proofs.Ytaiakkifefedoaa
