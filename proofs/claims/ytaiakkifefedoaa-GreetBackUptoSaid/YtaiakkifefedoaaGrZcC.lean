import Derived.Test.YtaiakkifefedoaaGrZbC
import Derived.Test.YtaiakkifefedoaaGrJC
/- Packets that may not be are refused: answers. (Printed by gen_grZb.py.) -/
namespace Go.Proofs.Ytaiakkifefedoaa
open Go.RowKit

set_option linter.unusedVariables false in
set_option maxRecDepth 100000 in
set_option maxHeartbeats 16000000 in
theorem fineAnswer_z (w : World) (caps most ch : Int) (user resp db pl : List UInt8) (ps : Pairs) (Ar Aa : Option Addr) (cr ca : Nat) (hcaps : 0 ≤ caps ∧ caps < 4294967296) (hmost : 0 ≤ most ∧ most < 4294967296) (hch : 0 ≤ ch ∧ ch < 256) (h : ¬ AnsOk ⟨caps, most, ch, user, resp, db, pl, ps⟩) :
    Calls Try.prog 39 #[.agg #[.int .u32 caps, .int .u32 most, .int .u8 ch, .string (strL user), .slice Ar resp.length cr, .string (strL db), .string (strL pl), .slice Aa ps.length ca]] w fun e w' => e = .returned (.bool false) ∧ Ext w w' := by
  by_cases p1 : plainP [user, db, pl] = true
  · have HP := Lib.hid p1
    by_cases q1 : (strL db).toList.isEmpty = true
    · skip
      by_cases q3 : (strL pl).toList.isEmpty = true
      · skip
        by_cases p3 : hasC caps 33280 = true
        · have HC := Lib.hid p3
          by_cases hri : (resp.length : Int) ≤ 255
          · skip
            by_cases hni : (ps.length : Int) ≤ 64
            · skip
              by_cases q5 : ((ps.length : Int) == 0) = true
              · skip
                exact absurd ⟨hcaps, hmost, hch, p3, (plain3 p1).1, (plain3 p1).2.1, (plain3 p1).2.2, empty_or (by first | exact .inl q1 | exact .inr q2), empty_or (by first | exact .inl q3 | exact .inr q4), by dsimp only; omega, by dsimp only; omega, by first | exact .inr q6 | exact .inl (by simpa using q5)⟩ h
              · have q5 : ((ps.length : Int) == 0) = false := by simpa using q5
                by_cases q6 : hasC caps 1048576 = true
                · have HA9 := Lib.hid q6
                  exact absurd ⟨hcaps, hmost, hch, p3, (plain3 p1).1, (plain3 p1).2.1, (plain3 p1).2.2, empty_or (by first | exact .inl q1 | exact .inr q2), empty_or (by first | exact .inl q3 | exact .inr q4), by dsimp only; omega, by dsimp only; omega, by first | exact .inr q6 | exact .inl (by simpa using q5)⟩ h
                · have HA9 := Lib.hid (show hasC caps 1048576 = false by simpa using q6)
                  clear q6
                  go_enter Try.func39, Try.ntmps39
                  go_wp2_with fail
                  generalize hW0 : w.alloc _ = wS
                  have hb : Box wS w.heap.size [.int .u32 caps, .int .u32 most, .int .u8 ch, .string (strL user), .slice Ar resp.length cr, .string (strL db), .string (strL pl), .slice Aa ps.length ca] := by rw [← hW0]; exact Box.new w _ _
                  have hx0 : Ext w wS := by rw [← hW0]; exact (Ext.refl w).alloc _
                  have hsz : w.heap.size + 1 = wS.heap.size := by rw [← hW0]; simp
                  have HSZ := Lib.hid hsz
                  have HX0 := Lib.hid hx0
                  clear hW0 hsz hx0
                  go_wp2_with (first
                    | (go_at_call 25; have hpl9 : plainP [user, db, pl] = true := HP.out; refine (plain_g _ _ [user, db, pl] true (texts_new _ _ _ (by rfl) _ _ _ HSZ.out (by rfl) (by simp)) hpl9).mono ?_; clear hpl9; rintro e wT ⟨rfl, hq⟩; have hx1 : Ext wS wT := hq ▸ (Ext.refl wS).alloc _; clear hq; have c0 := hb.one' (j := 0) rfl hx1; have c4 := hb.one' (j := 4) rfl hx1; have c5 := hb.one' (j := 5) rfl hx1; have c6 := hb.one' (j := 6) rfl hx1; have c7 := hb.one' (j := 7) rfl hx1)
                    | (go_at_call 25; have hpl9 : plainP [user, db, pl] = false := HP.out; refine (plain_g _ _ [user, db, pl] false (texts_new _ _ _ (by rfl) _ _ _ HSZ.out (by rfl) (by simp)) hpl9).mono ?_; clear hpl9; rintro e wT ⟨rfl, hq⟩; have hx1 : Ext wS wT := hq ▸ (Ext.refl wS).alloc _; clear hq; have c0 := hb.one' (j := 0) rfl hx1; have c4 := hb.one' (j := 4) rfl hx1; have c5 := hb.one' (j := 5) rfl hx1; have c6 := hb.one' (j := 6) rfl hx1; have c7 := hb.one' (j := 7) rfl hx1)
                    | ((with_reducible show Calls _ _ #[_, Value.int .u32 33280] _ _); go_at_call 36; have hh9 : hasC _ 33280 = true := HC.out; refine (has_g _ _ _ true hh9).mono ?_; clear hh9; rintro e wy ⟨rfl, rfl⟩)
                    | ((with_reducible show Calls _ _ #[_, Value.int .u32 33280] _ _); go_at_call 36; have hh9 : hasC _ 33280 = false := HC.out; refine (has_g _ _ _ false hh9).mono ?_; clear hh9; rintro e wy ⟨rfl, rfl⟩)
                    | ((with_reducible show Calls _ _ #[_, Value.int .u32 8] _ _); go_at_call 36; have hh9 : hasC _ 8 = true := HD.out; refine (has_g _ _ _ true hh9).mono ?_; clear hh9; rintro e wy ⟨rfl, rfl⟩)
                    | ((with_reducible show Calls _ _ #[_, Value.int .u32 8] _ _); go_at_call 36; have hh9 : hasC _ 8 = false := HD.out; refine (has_g _ _ _ false hh9).mono ?_; clear hh9; rintro e wy ⟨rfl, rfl⟩)
                    | ((with_reducible show Calls _ _ #[_, Value.int .u32 524288] _ _); go_at_call 36; have hh9 : hasC _ 524288 = true := HL.out; refine (has_g _ _ _ true hh9).mono ?_; clear hh9; rintro e wy ⟨rfl, rfl⟩)
                    | ((with_reducible show Calls _ _ #[_, Value.int .u32 524288] _ _); go_at_call 36; have hh9 : hasC _ 524288 = false := HL.out; refine (has_g _ _ _ false hh9).mono ?_; clear hh9; rintro e wy ⟨rfl, rfl⟩)
                    | ((with_reducible show Calls _ _ #[_, Value.int .u32 1048576] _ _); go_at_call 36; have hh9 : hasC _ 1048576 = true := HA9.out; refine (has_g _ _ _ true hh9).mono ?_; clear hh9; rintro e wy ⟨rfl, rfl⟩)
                    | ((with_reducible show Calls _ _ #[_, Value.int .u32 1048576] _ _); go_at_call 36; have hh9 : hasC _ 1048576 = false := HA9.out; refine (has_g _ _ _ false hh9).mono ?_; clear hh9; rintro e wy ⟨rfl, rfl⟩)
                    | fail)
                  go_ret
                  exact ⟨rfl, HX0.out.trans hx1⟩
            · skip
              go_enter Try.func39, Try.ntmps39
              go_wp2_with fail
              generalize hW0 : w.alloc _ = wS
              have hb : Box wS w.heap.size [.int .u32 caps, .int .u32 most, .int .u8 ch, .string (strL user), .slice Ar resp.length cr, .string (strL db), .string (strL pl), .slice Aa ps.length ca] := by rw [← hW0]; exact Box.new w _ _
              have hx0 : Ext w wS := by rw [← hW0]; exact (Ext.refl w).alloc _
              have hsz : w.heap.size + 1 = wS.heap.size := by rw [← hW0]; simp
              have HSZ := Lib.hid hsz
              have HX0 := Lib.hid hx0
              clear hW0 hsz hx0
              go_wp2_with (first
                | (go_at_call 25; have hpl9 : plainP [user, db, pl] = true := HP.out; refine (plain_g _ _ [user, db, pl] true (texts_new _ _ _ (by rfl) _ _ _ HSZ.out (by rfl) (by simp)) hpl9).mono ?_; clear hpl9; rintro e wT ⟨rfl, hq⟩; have hx1 : Ext wS wT := hq ▸ (Ext.refl wS).alloc _; clear hq; have c0 := hb.one' (j := 0) rfl hx1; have c4 := hb.one' (j := 4) rfl hx1; have c5 := hb.one' (j := 5) rfl hx1; have c6 := hb.one' (j := 6) rfl hx1; have c7 := hb.one' (j := 7) rfl hx1)
                | (go_at_call 25; have hpl9 : plainP [user, db, pl] = false := HP.out; refine (plain_g _ _ [user, db, pl] false (texts_new _ _ _ (by rfl) _ _ _ HSZ.out (by rfl) (by simp)) hpl9).mono ?_; clear hpl9; rintro e wT ⟨rfl, hq⟩; have hx1 : Ext wS wT := hq ▸ (Ext.refl wS).alloc _; clear hq; have c0 := hb.one' (j := 0) rfl hx1; have c4 := hb.one' (j := 4) rfl hx1; have c5 := hb.one' (j := 5) rfl hx1; have c6 := hb.one' (j := 6) rfl hx1; have c7 := hb.one' (j := 7) rfl hx1)
                | ((with_reducible show Calls _ _ #[_, Value.int .u32 33280] _ _); go_at_call 36; have hh9 : hasC _ 33280 = true := HC.out; refine (has_g _ _ _ true hh9).mono ?_; clear hh9; rintro e wy ⟨rfl, rfl⟩)
                | ((with_reducible show Calls _ _ #[_, Value.int .u32 33280] _ _); go_at_call 36; have hh9 : hasC _ 33280 = false := HC.out; refine (has_g _ _ _ false hh9).mono ?_; clear hh9; rintro e wy ⟨rfl, rfl⟩)
                | ((with_reducible show Calls _ _ #[_, Value.int .u32 8] _ _); go_at_call 36; have hh9 : hasC _ 8 = true := HD.out; refine (has_g _ _ _ true hh9).mono ?_; clear hh9; rintro e wy ⟨rfl, rfl⟩)
                | ((with_reducible show Calls _ _ #[_, Value.int .u32 8] _ _); go_at_call 36; have hh9 : hasC _ 8 = false := HD.out; refine (has_g _ _ _ false hh9).mono ?_; clear hh9; rintro e wy ⟨rfl, rfl⟩)
                | ((with_reducible show Calls _ _ #[_, Value.int .u32 524288] _ _); go_at_call 36; have hh9 : hasC _ 524288 = true := HL.out; refine (has_g _ _ _ true hh9).mono ?_; clear hh9; rintro e wy ⟨rfl, rfl⟩)
                | ((with_reducible show Calls _ _ #[_, Value.int .u32 524288] _ _); go_at_call 36; have hh9 : hasC _ 524288 = false := HL.out; refine (has_g _ _ _ false hh9).mono ?_; clear hh9; rintro e wy ⟨rfl, rfl⟩)
                | ((with_reducible show Calls _ _ #[_, Value.int .u32 1048576] _ _); go_at_call 36; have hh9 : hasC _ 1048576 = true := HA9.out; refine (has_g _ _ _ true hh9).mono ?_; clear hh9; rintro e wy ⟨rfl, rfl⟩)
                | ((with_reducible show Calls _ _ #[_, Value.int .u32 1048576] _ _); go_at_call 36; have hh9 : hasC _ 1048576 = false := HA9.out; refine (has_g _ _ _ false hh9).mono ?_; clear hh9; rintro e wy ⟨rfl, rfl⟩)
                | fail)
              go_ret
              exact ⟨rfl, HX0.out.trans hx1⟩
          · skip
            go_enter Try.func39, Try.ntmps39
            go_wp2_with fail
            generalize hW0 : w.alloc _ = wS
            have hb : Box wS w.heap.size [.int .u32 caps, .int .u32 most, .int .u8 ch, .string (strL user), .slice Ar resp.length cr, .string (strL db), .string (strL pl), .slice Aa ps.length ca] := by rw [← hW0]; exact Box.new w _ _
            have hx0 : Ext w wS := by rw [← hW0]; exact (Ext.refl w).alloc _
            have hsz : w.heap.size + 1 = wS.heap.size := by rw [← hW0]; simp
            have HSZ := Lib.hid hsz
            have HX0 := Lib.hid hx0
            clear hW0 hsz hx0
            go_wp2_with (first
              | (go_at_call 25; have hpl9 : plainP [user, db, pl] = true := HP.out; refine (plain_g _ _ [user, db, pl] true (texts_new _ _ _ (by rfl) _ _ _ HSZ.out (by rfl) (by simp)) hpl9).mono ?_; clear hpl9; rintro e wT ⟨rfl, hq⟩; have hx1 : Ext wS wT := hq ▸ (Ext.refl wS).alloc _; clear hq; have c0 := hb.one' (j := 0) rfl hx1; have c4 := hb.one' (j := 4) rfl hx1; have c5 := hb.one' (j := 5) rfl hx1; have c6 := hb.one' (j := 6) rfl hx1; have c7 := hb.one' (j := 7) rfl hx1)
              | (go_at_call 25; have hpl9 : plainP [user, db, pl] = false := HP.out; refine (plain_g _ _ [user, db, pl] false (texts_new _ _ _ (by rfl) _ _ _ HSZ.out (by rfl) (by simp)) hpl9).mono ?_; clear hpl9; rintro e wT ⟨rfl, hq⟩; have hx1 : Ext wS wT := hq ▸ (Ext.refl wS).alloc _; clear hq; have c0 := hb.one' (j := 0) rfl hx1; have c4 := hb.one' (j := 4) rfl hx1; have c5 := hb.one' (j := 5) rfl hx1; have c6 := hb.one' (j := 6) rfl hx1; have c7 := hb.one' (j := 7) rfl hx1)
              | ((with_reducible show Calls _ _ #[_, Value.int .u32 33280] _ _); go_at_call 36; have hh9 : hasC _ 33280 = true := HC.out; refine (has_g _ _ _ true hh9).mono ?_; clear hh9; rintro e wy ⟨rfl, rfl⟩)
              | ((with_reducible show Calls _ _ #[_, Value.int .u32 33280] _ _); go_at_call 36; have hh9 : hasC _ 33280 = false := HC.out; refine (has_g _ _ _ false hh9).mono ?_; clear hh9; rintro e wy ⟨rfl, rfl⟩)
              | ((with_reducible show Calls _ _ #[_, Value.int .u32 8] _ _); go_at_call 36; have hh9 : hasC _ 8 = true := HD.out; refine (has_g _ _ _ true hh9).mono ?_; clear hh9; rintro e wy ⟨rfl, rfl⟩)
              | ((with_reducible show Calls _ _ #[_, Value.int .u32 8] _ _); go_at_call 36; have hh9 : hasC _ 8 = false := HD.out; refine (has_g _ _ _ false hh9).mono ?_; clear hh9; rintro e wy ⟨rfl, rfl⟩)
              | ((with_reducible show Calls _ _ #[_, Value.int .u32 524288] _ _); go_at_call 36; have hh9 : hasC _ 524288 = true := HL.out; refine (has_g _ _ _ true hh9).mono ?_; clear hh9; rintro e wy ⟨rfl, rfl⟩)
              | ((with_reducible show Calls _ _ #[_, Value.int .u32 524288] _ _); go_at_call 36; have hh9 : hasC _ 524288 = false := HL.out; refine (has_g _ _ _ false hh9).mono ?_; clear hh9; rintro e wy ⟨rfl, rfl⟩)
              | ((with_reducible show Calls _ _ #[_, Value.int .u32 1048576] _ _); go_at_call 36; have hh9 : hasC _ 1048576 = true := HA9.out; refine (has_g _ _ _ true hh9).mono ?_; clear hh9; rintro e wy ⟨rfl, rfl⟩)
              | ((with_reducible show Calls _ _ #[_, Value.int .u32 1048576] _ _); go_at_call 36; have hh9 : hasC _ 1048576 = false := HA9.out; refine (has_g _ _ _ false hh9).mono ?_; clear hh9; rintro e wy ⟨rfl, rfl⟩)
              | fail)
            go_ret
            exact ⟨rfl, HX0.out.trans hx1⟩
        · have HC := Lib.hid (show hasC caps 33280 = false by simpa using p3)
          clear p3
          go_enter Try.func39, Try.ntmps39
          go_wp2_with fail
          generalize hW0 : w.alloc _ = wS
          have hb : Box wS w.heap.size [.int .u32 caps, .int .u32 most, .int .u8 ch, .string (strL user), .slice Ar resp.length cr, .string (strL db), .string (strL pl), .slice Aa ps.length ca] := by rw [← hW0]; exact Box.new w _ _
          have hx0 : Ext w wS := by rw [← hW0]; exact (Ext.refl w).alloc _
          have hsz : w.heap.size + 1 = wS.heap.size := by rw [← hW0]; simp
          have HSZ := Lib.hid hsz
          have HX0 := Lib.hid hx0
          clear hW0 hsz hx0
          go_wp2_with (first
            | (go_at_call 25; have hpl9 : plainP [user, db, pl] = true := HP.out; refine (plain_g _ _ [user, db, pl] true (texts_new _ _ _ (by rfl) _ _ _ HSZ.out (by rfl) (by simp)) hpl9).mono ?_; clear hpl9; rintro e wT ⟨rfl, hq⟩; have hx1 : Ext wS wT := hq ▸ (Ext.refl wS).alloc _; clear hq; have c0 := hb.one' (j := 0) rfl hx1; have c4 := hb.one' (j := 4) rfl hx1; have c5 := hb.one' (j := 5) rfl hx1; have c6 := hb.one' (j := 6) rfl hx1; have c7 := hb.one' (j := 7) rfl hx1)
            | (go_at_call 25; have hpl9 : plainP [user, db, pl] = false := HP.out; refine (plain_g _ _ [user, db, pl] false (texts_new _ _ _ (by rfl) _ _ _ HSZ.out (by rfl) (by simp)) hpl9).mono ?_; clear hpl9; rintro e wT ⟨rfl, hq⟩; have hx1 : Ext wS wT := hq ▸ (Ext.refl wS).alloc _; clear hq; have c0 := hb.one' (j := 0) rfl hx1; have c4 := hb.one' (j := 4) rfl hx1; have c5 := hb.one' (j := 5) rfl hx1; have c6 := hb.one' (j := 6) rfl hx1; have c7 := hb.one' (j := 7) rfl hx1)
            | ((with_reducible show Calls _ _ #[_, Value.int .u32 33280] _ _); go_at_call 36; have hh9 : hasC _ 33280 = true := HC.out; refine (has_g _ _ _ true hh9).mono ?_; clear hh9; rintro e wy ⟨rfl, rfl⟩)
            | ((with_reducible show Calls _ _ #[_, Value.int .u32 33280] _ _); go_at_call 36; have hh9 : hasC _ 33280 = false := HC.out; refine (has_g _ _ _ false hh9).mono ?_; clear hh9; rintro e wy ⟨rfl, rfl⟩)
            | ((with_reducible show Calls _ _ #[_, Value.int .u32 8] _ _); go_at_call 36; have hh9 : hasC _ 8 = true := HD.out; refine (has_g _ _ _ true hh9).mono ?_; clear hh9; rintro e wy ⟨rfl, rfl⟩)
            | ((with_reducible show Calls _ _ #[_, Value.int .u32 8] _ _); go_at_call 36; have hh9 : hasC _ 8 = false := HD.out; refine (has_g _ _ _ false hh9).mono ?_; clear hh9; rintro e wy ⟨rfl, rfl⟩)
            | ((with_reducible show Calls _ _ #[_, Value.int .u32 524288] _ _); go_at_call 36; have hh9 : hasC _ 524288 = true := HL.out; refine (has_g _ _ _ true hh9).mono ?_; clear hh9; rintro e wy ⟨rfl, rfl⟩)
            | ((with_reducible show Calls _ _ #[_, Value.int .u32 524288] _ _); go_at_call 36; have hh9 : hasC _ 524288 = false := HL.out; refine (has_g _ _ _ false hh9).mono ?_; clear hh9; rintro e wy ⟨rfl, rfl⟩)
            | ((with_reducible show Calls _ _ #[_, Value.int .u32 1048576] _ _); go_at_call 36; have hh9 : hasC _ 1048576 = true := HA9.out; refine (has_g _ _ _ true hh9).mono ?_; clear hh9; rintro e wy ⟨rfl, rfl⟩)
            | ((with_reducible show Calls _ _ #[_, Value.int .u32 1048576] _ _); go_at_call 36; have hh9 : hasC _ 1048576 = false := HA9.out; refine (has_g _ _ _ false hh9).mono ?_; clear hh9; rintro e wy ⟨rfl, rfl⟩)
            | fail)
          go_ret
          exact ⟨rfl, HX0.out.trans hx1⟩
      · have q3 : (strL pl).toList.isEmpty = false := by simpa using q3
        by_cases q4 : hasC caps 524288 = true
        · have HL := Lib.hid q4
          by_cases p3 : hasC caps 33280 = true
          · have HC := Lib.hid p3
            by_cases hri : (resp.length : Int) ≤ 255
            · skip
              by_cases hni : (ps.length : Int) ≤ 64
              · skip
                by_cases q5 : ((ps.length : Int) == 0) = true
                · skip
                  exact absurd ⟨hcaps, hmost, hch, p3, (plain3 p1).1, (plain3 p1).2.1, (plain3 p1).2.2, empty_or (by first | exact .inl q1 | exact .inr q2), empty_or (by first | exact .inl q3 | exact .inr q4), by dsimp only; omega, by dsimp only; omega, by first | exact .inr q6 | exact .inl (by simpa using q5)⟩ h
                · have q5 : ((ps.length : Int) == 0) = false := by simpa using q5
                  by_cases q6 : hasC caps 1048576 = true
                  · have HA9 := Lib.hid q6
                    exact absurd ⟨hcaps, hmost, hch, p3, (plain3 p1).1, (plain3 p1).2.1, (plain3 p1).2.2, empty_or (by first | exact .inl q1 | exact .inr q2), empty_or (by first | exact .inl q3 | exact .inr q4), by dsimp only; omega, by dsimp only; omega, by first | exact .inr q6 | exact .inl (by simpa using q5)⟩ h
                  · have HA9 := Lib.hid (show hasC caps 1048576 = false by simpa using q6)
                    clear q6
                    go_enter Try.func39, Try.ntmps39
                    go_wp2_with fail
                    generalize hW0 : w.alloc _ = wS
                    have hb : Box wS w.heap.size [.int .u32 caps, .int .u32 most, .int .u8 ch, .string (strL user), .slice Ar resp.length cr, .string (strL db), .string (strL pl), .slice Aa ps.length ca] := by rw [← hW0]; exact Box.new w _ _
                    have hx0 : Ext w wS := by rw [← hW0]; exact (Ext.refl w).alloc _
                    have hsz : w.heap.size + 1 = wS.heap.size := by rw [← hW0]; simp
                    have HSZ := Lib.hid hsz
                    have HX0 := Lib.hid hx0
                    clear hW0 hsz hx0
                    go_wp2_with (first
                      | (go_at_call 25; have hpl9 : plainP [user, db, pl] = true := HP.out; refine (plain_g _ _ [user, db, pl] true (texts_new _ _ _ (by rfl) _ _ _ HSZ.out (by rfl) (by simp)) hpl9).mono ?_; clear hpl9; rintro e wT ⟨rfl, hq⟩; have hx1 : Ext wS wT := hq ▸ (Ext.refl wS).alloc _; clear hq; have c0 := hb.one' (j := 0) rfl hx1; have c4 := hb.one' (j := 4) rfl hx1; have c5 := hb.one' (j := 5) rfl hx1; have c6 := hb.one' (j := 6) rfl hx1; have c7 := hb.one' (j := 7) rfl hx1)
                      | (go_at_call 25; have hpl9 : plainP [user, db, pl] = false := HP.out; refine (plain_g _ _ [user, db, pl] false (texts_new _ _ _ (by rfl) _ _ _ HSZ.out (by rfl) (by simp)) hpl9).mono ?_; clear hpl9; rintro e wT ⟨rfl, hq⟩; have hx1 : Ext wS wT := hq ▸ (Ext.refl wS).alloc _; clear hq; have c0 := hb.one' (j := 0) rfl hx1; have c4 := hb.one' (j := 4) rfl hx1; have c5 := hb.one' (j := 5) rfl hx1; have c6 := hb.one' (j := 6) rfl hx1; have c7 := hb.one' (j := 7) rfl hx1)
                      | ((with_reducible show Calls _ _ #[_, Value.int .u32 33280] _ _); go_at_call 36; have hh9 : hasC _ 33280 = true := HC.out; refine (has_g _ _ _ true hh9).mono ?_; clear hh9; rintro e wy ⟨rfl, rfl⟩)
                      | ((with_reducible show Calls _ _ #[_, Value.int .u32 33280] _ _); go_at_call 36; have hh9 : hasC _ 33280 = false := HC.out; refine (has_g _ _ _ false hh9).mono ?_; clear hh9; rintro e wy ⟨rfl, rfl⟩)
                      | ((with_reducible show Calls _ _ #[_, Value.int .u32 8] _ _); go_at_call 36; have hh9 : hasC _ 8 = true := HD.out; refine (has_g _ _ _ true hh9).mono ?_; clear hh9; rintro e wy ⟨rfl, rfl⟩)
                      | ((with_reducible show Calls _ _ #[_, Value.int .u32 8] _ _); go_at_call 36; have hh9 : hasC _ 8 = false := HD.out; refine (has_g _ _ _ false hh9).mono ?_; clear hh9; rintro e wy ⟨rfl, rfl⟩)
                      | ((with_reducible show Calls _ _ #[_, Value.int .u32 524288] _ _); go_at_call 36; have hh9 : hasC _ 524288 = true := HL.out; refine (has_g _ _ _ true hh9).mono ?_; clear hh9; rintro e wy ⟨rfl, rfl⟩)
                      | ((with_reducible show Calls _ _ #[_, Value.int .u32 524288] _ _); go_at_call 36; have hh9 : hasC _ 524288 = false := HL.out; refine (has_g _ _ _ false hh9).mono ?_; clear hh9; rintro e wy ⟨rfl, rfl⟩)
                      | ((with_reducible show Calls _ _ #[_, Value.int .u32 1048576] _ _); go_at_call 36; have hh9 : hasC _ 1048576 = true := HA9.out; refine (has_g _ _ _ true hh9).mono ?_; clear hh9; rintro e wy ⟨rfl, rfl⟩)
                      | ((with_reducible show Calls _ _ #[_, Value.int .u32 1048576] _ _); go_at_call 36; have hh9 : hasC _ 1048576 = false := HA9.out; refine (has_g _ _ _ false hh9).mono ?_; clear hh9; rintro e wy ⟨rfl, rfl⟩)
                      | fail)
                    go_ret
                    exact ⟨rfl, HX0.out.trans hx1⟩
              · skip
                go_enter Try.func39, Try.ntmps39
                go_wp2_with fail
                generalize hW0 : w.alloc _ = wS
                have hb : Box wS w.heap.size [.int .u32 caps, .int .u32 most, .int .u8 ch, .string (strL user), .slice Ar resp.length cr, .string (strL db), .string (strL pl), .slice Aa ps.length ca] := by rw [← hW0]; exact Box.new w _ _
                have hx0 : Ext w wS := by rw [← hW0]; exact (Ext.refl w).alloc _
                have hsz : w.heap.size + 1 = wS.heap.size := by rw [← hW0]; simp
                have HSZ := Lib.hid hsz
                have HX0 := Lib.hid hx0
                clear hW0 hsz hx0
                go_wp2_with (first
                  | (go_at_call 25; have hpl9 : plainP [user, db, pl] = true := HP.out; refine (plain_g _ _ [user, db, pl] true (texts_new _ _ _ (by rfl) _ _ _ HSZ.out (by rfl) (by simp)) hpl9).mono ?_; clear hpl9; rintro e wT ⟨rfl, hq⟩; have hx1 : Ext wS wT := hq ▸ (Ext.refl wS).alloc _; clear hq; have c0 := hb.one' (j := 0) rfl hx1; have c4 := hb.one' (j := 4) rfl hx1; have c5 := hb.one' (j := 5) rfl hx1; have c6 := hb.one' (j := 6) rfl hx1; have c7 := hb.one' (j := 7) rfl hx1)
                  | (go_at_call 25; have hpl9 : plainP [user, db, pl] = false := HP.out; refine (plain_g _ _ [user, db, pl] false (texts_new _ _ _ (by rfl) _ _ _ HSZ.out (by rfl) (by simp)) hpl9).mono ?_; clear hpl9; rintro e wT ⟨rfl, hq⟩; have hx1 : Ext wS wT := hq ▸ (Ext.refl wS).alloc _; clear hq; have c0 := hb.one' (j := 0) rfl hx1; have c4 := hb.one' (j := 4) rfl hx1; have c5 := hb.one' (j := 5) rfl hx1; have c6 := hb.one' (j := 6) rfl hx1; have c7 := hb.one' (j := 7) rfl hx1)
                  | ((with_reducible show Calls _ _ #[_, Value.int .u32 33280] _ _); go_at_call 36; have hh9 : hasC _ 33280 = true := HC.out; refine (has_g _ _ _ true hh9).mono ?_; clear hh9; rintro e wy ⟨rfl, rfl⟩)
                  | ((with_reducible show Calls _ _ #[_, Value.int .u32 33280] _ _); go_at_call 36; have hh9 : hasC _ 33280 = false := HC.out; refine (has_g _ _ _ false hh9).mono ?_; clear hh9; rintro e wy ⟨rfl, rfl⟩)
                  | ((with_reducible show Calls _ _ #[_, Value.int .u32 8] _ _); go_at_call 36; have hh9 : hasC _ 8 = true := HD.out; refine (has_g _ _ _ true hh9).mono ?_; clear hh9; rintro e wy ⟨rfl, rfl⟩)
                  | ((with_reducible show Calls _ _ #[_, Value.int .u32 8] _ _); go_at_call 36; have hh9 : hasC _ 8 = false := HD.out; refine (has_g _ _ _ false hh9).mono ?_; clear hh9; rintro e wy ⟨rfl, rfl⟩)
                  | ((with_reducible show Calls _ _ #[_, Value.int .u32 524288] _ _); go_at_call 36; have hh9 : hasC _ 524288 = true := HL.out; refine (has_g _ _ _ true hh9).mono ?_; clear hh9; rintro e wy ⟨rfl, rfl⟩)
                  | ((with_reducible show Calls _ _ #[_, Value.int .u32 524288] _ _); go_at_call 36; have hh9 : hasC _ 524288 = false := HL.out; refine (has_g _ _ _ false hh9).mono ?_; clear hh9; rintro e wy ⟨rfl, rfl⟩)
                  | ((with_reducible show Calls _ _ #[_, Value.int .u32 1048576] _ _); go_at_call 36; have hh9 : hasC _ 1048576 = true := HA9.out; refine (has_g _ _ _ true hh9).mono ?_; clear hh9; rintro e wy ⟨rfl, rfl⟩)
                  | ((with_reducible show Calls _ _ #[_, Value.int .u32 1048576] _ _); go_at_call 36; have hh9 : hasC _ 1048576 = false := HA9.out; refine (has_g _ _ _ false hh9).mono ?_; clear hh9; rintro e wy ⟨rfl, rfl⟩)
                  | fail)
                go_ret
                exact ⟨rfl, HX0.out.trans hx1⟩
            · skip
              go_enter Try.func39, Try.ntmps39
              go_wp2_with fail
              generalize hW0 : w.alloc _ = wS
              have hb : Box wS w.heap.size [.int .u32 caps, .int .u32 most, .int .u8 ch, .string (strL user), .slice Ar resp.length cr, .string (strL db), .string (strL pl), .slice Aa ps.length ca] := by rw [← hW0]; exact Box.new w _ _
              have hx0 : Ext w wS := by rw [← hW0]; exact (Ext.refl w).alloc _
              have hsz : w.heap.size + 1 = wS.heap.size := by rw [← hW0]; simp
              have HSZ := Lib.hid hsz
              have HX0 := Lib.hid hx0
              clear hW0 hsz hx0
              go_wp2_with (first
                | (go_at_call 25; have hpl9 : plainP [user, db, pl] = true := HP.out; refine (plain_g _ _ [user, db, pl] true (texts_new _ _ _ (by rfl) _ _ _ HSZ.out (by rfl) (by simp)) hpl9).mono ?_; clear hpl9; rintro e wT ⟨rfl, hq⟩; have hx1 : Ext wS wT := hq ▸ (Ext.refl wS).alloc _; clear hq; have c0 := hb.one' (j := 0) rfl hx1; have c4 := hb.one' (j := 4) rfl hx1; have c5 := hb.one' (j := 5) rfl hx1; have c6 := hb.one' (j := 6) rfl hx1; have c7 := hb.one' (j := 7) rfl hx1)
                | (go_at_call 25; have hpl9 : plainP [user, db, pl] = false := HP.out; refine (plain_g _ _ [user, db, pl] false (texts_new _ _ _ (by rfl) _ _ _ HSZ.out (by rfl) (by simp)) hpl9).mono ?_; clear hpl9; rintro e wT ⟨rfl, hq⟩; have hx1 : Ext wS wT := hq ▸ (Ext.refl wS).alloc _; clear hq; have c0 := hb.one' (j := 0) rfl hx1; have c4 := hb.one' (j := 4) rfl hx1; have c5 := hb.one' (j := 5) rfl hx1; have c6 := hb.one' (j := 6) rfl hx1; have c7 := hb.one' (j := 7) rfl hx1)
                | ((with_reducible show Calls _ _ #[_, Value.int .u32 33280] _ _); go_at_call 36; have hh9 : hasC _ 33280 = true := HC.out; refine (has_g _ _ _ true hh9).mono ?_; clear hh9; rintro e wy ⟨rfl, rfl⟩)
                | ((with_reducible show Calls _ _ #[_, Value.int .u32 33280] _ _); go_at_call 36; have hh9 : hasC _ 33280 = false := HC.out; refine (has_g _ _ _ false hh9).mono ?_; clear hh9; rintro e wy ⟨rfl, rfl⟩)
                | ((with_reducible show Calls _ _ #[_, Value.int .u32 8] _ _); go_at_call 36; have hh9 : hasC _ 8 = true := HD.out; refine (has_g _ _ _ true hh9).mono ?_; clear hh9; rintro e wy ⟨rfl, rfl⟩)
                | ((with_reducible show Calls _ _ #[_, Value.int .u32 8] _ _); go_at_call 36; have hh9 : hasC _ 8 = false := HD.out; refine (has_g _ _ _ false hh9).mono ?_; clear hh9; rintro e wy ⟨rfl, rfl⟩)
                | ((with_reducible show Calls _ _ #[_, Value.int .u32 524288] _ _); go_at_call 36; have hh9 : hasC _ 524288 = true := HL.out; refine (has_g _ _ _ true hh9).mono ?_; clear hh9; rintro e wy ⟨rfl, rfl⟩)
                | ((with_reducible show Calls _ _ #[_, Value.int .u32 524288] _ _); go_at_call 36; have hh9 : hasC _ 524288 = false := HL.out; refine (has_g _ _ _ false hh9).mono ?_; clear hh9; rintro e wy ⟨rfl, rfl⟩)
                | ((with_reducible show Calls _ _ #[_, Value.int .u32 1048576] _ _); go_at_call 36; have hh9 : hasC _ 1048576 = true := HA9.out; refine (has_g _ _ _ true hh9).mono ?_; clear hh9; rintro e wy ⟨rfl, rfl⟩)
                | ((with_reducible show Calls _ _ #[_, Value.int .u32 1048576] _ _); go_at_call 36; have hh9 : hasC _ 1048576 = false := HA9.out; refine (has_g _ _ _ false hh9).mono ?_; clear hh9; rintro e wy ⟨rfl, rfl⟩)
                | fail)
              go_ret
              exact ⟨rfl, HX0.out.trans hx1⟩
          · have HC := Lib.hid (show hasC caps 33280 = false by simpa using p3)
            clear p3
            go_enter Try.func39, Try.ntmps39
            go_wp2_with fail
            generalize hW0 : w.alloc _ = wS
            have hb : Box wS w.heap.size [.int .u32 caps, .int .u32 most, .int .u8 ch, .string (strL user), .slice Ar resp.length cr, .string (strL db), .string (strL pl), .slice Aa ps.length ca] := by rw [← hW0]; exact Box.new w _ _
            have hx0 : Ext w wS := by rw [← hW0]; exact (Ext.refl w).alloc _
            have hsz : w.heap.size + 1 = wS.heap.size := by rw [← hW0]; simp
            have HSZ := Lib.hid hsz
            have HX0 := Lib.hid hx0
            clear hW0 hsz hx0
            go_wp2_with (first
              | (go_at_call 25; have hpl9 : plainP [user, db, pl] = true := HP.out; refine (plain_g _ _ [user, db, pl] true (texts_new _ _ _ (by rfl) _ _ _ HSZ.out (by rfl) (by simp)) hpl9).mono ?_; clear hpl9; rintro e wT ⟨rfl, hq⟩; have hx1 : Ext wS wT := hq ▸ (Ext.refl wS).alloc _; clear hq; have c0 := hb.one' (j := 0) rfl hx1; have c4 := hb.one' (j := 4) rfl hx1; have c5 := hb.one' (j := 5) rfl hx1; have c6 := hb.one' (j := 6) rfl hx1; have c7 := hb.one' (j := 7) rfl hx1)
              | (go_at_call 25; have hpl9 : plainP [user, db, pl] = false := HP.out; refine (plain_g _ _ [user, db, pl] false (texts_new _ _ _ (by rfl) _ _ _ HSZ.out (by rfl) (by simp)) hpl9).mono ?_; clear hpl9; rintro e wT ⟨rfl, hq⟩; have hx1 : Ext wS wT := hq ▸ (Ext.refl wS).alloc _; clear hq; have c0 := hb.one' (j := 0) rfl hx1; have c4 := hb.one' (j := 4) rfl hx1; have c5 := hb.one' (j := 5) rfl hx1; have c6 := hb.one' (j := 6) rfl hx1; have c7 := hb.one' (j := 7) rfl hx1)
              | ((with_reducible show Calls _ _ #[_, Value.int .u32 33280] _ _); go_at_call 36; have hh9 : hasC _ 33280 = true := HC.out; refine (has_g _ _ _ true hh9).mono ?_; clear hh9; rintro e wy ⟨rfl, rfl⟩)
              | ((with_reducible show Calls _ _ #[_, Value.int .u32 33280] _ _); go_at_call 36; have hh9 : hasC _ 33280 = false := HC.out; refine (has_g _ _ _ false hh9).mono ?_; clear hh9; rintro e wy ⟨rfl, rfl⟩)
              | ((with_reducible show Calls _ _ #[_, Value.int .u32 8] _ _); go_at_call 36; have hh9 : hasC _ 8 = true := HD.out; refine (has_g _ _ _ true hh9).mono ?_; clear hh9; rintro e wy ⟨rfl, rfl⟩)
              | ((with_reducible show Calls _ _ #[_, Value.int .u32 8] _ _); go_at_call 36; have hh9 : hasC _ 8 = false := HD.out; refine (has_g _ _ _ false hh9).mono ?_; clear hh9; rintro e wy ⟨rfl, rfl⟩)
              | ((with_reducible show Calls _ _ #[_, Value.int .u32 524288] _ _); go_at_call 36; have hh9 : hasC _ 524288 = true := HL.out; refine (has_g _ _ _ true hh9).mono ?_; clear hh9; rintro e wy ⟨rfl, rfl⟩)
              | ((with_reducible show Calls _ _ #[_, Value.int .u32 524288] _ _); go_at_call 36; have hh9 : hasC _ 524288 = false := HL.out; refine (has_g _ _ _ false hh9).mono ?_; clear hh9; rintro e wy ⟨rfl, rfl⟩)
              | ((with_reducible show Calls _ _ #[_, Value.int .u32 1048576] _ _); go_at_call 36; have hh9 : hasC _ 1048576 = true := HA9.out; refine (has_g _ _ _ true hh9).mono ?_; clear hh9; rintro e wy ⟨rfl, rfl⟩)
              | ((with_reducible show Calls _ _ #[_, Value.int .u32 1048576] _ _); go_at_call 36; have hh9 : hasC _ 1048576 = false := HA9.out; refine (has_g _ _ _ false hh9).mono ?_; clear hh9; rintro e wy ⟨rfl, rfl⟩)
              | fail)
            go_ret
            exact ⟨rfl, HX0.out.trans hx1⟩
        · have HL := Lib.hid (show hasC caps 524288 = false by simpa using q4)
          clear q4
          go_enter Try.func39, Try.ntmps39
          go_wp2_with fail
          generalize hW0 : w.alloc _ = wS
          have hb : Box wS w.heap.size [.int .u32 caps, .int .u32 most, .int .u8 ch, .string (strL user), .slice Ar resp.length cr, .string (strL db), .string (strL pl), .slice Aa ps.length ca] := by rw [← hW0]; exact Box.new w _ _
          have hx0 : Ext w wS := by rw [← hW0]; exact (Ext.refl w).alloc _
          have hsz : w.heap.size + 1 = wS.heap.size := by rw [← hW0]; simp
          have HSZ := Lib.hid hsz
          have HX0 := Lib.hid hx0
          clear hW0 hsz hx0
          go_wp2_with (first
            | (go_at_call 25; have hpl9 : plainP [user, db, pl] = true := HP.out; refine (plain_g _ _ [user, db, pl] true (texts_new _ _ _ (by rfl) _ _ _ HSZ.out (by rfl) (by simp)) hpl9).mono ?_; clear hpl9; rintro e wT ⟨rfl, hq⟩; have hx1 : Ext wS wT := hq ▸ (Ext.refl wS).alloc _; clear hq; have c0 := hb.one' (j := 0) rfl hx1; have c4 := hb.one' (j := 4) rfl hx1; have c5 := hb.one' (j := 5) rfl hx1; have c6 := hb.one' (j := 6) rfl hx1; have c7 := hb.one' (j := 7) rfl hx1)
            | (go_at_call 25; have hpl9 : plainP [user, db, pl] = false := HP.out; refine (plain_g _ _ [user, db, pl] false (texts_new _ _ _ (by rfl) _ _ _ HSZ.out (by rfl) (by simp)) hpl9).mono ?_; clear hpl9; rintro e wT ⟨rfl, hq⟩; have hx1 : Ext wS wT := hq ▸ (Ext.refl wS).alloc _; clear hq; have c0 := hb.one' (j := 0) rfl hx1; have c4 := hb.one' (j := 4) rfl hx1; have c5 := hb.one' (j := 5) rfl hx1; have c6 := hb.one' (j := 6) rfl hx1; have c7 := hb.one' (j := 7) rfl hx1)
            | ((with_reducible show Calls _ _ #[_, Value.int .u32 33280] _ _); go_at_call 36; have hh9 : hasC _ 33280 = true := HC.out; refine (has_g _ _ _ true hh9).mono ?_; clear hh9; rintro e wy ⟨rfl, rfl⟩)
            | ((with_reducible show Calls _ _ #[_, Value.int .u32 33280] _ _); go_at_call 36; have hh9 : hasC _ 33280 = false := HC.out; refine (has_g _ _ _ false hh9).mono ?_; clear hh9; rintro e wy ⟨rfl, rfl⟩)
            | ((with_reducible show Calls _ _ #[_, Value.int .u32 8] _ _); go_at_call 36; have hh9 : hasC _ 8 = true := HD.out; refine (has_g _ _ _ true hh9).mono ?_; clear hh9; rintro e wy ⟨rfl, rfl⟩)
            | ((with_reducible show Calls _ _ #[_, Value.int .u32 8] _ _); go_at_call 36; have hh9 : hasC _ 8 = false := HD.out; refine (has_g _ _ _ false hh9).mono ?_; clear hh9; rintro e wy ⟨rfl, rfl⟩)
            | ((with_reducible show Calls _ _ #[_, Value.int .u32 524288] _ _); go_at_call 36; have hh9 : hasC _ 524288 = true := HL.out; refine (has_g _ _ _ true hh9).mono ?_; clear hh9; rintro e wy ⟨rfl, rfl⟩)
            | ((with_reducible show Calls _ _ #[_, Value.int .u32 524288] _ _); go_at_call 36; have hh9 : hasC _ 524288 = false := HL.out; refine (has_g _ _ _ false hh9).mono ?_; clear hh9; rintro e wy ⟨rfl, rfl⟩)
            | ((with_reducible show Calls _ _ #[_, Value.int .u32 1048576] _ _); go_at_call 36; have hh9 : hasC _ 1048576 = true := HA9.out; refine (has_g _ _ _ true hh9).mono ?_; clear hh9; rintro e wy ⟨rfl, rfl⟩)
            | ((with_reducible show Calls _ _ #[_, Value.int .u32 1048576] _ _); go_at_call 36; have hh9 : hasC _ 1048576 = false := HA9.out; refine (has_g _ _ _ false hh9).mono ?_; clear hh9; rintro e wy ⟨rfl, rfl⟩)
            | fail)
          go_ret
          exact ⟨rfl, HX0.out.trans hx1⟩
    · have q1 : (strL db).toList.isEmpty = false := by simpa using q1
      by_cases q2 : hasC caps 8 = true
      · have HD := Lib.hid q2
        by_cases q3 : (strL pl).toList.isEmpty = true
        · skip
          by_cases p3 : hasC caps 33280 = true
          · have HC := Lib.hid p3
            by_cases hri : (resp.length : Int) ≤ 255
            · skip
              by_cases hni : (ps.length : Int) ≤ 64
              · skip
                by_cases q5 : ((ps.length : Int) == 0) = true
                · skip
                  exact absurd ⟨hcaps, hmost, hch, p3, (plain3 p1).1, (plain3 p1).2.1, (plain3 p1).2.2, empty_or (by first | exact .inl q1 | exact .inr q2), empty_or (by first | exact .inl q3 | exact .inr q4), by dsimp only; omega, by dsimp only; omega, by first | exact .inr q6 | exact .inl (by simpa using q5)⟩ h
                · have q5 : ((ps.length : Int) == 0) = false := by simpa using q5
                  by_cases q6 : hasC caps 1048576 = true
                  · have HA9 := Lib.hid q6
                    exact absurd ⟨hcaps, hmost, hch, p3, (plain3 p1).1, (plain3 p1).2.1, (plain3 p1).2.2, empty_or (by first | exact .inl q1 | exact .inr q2), empty_or (by first | exact .inl q3 | exact .inr q4), by dsimp only; omega, by dsimp only; omega, by first | exact .inr q6 | exact .inl (by simpa using q5)⟩ h
                  · have HA9 := Lib.hid (show hasC caps 1048576 = false by simpa using q6)
                    clear q6
                    go_enter Try.func39, Try.ntmps39
                    go_wp2_with fail
                    generalize hW0 : w.alloc _ = wS
                    have hb : Box wS w.heap.size [.int .u32 caps, .int .u32 most, .int .u8 ch, .string (strL user), .slice Ar resp.length cr, .string (strL db), .string (strL pl), .slice Aa ps.length ca] := by rw [← hW0]; exact Box.new w _ _
                    have hx0 : Ext w wS := by rw [← hW0]; exact (Ext.refl w).alloc _
                    have hsz : w.heap.size + 1 = wS.heap.size := by rw [← hW0]; simp
                    have HSZ := Lib.hid hsz
                    have HX0 := Lib.hid hx0
                    clear hW0 hsz hx0
                    go_wp2_with (first
                      | (go_at_call 25; have hpl9 : plainP [user, db, pl] = true := HP.out; refine (plain_g _ _ [user, db, pl] true (texts_new _ _ _ (by rfl) _ _ _ HSZ.out (by rfl) (by simp)) hpl9).mono ?_; clear hpl9; rintro e wT ⟨rfl, hq⟩; have hx1 : Ext wS wT := hq ▸ (Ext.refl wS).alloc _; clear hq; have c0 := hb.one' (j := 0) rfl hx1; have c4 := hb.one' (j := 4) rfl hx1; have c5 := hb.one' (j := 5) rfl hx1; have c6 := hb.one' (j := 6) rfl hx1; have c7 := hb.one' (j := 7) rfl hx1)
                      | (go_at_call 25; have hpl9 : plainP [user, db, pl] = false := HP.out; refine (plain_g _ _ [user, db, pl] false (texts_new _ _ _ (by rfl) _ _ _ HSZ.out (by rfl) (by simp)) hpl9).mono ?_; clear hpl9; rintro e wT ⟨rfl, hq⟩; have hx1 : Ext wS wT := hq ▸ (Ext.refl wS).alloc _; clear hq; have c0 := hb.one' (j := 0) rfl hx1; have c4 := hb.one' (j := 4) rfl hx1; have c5 := hb.one' (j := 5) rfl hx1; have c6 := hb.one' (j := 6) rfl hx1; have c7 := hb.one' (j := 7) rfl hx1)
                      | ((with_reducible show Calls _ _ #[_, Value.int .u32 33280] _ _); go_at_call 36; have hh9 : hasC _ 33280 = true := HC.out; refine (has_g _ _ _ true hh9).mono ?_; clear hh9; rintro e wy ⟨rfl, rfl⟩)
                      | ((with_reducible show Calls _ _ #[_, Value.int .u32 33280] _ _); go_at_call 36; have hh9 : hasC _ 33280 = false := HC.out; refine (has_g _ _ _ false hh9).mono ?_; clear hh9; rintro e wy ⟨rfl, rfl⟩)
                      | ((with_reducible show Calls _ _ #[_, Value.int .u32 8] _ _); go_at_call 36; have hh9 : hasC _ 8 = true := HD.out; refine (has_g _ _ _ true hh9).mono ?_; clear hh9; rintro e wy ⟨rfl, rfl⟩)
                      | ((with_reducible show Calls _ _ #[_, Value.int .u32 8] _ _); go_at_call 36; have hh9 : hasC _ 8 = false := HD.out; refine (has_g _ _ _ false hh9).mono ?_; clear hh9; rintro e wy ⟨rfl, rfl⟩)
                      | ((with_reducible show Calls _ _ #[_, Value.int .u32 524288] _ _); go_at_call 36; have hh9 : hasC _ 524288 = true := HL.out; refine (has_g _ _ _ true hh9).mono ?_; clear hh9; rintro e wy ⟨rfl, rfl⟩)
                      | ((with_reducible show Calls _ _ #[_, Value.int .u32 524288] _ _); go_at_call 36; have hh9 : hasC _ 524288 = false := HL.out; refine (has_g _ _ _ false hh9).mono ?_; clear hh9; rintro e wy ⟨rfl, rfl⟩)
                      | ((with_reducible show Calls _ _ #[_, Value.int .u32 1048576] _ _); go_at_call 36; have hh9 : hasC _ 1048576 = true := HA9.out; refine (has_g _ _ _ true hh9).mono ?_; clear hh9; rintro e wy ⟨rfl, rfl⟩)
                      | ((with_reducible show Calls _ _ #[_, Value.int .u32 1048576] _ _); go_at_call 36; have hh9 : hasC _ 1048576 = false := HA9.out; refine (has_g _ _ _ false hh9).mono ?_; clear hh9; rintro e wy ⟨rfl, rfl⟩)
                      | fail)
                    go_ret
                    exact ⟨rfl, HX0.out.trans hx1⟩
              · skip
                go_enter Try.func39, Try.ntmps39
                go_wp2_with fail
                generalize hW0 : w.alloc _ = wS
                have hb : Box wS w.heap.size [.int .u32 caps, .int .u32 most, .int .u8 ch, .string (strL user), .slice Ar resp.length cr, .string (strL db), .string (strL pl), .slice Aa ps.length ca] := by rw [← hW0]; exact Box.new w _ _
                have hx0 : Ext w wS := by rw [← hW0]; exact (Ext.refl w).alloc _
                have hsz : w.heap.size + 1 = wS.heap.size := by rw [← hW0]; simp
                have HSZ := Lib.hid hsz
                have HX0 := Lib.hid hx0
                clear hW0 hsz hx0
                go_wp2_with (first
                  | (go_at_call 25; have hpl9 : plainP [user, db, pl] = true := HP.out; refine (plain_g _ _ [user, db, pl] true (texts_new _ _ _ (by rfl) _ _ _ HSZ.out (by rfl) (by simp)) hpl9).mono ?_; clear hpl9; rintro e wT ⟨rfl, hq⟩; have hx1 : Ext wS wT := hq ▸ (Ext.refl wS).alloc _; clear hq; have c0 := hb.one' (j := 0) rfl hx1; have c4 := hb.one' (j := 4) rfl hx1; have c5 := hb.one' (j := 5) rfl hx1; have c6 := hb.one' (j := 6) rfl hx1; have c7 := hb.one' (j := 7) rfl hx1)
                  | (go_at_call 25; have hpl9 : plainP [user, db, pl] = false := HP.out; refine (plain_g _ _ [user, db, pl] false (texts_new _ _ _ (by rfl) _ _ _ HSZ.out (by rfl) (by simp)) hpl9).mono ?_; clear hpl9; rintro e wT ⟨rfl, hq⟩; have hx1 : Ext wS wT := hq ▸ (Ext.refl wS).alloc _; clear hq; have c0 := hb.one' (j := 0) rfl hx1; have c4 := hb.one' (j := 4) rfl hx1; have c5 := hb.one' (j := 5) rfl hx1; have c6 := hb.one' (j := 6) rfl hx1; have c7 := hb.one' (j := 7) rfl hx1)
                  | ((with_reducible show Calls _ _ #[_, Value.int .u32 33280] _ _); go_at_call 36; have hh9 : hasC _ 33280 = true := HC.out; refine (has_g _ _ _ true hh9).mono ?_; clear hh9; rintro e wy ⟨rfl, rfl⟩)
                  | ((with_reducible show Calls _ _ #[_, Value.int .u32 33280] _ _); go_at_call 36; have hh9 : hasC _ 33280 = false := HC.out; refine (has_g _ _ _ false hh9).mono ?_; clear hh9; rintro e wy ⟨rfl, rfl⟩)
                  | ((with_reducible show Calls _ _ #[_, Value.int .u32 8] _ _); go_at_call 36; have hh9 : hasC _ 8 = true := HD.out; refine (has_g _ _ _ true hh9).mono ?_; clear hh9; rintro e wy ⟨rfl, rfl⟩)
                  | ((with_reducible show Calls _ _ #[_, Value.int .u32 8] _ _); go_at_call 36; have hh9 : hasC _ 8 = false := HD.out; refine (has_g _ _ _ false hh9).mono ?_; clear hh9; rintro e wy ⟨rfl, rfl⟩)
                  | ((with_reducible show Calls _ _ #[_, Value.int .u32 524288] _ _); go_at_call 36; have hh9 : hasC _ 524288 = true := HL.out; refine (has_g _ _ _ true hh9).mono ?_; clear hh9; rintro e wy ⟨rfl, rfl⟩)
                  | ((with_reducible show Calls _ _ #[_, Value.int .u32 524288] _ _); go_at_call 36; have hh9 : hasC _ 524288 = false := HL.out; refine (has_g _ _ _ false hh9).mono ?_; clear hh9; rintro e wy ⟨rfl, rfl⟩)
                  | ((with_reducible show Calls _ _ #[_, Value.int .u32 1048576] _ _); go_at_call 36; have hh9 : hasC _ 1048576 = true := HA9.out; refine (has_g _ _ _ true hh9).mono ?_; clear hh9; rintro e wy ⟨rfl, rfl⟩)
                  | ((with_reducible show Calls _ _ #[_, Value.int .u32 1048576] _ _); go_at_call 36; have hh9 : hasC _ 1048576 = false := HA9.out; refine (has_g _ _ _ false hh9).mono ?_; clear hh9; rintro e wy ⟨rfl, rfl⟩)
                  | fail)
                go_ret
                exact ⟨rfl, HX0.out.trans hx1⟩
            · skip
              go_enter Try.func39, Try.ntmps39
              go_wp2_with fail
              generalize hW0 : w.alloc _ = wS
              have hb : Box wS w.heap.size [.int .u32 caps, .int .u32 most, .int .u8 ch, .string (strL user), .slice Ar resp.length cr, .string (strL db), .string (strL pl), .slice Aa ps.length ca] := by rw [← hW0]; exact Box.new w _ _
              have hx0 : Ext w wS := by rw [← hW0]; exact (Ext.refl w).alloc _
              have hsz : w.heap.size + 1 = wS.heap.size := by rw [← hW0]; simp
              have HSZ := Lib.hid hsz
              have HX0 := Lib.hid hx0
              clear hW0 hsz hx0
              go_wp2_with (first
                | (go_at_call 25; have hpl9 : plainP [user, db, pl] = true := HP.out; refine (plain_g _ _ [user, db, pl] true (texts_new _ _ _ (by rfl) _ _ _ HSZ.out (by rfl) (by simp)) hpl9).mono ?_; clear hpl9; rintro e wT ⟨rfl, hq⟩; have hx1 : Ext wS wT := hq ▸ (Ext.refl wS).alloc _; clear hq; have c0 := hb.one' (j := 0) rfl hx1; have c4 := hb.one' (j := 4) rfl hx1; have c5 := hb.one' (j := 5) rfl hx1; have c6 := hb.one' (j := 6) rfl hx1; have c7 := hb.one' (j := 7) rfl hx1)
                | (go_at_call 25; have hpl9 : plainP [user, db, pl] = false := HP.out; refine (plain_g _ _ [user, db, pl] false (texts_new _ _ _ (by rfl) _ _ _ HSZ.out (by rfl) (by simp)) hpl9).mono ?_; clear hpl9; rintro e wT ⟨rfl, hq⟩; have hx1 : Ext wS wT := hq ▸ (Ext.refl wS).alloc _; clear hq; have c0 := hb.one' (j := 0) rfl hx1; have c4 := hb.one' (j := 4) rfl hx1; have c5 := hb.one' (j := 5) rfl hx1; have c6 := hb.one' (j := 6) rfl hx1; have c7 := hb.one' (j := 7) rfl hx1)
                | ((with_reducible show Calls _ _ #[_, Value.int .u32 33280] _ _); go_at_call 36; have hh9 : hasC _ 33280 = true := HC.out; refine (has_g _ _ _ true hh9).mono ?_; clear hh9; rintro e wy ⟨rfl, rfl⟩)
                | ((with_reducible show Calls _ _ #[_, Value.int .u32 33280] _ _); go_at_call 36; have hh9 : hasC _ 33280 = false := HC.out; refine (has_g _ _ _ false hh9).mono ?_; clear hh9; rintro e wy ⟨rfl, rfl⟩)
                | ((with_reducible show Calls _ _ #[_, Value.int .u32 8] _ _); go_at_call 36; have hh9 : hasC _ 8 = true := HD.out; refine (has_g _ _ _ true hh9).mono ?_; clear hh9; rintro e wy ⟨rfl, rfl⟩)
                | ((with_reducible show Calls _ _ #[_, Value.int .u32 8] _ _); go_at_call 36; have hh9 : hasC _ 8 = false := HD.out; refine (has_g _ _ _ false hh9).mono ?_; clear hh9; rintro e wy ⟨rfl, rfl⟩)
                | ((with_reducible show Calls _ _ #[_, Value.int .u32 524288] _ _); go_at_call 36; have hh9 : hasC _ 524288 = true := HL.out; refine (has_g _ _ _ true hh9).mono ?_; clear hh9; rintro e wy ⟨rfl, rfl⟩)
                | ((with_reducible show Calls _ _ #[_, Value.int .u32 524288] _ _); go_at_call 36; have hh9 : hasC _ 524288 = false := HL.out; refine (has_g _ _ _ false hh9).mono ?_; clear hh9; rintro e wy ⟨rfl, rfl⟩)
                | ((with_reducible show Calls _ _ #[_, Value.int .u32 1048576] _ _); go_at_call 36; have hh9 : hasC _ 1048576 = true := HA9.out; refine (has_g _ _ _ true hh9).mono ?_; clear hh9; rintro e wy ⟨rfl, rfl⟩)
                | ((with_reducible show Calls _ _ #[_, Value.int .u32 1048576] _ _); go_at_call 36; have hh9 : hasC _ 1048576 = false := HA9.out; refine (has_g _ _ _ false hh9).mono ?_; clear hh9; rintro e wy ⟨rfl, rfl⟩)
                | fail)
              go_ret
              exact ⟨rfl, HX0.out.trans hx1⟩
          · have HC := Lib.hid (show hasC caps 33280 = false by simpa using p3)
            clear p3
            go_enter Try.func39, Try.ntmps39
            go_wp2_with fail
            generalize hW0 : w.alloc _ = wS
            have hb : Box wS w.heap.size [.int .u32 caps, .int .u32 most, .int .u8 ch, .string (strL user), .slice Ar resp.length cr, .string (strL db), .string (strL pl), .slice Aa ps.length ca] := by rw [← hW0]; exact Box.new w _ _
            have hx0 : Ext w wS := by rw [← hW0]; exact (Ext.refl w).alloc _
            have hsz : w.heap.size + 1 = wS.heap.size := by rw [← hW0]; simp
            have HSZ := Lib.hid hsz
            have HX0 := Lib.hid hx0
            clear hW0 hsz hx0
            go_wp2_with (first
              | (go_at_call 25; have hpl9 : plainP [user, db, pl] = true := HP.out; refine (plain_g _ _ [user, db, pl] true (texts_new _ _ _ (by rfl) _ _ _ HSZ.out (by rfl) (by simp)) hpl9).mono ?_; clear hpl9; rintro e wT ⟨rfl, hq⟩; have hx1 : Ext wS wT := hq ▸ (Ext.refl wS).alloc _; clear hq; have c0 := hb.one' (j := 0) rfl hx1; have c4 := hb.one' (j := 4) rfl hx1; have c5 := hb.one' (j := 5) rfl hx1; have c6 := hb.one' (j := 6) rfl hx1; have c7 := hb.one' (j := 7) rfl hx1)
              | (go_at_call 25; have hpl9 : plainP [user, db, pl] = false := HP.out; refine (plain_g _ _ [user, db, pl] false (texts_new _ _ _ (by rfl) _ _ _ HSZ.out (by rfl) (by simp)) hpl9).mono ?_; clear hpl9; rintro e wT ⟨rfl, hq⟩; have hx1 : Ext wS wT := hq ▸ (Ext.refl wS).alloc _; clear hq; have c0 := hb.one' (j := 0) rfl hx1; have c4 := hb.one' (j := 4) rfl hx1; have c5 := hb.one' (j := 5) rfl hx1; have c6 := hb.one' (j := 6) rfl hx1; have c7 := hb.one' (j := 7) rfl hx1)
              | ((with_reducible show Calls _ _ #[_, Value.int .u32 33280] _ _); go_at_call 36; have hh9 : hasC _ 33280 = true := HC.out; refine (has_g _ _ _ true hh9).mono ?_; clear hh9; rintro e wy ⟨rfl, rfl⟩)
              | ((with_reducible show Calls _ _ #[_, Value.int .u32 33280] _ _); go_at_call 36; have hh9 : hasC _ 33280 = false := HC.out; refine (has_g _ _ _ false hh9).mono ?_; clear hh9; rintro e wy ⟨rfl, rfl⟩)
              | ((with_reducible show Calls _ _ #[_, Value.int .u32 8] _ _); go_at_call 36; have hh9 : hasC _ 8 = true := HD.out; refine (has_g _ _ _ true hh9).mono ?_; clear hh9; rintro e wy ⟨rfl, rfl⟩)
              | ((with_reducible show Calls _ _ #[_, Value.int .u32 8] _ _); go_at_call 36; have hh9 : hasC _ 8 = false := HD.out; refine (has_g _ _ _ false hh9).mono ?_; clear hh9; rintro e wy ⟨rfl, rfl⟩)
              | ((with_reducible show Calls _ _ #[_, Value.int .u32 524288] _ _); go_at_call 36; have hh9 : hasC _ 524288 = true := HL.out; refine (has_g _ _ _ true hh9).mono ?_; clear hh9; rintro e wy ⟨rfl, rfl⟩)
              | ((with_reducible show Calls _ _ #[_, Value.int .u32 524288] _ _); go_at_call 36; have hh9 : hasC _ 524288 = false := HL.out; refine (has_g _ _ _ false hh9).mono ?_; clear hh9; rintro e wy ⟨rfl, rfl⟩)
              | ((with_reducible show Calls _ _ #[_, Value.int .u32 1048576] _ _); go_at_call 36; have hh9 : hasC _ 1048576 = true := HA9.out; refine (has_g _ _ _ true hh9).mono ?_; clear hh9; rintro e wy ⟨rfl, rfl⟩)
              | ((with_reducible show Calls _ _ #[_, Value.int .u32 1048576] _ _); go_at_call 36; have hh9 : hasC _ 1048576 = false := HA9.out; refine (has_g _ _ _ false hh9).mono ?_; clear hh9; rintro e wy ⟨rfl, rfl⟩)
              | fail)
            go_ret
            exact ⟨rfl, HX0.out.trans hx1⟩
        · have q3 : (strL pl).toList.isEmpty = false := by simpa using q3
          by_cases q4 : hasC caps 524288 = true
          · have HL := Lib.hid q4
            by_cases p3 : hasC caps 33280 = true
            · have HC := Lib.hid p3
              by_cases hri : (resp.length : Int) ≤ 255
              · skip
                by_cases hni : (ps.length : Int) ≤ 64
                · skip
                  by_cases q5 : ((ps.length : Int) == 0) = true
                  · skip
                    exact absurd ⟨hcaps, hmost, hch, p3, (plain3 p1).1, (plain3 p1).2.1, (plain3 p1).2.2, empty_or (by first | exact .inl q1 | exact .inr q2), empty_or (by first | exact .inl q3 | exact .inr q4), by dsimp only; omega, by dsimp only; omega, by first | exact .inr q6 | exact .inl (by simpa using q5)⟩ h
                  · have q5 : ((ps.length : Int) == 0) = false := by simpa using q5
                    by_cases q6 : hasC caps 1048576 = true
                    · have HA9 := Lib.hid q6
                      exact absurd ⟨hcaps, hmost, hch, p3, (plain3 p1).1, (plain3 p1).2.1, (plain3 p1).2.2, empty_or (by first | exact .inl q1 | exact .inr q2), empty_or (by first | exact .inl q3 | exact .inr q4), by dsimp only; omega, by dsimp only; omega, by first | exact .inr q6 | exact .inl (by simpa using q5)⟩ h
                    · have HA9 := Lib.hid (show hasC caps 1048576 = false by simpa using q6)
                      clear q6
                      go_enter Try.func39, Try.ntmps39
                      go_wp2_with fail
                      generalize hW0 : w.alloc _ = wS
                      have hb : Box wS w.heap.size [.int .u32 caps, .int .u32 most, .int .u8 ch, .string (strL user), .slice Ar resp.length cr, .string (strL db), .string (strL pl), .slice Aa ps.length ca] := by rw [← hW0]; exact Box.new w _ _
                      have hx0 : Ext w wS := by rw [← hW0]; exact (Ext.refl w).alloc _
                      have hsz : w.heap.size + 1 = wS.heap.size := by rw [← hW0]; simp
                      have HSZ := Lib.hid hsz
                      have HX0 := Lib.hid hx0
                      clear hW0 hsz hx0
                      go_wp2_with (first
                        | (go_at_call 25; have hpl9 : plainP [user, db, pl] = true := HP.out; refine (plain_g _ _ [user, db, pl] true (texts_new _ _ _ (by rfl) _ _ _ HSZ.out (by rfl) (by simp)) hpl9).mono ?_; clear hpl9; rintro e wT ⟨rfl, hq⟩; have hx1 : Ext wS wT := hq ▸ (Ext.refl wS).alloc _; clear hq; have c0 := hb.one' (j := 0) rfl hx1; have c4 := hb.one' (j := 4) rfl hx1; have c5 := hb.one' (j := 5) rfl hx1; have c6 := hb.one' (j := 6) rfl hx1; have c7 := hb.one' (j := 7) rfl hx1)
                        | (go_at_call 25; have hpl9 : plainP [user, db, pl] = false := HP.out; refine (plain_g _ _ [user, db, pl] false (texts_new _ _ _ (by rfl) _ _ _ HSZ.out (by rfl) (by simp)) hpl9).mono ?_; clear hpl9; rintro e wT ⟨rfl, hq⟩; have hx1 : Ext wS wT := hq ▸ (Ext.refl wS).alloc _; clear hq; have c0 := hb.one' (j := 0) rfl hx1; have c4 := hb.one' (j := 4) rfl hx1; have c5 := hb.one' (j := 5) rfl hx1; have c6 := hb.one' (j := 6) rfl hx1; have c7 := hb.one' (j := 7) rfl hx1)
                        | ((with_reducible show Calls _ _ #[_, Value.int .u32 33280] _ _); go_at_call 36; have hh9 : hasC _ 33280 = true := HC.out; refine (has_g _ _ _ true hh9).mono ?_; clear hh9; rintro e wy ⟨rfl, rfl⟩)
                        | ((with_reducible show Calls _ _ #[_, Value.int .u32 33280] _ _); go_at_call 36; have hh9 : hasC _ 33280 = false := HC.out; refine (has_g _ _ _ false hh9).mono ?_; clear hh9; rintro e wy ⟨rfl, rfl⟩)
                        | ((with_reducible show Calls _ _ #[_, Value.int .u32 8] _ _); go_at_call 36; have hh9 : hasC _ 8 = true := HD.out; refine (has_g _ _ _ true hh9).mono ?_; clear hh9; rintro e wy ⟨rfl, rfl⟩)
                        | ((with_reducible show Calls _ _ #[_, Value.int .u32 8] _ _); go_at_call 36; have hh9 : hasC _ 8 = false := HD.out; refine (has_g _ _ _ false hh9).mono ?_; clear hh9; rintro e wy ⟨rfl, rfl⟩)
                        | ((with_reducible show Calls _ _ #[_, Value.int .u32 524288] _ _); go_at_call 36; have hh9 : hasC _ 524288 = true := HL.out; refine (has_g _ _ _ true hh9).mono ?_; clear hh9; rintro e wy ⟨rfl, rfl⟩)
                        | ((with_reducible show Calls _ _ #[_, Value.int .u32 524288] _ _); go_at_call 36; have hh9 : hasC _ 524288 = false := HL.out; refine (has_g _ _ _ false hh9).mono ?_; clear hh9; rintro e wy ⟨rfl, rfl⟩)
                        | ((with_reducible show Calls _ _ #[_, Value.int .u32 1048576] _ _); go_at_call 36; have hh9 : hasC _ 1048576 = true := HA9.out; refine (has_g _ _ _ true hh9).mono ?_; clear hh9; rintro e wy ⟨rfl, rfl⟩)
                        | ((with_reducible show Calls _ _ #[_, Value.int .u32 1048576] _ _); go_at_call 36; have hh9 : hasC _ 1048576 = false := HA9.out; refine (has_g _ _ _ false hh9).mono ?_; clear hh9; rintro e wy ⟨rfl, rfl⟩)
                        | fail)
                      go_ret
                      exact ⟨rfl, HX0.out.trans hx1⟩
                · skip
                  go_enter Try.func39, Try.ntmps39
                  go_wp2_with fail
                  generalize hW0 : w.alloc _ = wS
                  have hb : Box wS w.heap.size [.int .u32 caps, .int .u32 most, .int .u8 ch, .string (strL user), .slice Ar resp.length cr, .string (strL db), .string (strL pl), .slice Aa ps.length ca] := by rw [← hW0]; exact Box.new w _ _
                  have hx0 : Ext w wS := by rw [← hW0]; exact (Ext.refl w).alloc _
                  have hsz : w.heap.size + 1 = wS.heap.size := by rw [← hW0]; simp
                  have HSZ := Lib.hid hsz
                  have HX0 := Lib.hid hx0
                  clear hW0 hsz hx0
                  go_wp2_with (first
                    | (go_at_call 25; have hpl9 : plainP [user, db, pl] = true := HP.out; refine (plain_g _ _ [user, db, pl] true (texts_new _ _ _ (by rfl) _ _ _ HSZ.out (by rfl) (by simp)) hpl9).mono ?_; clear hpl9; rintro e wT ⟨rfl, hq⟩; have hx1 : Ext wS wT := hq ▸ (Ext.refl wS).alloc _; clear hq; have c0 := hb.one' (j := 0) rfl hx1; have c4 := hb.one' (j := 4) rfl hx1; have c5 := hb.one' (j := 5) rfl hx1; have c6 := hb.one' (j := 6) rfl hx1; have c7 := hb.one' (j := 7) rfl hx1)
                    | (go_at_call 25; have hpl9 : plainP [user, db, pl] = false := HP.out; refine (plain_g _ _ [user, db, pl] false (texts_new _ _ _ (by rfl) _ _ _ HSZ.out (by rfl) (by simp)) hpl9).mono ?_; clear hpl9; rintro e wT ⟨rfl, hq⟩; have hx1 : Ext wS wT := hq ▸ (Ext.refl wS).alloc _; clear hq; have c0 := hb.one' (j := 0) rfl hx1; have c4 := hb.one' (j := 4) rfl hx1; have c5 := hb.one' (j := 5) rfl hx1; have c6 := hb.one' (j := 6) rfl hx1; have c7 := hb.one' (j := 7) rfl hx1)
                    | ((with_reducible show Calls _ _ #[_, Value.int .u32 33280] _ _); go_at_call 36; have hh9 : hasC _ 33280 = true := HC.out; refine (has_g _ _ _ true hh9).mono ?_; clear hh9; rintro e wy ⟨rfl, rfl⟩)
                    | ((with_reducible show Calls _ _ #[_, Value.int .u32 33280] _ _); go_at_call 36; have hh9 : hasC _ 33280 = false := HC.out; refine (has_g _ _ _ false hh9).mono ?_; clear hh9; rintro e wy ⟨rfl, rfl⟩)
                    | ((with_reducible show Calls _ _ #[_, Value.int .u32 8] _ _); go_at_call 36; have hh9 : hasC _ 8 = true := HD.out; refine (has_g _ _ _ true hh9).mono ?_; clear hh9; rintro e wy ⟨rfl, rfl⟩)
                    | ((with_reducible show Calls _ _ #[_, Value.int .u32 8] _ _); go_at_call 36; have hh9 : hasC _ 8 = false := HD.out; refine (has_g _ _ _ false hh9).mono ?_; clear hh9; rintro e wy ⟨rfl, rfl⟩)
                    | ((with_reducible show Calls _ _ #[_, Value.int .u32 524288] _ _); go_at_call 36; have hh9 : hasC _ 524288 = true := HL.out; refine (has_g _ _ _ true hh9).mono ?_; clear hh9; rintro e wy ⟨rfl, rfl⟩)
                    | ((with_reducible show Calls _ _ #[_, Value.int .u32 524288] _ _); go_at_call 36; have hh9 : hasC _ 524288 = false := HL.out; refine (has_g _ _ _ false hh9).mono ?_; clear hh9; rintro e wy ⟨rfl, rfl⟩)
                    | ((with_reducible show Calls _ _ #[_, Value.int .u32 1048576] _ _); go_at_call 36; have hh9 : hasC _ 1048576 = true := HA9.out; refine (has_g _ _ _ true hh9).mono ?_; clear hh9; rintro e wy ⟨rfl, rfl⟩)
                    | ((with_reducible show Calls _ _ #[_, Value.int .u32 1048576] _ _); go_at_call 36; have hh9 : hasC _ 1048576 = false := HA9.out; refine (has_g _ _ _ false hh9).mono ?_; clear hh9; rintro e wy ⟨rfl, rfl⟩)
                    | fail)
                  go_ret
                  exact ⟨rfl, HX0.out.trans hx1⟩
              · skip
                go_enter Try.func39, Try.ntmps39
                go_wp2_with fail
                generalize hW0 : w.alloc _ = wS
                have hb : Box wS w.heap.size [.int .u32 caps, .int .u32 most, .int .u8 ch, .string (strL user), .slice Ar resp.length cr, .string (strL db), .string (strL pl), .slice Aa ps.length ca] := by rw [← hW0]; exact Box.new w _ _
                have hx0 : Ext w wS := by rw [← hW0]; exact (Ext.refl w).alloc _
                have hsz : w.heap.size + 1 = wS.heap.size := by rw [← hW0]; simp
                have HSZ := Lib.hid hsz
                have HX0 := Lib.hid hx0
                clear hW0 hsz hx0
                go_wp2_with (first
                  | (go_at_call 25; have hpl9 : plainP [user, db, pl] = true := HP.out; refine (plain_g _ _ [user, db, pl] true (texts_new _ _ _ (by rfl) _ _ _ HSZ.out (by rfl) (by simp)) hpl9).mono ?_; clear hpl9; rintro e wT ⟨rfl, hq⟩; have hx1 : Ext wS wT := hq ▸ (Ext.refl wS).alloc _; clear hq; have c0 := hb.one' (j := 0) rfl hx1; have c4 := hb.one' (j := 4) rfl hx1; have c5 := hb.one' (j := 5) rfl hx1; have c6 := hb.one' (j := 6) rfl hx1; have c7 := hb.one' (j := 7) rfl hx1)
                  | (go_at_call 25; have hpl9 : plainP [user, db, pl] = false := HP.out; refine (plain_g _ _ [user, db, pl] false (texts_new _ _ _ (by rfl) _ _ _ HSZ.out (by rfl) (by simp)) hpl9).mono ?_; clear hpl9; rintro e wT ⟨rfl, hq⟩; have hx1 : Ext wS wT := hq ▸ (Ext.refl wS).alloc _; clear hq; have c0 := hb.one' (j := 0) rfl hx1; have c4 := hb.one' (j := 4) rfl hx1; have c5 := hb.one' (j := 5) rfl hx1; have c6 := hb.one' (j := 6) rfl hx1; have c7 := hb.one' (j := 7) rfl hx1)
                  | ((with_reducible show Calls _ _ #[_, Value.int .u32 33280] _ _); go_at_call 36; have hh9 : hasC _ 33280 = true := HC.out; refine (has_g _ _ _ true hh9).mono ?_; clear hh9; rintro e wy ⟨rfl, rfl⟩)
                  | ((with_reducible show Calls _ _ #[_, Value.int .u32 33280] _ _); go_at_call 36; have hh9 : hasC _ 33280 = false := HC.out; refine (has_g _ _ _ false hh9).mono ?_; clear hh9; rintro e wy ⟨rfl, rfl⟩)
                  | ((with_reducible show Calls _ _ #[_, Value.int .u32 8] _ _); go_at_call 36; have hh9 : hasC _ 8 = true := HD.out; refine (has_g _ _ _ true hh9).mono ?_; clear hh9; rintro e wy ⟨rfl, rfl⟩)
                  | ((with_reducible show Calls _ _ #[_, Value.int .u32 8] _ _); go_at_call 36; have hh9 : hasC _ 8 = false := HD.out; refine (has_g _ _ _ false hh9).mono ?_; clear hh9; rintro e wy ⟨rfl, rfl⟩)
                  | ((with_reducible show Calls _ _ #[_, Value.int .u32 524288] _ _); go_at_call 36; have hh9 : hasC _ 524288 = true := HL.out; refine (has_g _ _ _ true hh9).mono ?_; clear hh9; rintro e wy ⟨rfl, rfl⟩)
                  | ((with_reducible show Calls _ _ #[_, Value.int .u32 524288] _ _); go_at_call 36; have hh9 : hasC _ 524288 = false := HL.out; refine (has_g _ _ _ false hh9).mono ?_; clear hh9; rintro e wy ⟨rfl, rfl⟩)
                  | ((with_reducible show Calls _ _ #[_, Value.int .u32 1048576] _ _); go_at_call 36; have hh9 : hasC _ 1048576 = true := HA9.out; refine (has_g _ _ _ true hh9).mono ?_; clear hh9; rintro e wy ⟨rfl, rfl⟩)
                  | ((with_reducible show Calls _ _ #[_, Value.int .u32 1048576] _ _); go_at_call 36; have hh9 : hasC _ 1048576 = false := HA9.out; refine (has_g _ _ _ false hh9).mono ?_; clear hh9; rintro e wy ⟨rfl, rfl⟩)
                  | fail)
                go_ret
                exact ⟨rfl, HX0.out.trans hx1⟩
            · have HC := Lib.hid (show hasC caps 33280 = false by simpa using p3)
              clear p3
              go_enter Try.func39, Try.ntmps39
              go_wp2_with fail
              generalize hW0 : w.alloc _ = wS
              have hb : Box wS w.heap.size [.int .u32 caps, .int .u32 most, .int .u8 ch, .string (strL user), .slice Ar resp.length cr, .string (strL db), .string (strL pl), .slice Aa ps.length ca] := by rw [← hW0]; exact Box.new w _ _
              have hx0 : Ext w wS := by rw [← hW0]; exact (Ext.refl w).alloc _
              have hsz : w.heap.size + 1 = wS.heap.size := by rw [← hW0]; simp
              have HSZ := Lib.hid hsz
              have HX0 := Lib.hid hx0
              clear hW0 hsz hx0
              go_wp2_with (first
                | (go_at_call 25; have hpl9 : plainP [user, db, pl] = true := HP.out; refine (plain_g _ _ [user, db, pl] true (texts_new _ _ _ (by rfl) _ _ _ HSZ.out (by rfl) (by simp)) hpl9).mono ?_; clear hpl9; rintro e wT ⟨rfl, hq⟩; have hx1 : Ext wS wT := hq ▸ (Ext.refl wS).alloc _; clear hq; have c0 := hb.one' (j := 0) rfl hx1; have c4 := hb.one' (j := 4) rfl hx1; have c5 := hb.one' (j := 5) rfl hx1; have c6 := hb.one' (j := 6) rfl hx1; have c7 := hb.one' (j := 7) rfl hx1)
                | (go_at_call 25; have hpl9 : plainP [user, db, pl] = false := HP.out; refine (plain_g _ _ [user, db, pl] false (texts_new _ _ _ (by rfl) _ _ _ HSZ.out (by rfl) (by simp)) hpl9).mono ?_; clear hpl9; rintro e wT ⟨rfl, hq⟩; have hx1 : Ext wS wT := hq ▸ (Ext.refl wS).alloc _; clear hq; have c0 := hb.one' (j := 0) rfl hx1; have c4 := hb.one' (j := 4) rfl hx1; have c5 := hb.one' (j := 5) rfl hx1; have c6 := hb.one' (j := 6) rfl hx1; have c7 := hb.one' (j := 7) rfl hx1)
                | ((with_reducible show Calls _ _ #[_, Value.int .u32 33280] _ _); go_at_call 36; have hh9 : hasC _ 33280 = true := HC.out; refine (has_g _ _ _ true hh9).mono ?_; clear hh9; rintro e wy ⟨rfl, rfl⟩)
                | ((with_reducible show Calls _ _ #[_, Value.int .u32 33280] _ _); go_at_call 36; have hh9 : hasC _ 33280 = false := HC.out; refine (has_g _ _ _ false hh9).mono ?_; clear hh9; rintro e wy ⟨rfl, rfl⟩)
                | ((with_reducible show Calls _ _ #[_, Value.int .u32 8] _ _); go_at_call 36; have hh9 : hasC _ 8 = true := HD.out; refine (has_g _ _ _ true hh9).mono ?_; clear hh9; rintro e wy ⟨rfl, rfl⟩)
                | ((with_reducible show Calls _ _ #[_, Value.int .u32 8] _ _); go_at_call 36; have hh9 : hasC _ 8 = false := HD.out; refine (has_g _ _ _ false hh9).mono ?_; clear hh9; rintro e wy ⟨rfl, rfl⟩)
                | ((with_reducible show Calls _ _ #[_, Value.int .u32 524288] _ _); go_at_call 36; have hh9 : hasC _ 524288 = true := HL.out; refine (has_g _ _ _ true hh9).mono ?_; clear hh9; rintro e wy ⟨rfl, rfl⟩)
                | ((with_reducible show Calls _ _ #[_, Value.int .u32 524288] _ _); go_at_call 36; have hh9 : hasC _ 524288 = false := HL.out; refine (has_g _ _ _ false hh9).mono ?_; clear hh9; rintro e wy ⟨rfl, rfl⟩)
                | ((with_reducible show Calls _ _ #[_, Value.int .u32 1048576] _ _); go_at_call 36; have hh9 : hasC _ 1048576 = true := HA9.out; refine (has_g _ _ _ true hh9).mono ?_; clear hh9; rintro e wy ⟨rfl, rfl⟩)
                | ((with_reducible show Calls _ _ #[_, Value.int .u32 1048576] _ _); go_at_call 36; have hh9 : hasC _ 1048576 = false := HA9.out; refine (has_g _ _ _ false hh9).mono ?_; clear hh9; rintro e wy ⟨rfl, rfl⟩)
                | fail)
              go_ret
              exact ⟨rfl, HX0.out.trans hx1⟩
          · have HL := Lib.hid (show hasC caps 524288 = false by simpa using q4)
            clear q4
            go_enter Try.func39, Try.ntmps39
            go_wp2_with fail
            generalize hW0 : w.alloc _ = wS
            have hb : Box wS w.heap.size [.int .u32 caps, .int .u32 most, .int .u8 ch, .string (strL user), .slice Ar resp.length cr, .string (strL db), .string (strL pl), .slice Aa ps.length ca] := by rw [← hW0]; exact Box.new w _ _
            have hx0 : Ext w wS := by rw [← hW0]; exact (Ext.refl w).alloc _
            have hsz : w.heap.size + 1 = wS.heap.size := by rw [← hW0]; simp
            have HSZ := Lib.hid hsz
            have HX0 := Lib.hid hx0
            clear hW0 hsz hx0
            go_wp2_with (first
              | (go_at_call 25; have hpl9 : plainP [user, db, pl] = true := HP.out; refine (plain_g _ _ [user, db, pl] true (texts_new _ _ _ (by rfl) _ _ _ HSZ.out (by rfl) (by simp)) hpl9).mono ?_; clear hpl9; rintro e wT ⟨rfl, hq⟩; have hx1 : Ext wS wT := hq ▸ (Ext.refl wS).alloc _; clear hq; have c0 := hb.one' (j := 0) rfl hx1; have c4 := hb.one' (j := 4) rfl hx1; have c5 := hb.one' (j := 5) rfl hx1; have c6 := hb.one' (j := 6) rfl hx1; have c7 := hb.one' (j := 7) rfl hx1)
              | (go_at_call 25; have hpl9 : plainP [user, db, pl] = false := HP.out; refine (plain_g _ _ [user, db, pl] false (texts_new _ _ _ (by rfl) _ _ _ HSZ.out (by rfl) (by simp)) hpl9).mono ?_; clear hpl9; rintro e wT ⟨rfl, hq⟩; have hx1 : Ext wS wT := hq ▸ (Ext.refl wS).alloc _; clear hq; have c0 := hb.one' (j := 0) rfl hx1; have c4 := hb.one' (j := 4) rfl hx1; have c5 := hb.one' (j := 5) rfl hx1; have c6 := hb.one' (j := 6) rfl hx1; have c7 := hb.one' (j := 7) rfl hx1)
              | ((with_reducible show Calls _ _ #[_, Value.int .u32 33280] _ _); go_at_call 36; have hh9 : hasC _ 33280 = true := HC.out; refine (has_g _ _ _ true hh9).mono ?_; clear hh9; rintro e wy ⟨rfl, rfl⟩)
              | ((with_reducible show Calls _ _ #[_, Value.int .u32 33280] _ _); go_at_call 36; have hh9 : hasC _ 33280 = false := HC.out; refine (has_g _ _ _ false hh9).mono ?_; clear hh9; rintro e wy ⟨rfl, rfl⟩)
              | ((with_reducible show Calls _ _ #[_, Value.int .u32 8] _ _); go_at_call 36; have hh9 : hasC _ 8 = true := HD.out; refine (has_g _ _ _ true hh9).mono ?_; clear hh9; rintro e wy ⟨rfl, rfl⟩)
              | ((with_reducible show Calls _ _ #[_, Value.int .u32 8] _ _); go_at_call 36; have hh9 : hasC _ 8 = false := HD.out; refine (has_g _ _ _ false hh9).mono ?_; clear hh9; rintro e wy ⟨rfl, rfl⟩)
              | ((with_reducible show Calls _ _ #[_, Value.int .u32 524288] _ _); go_at_call 36; have hh9 : hasC _ 524288 = true := HL.out; refine (has_g _ _ _ true hh9).mono ?_; clear hh9; rintro e wy ⟨rfl, rfl⟩)
              | ((with_reducible show Calls _ _ #[_, Value.int .u32 524288] _ _); go_at_call 36; have hh9 : hasC _ 524288 = false := HL.out; refine (has_g _ _ _ false hh9).mono ?_; clear hh9; rintro e wy ⟨rfl, rfl⟩)
              | ((with_reducible show Calls _ _ #[_, Value.int .u32 1048576] _ _); go_at_call 36; have hh9 : hasC _ 1048576 = true := HA9.out; refine (has_g _ _ _ true hh9).mono ?_; clear hh9; rintro e wy ⟨rfl, rfl⟩)
              | ((with_reducible show Calls _ _ #[_, Value.int .u32 1048576] _ _); go_at_call 36; have hh9 : hasC _ 1048576 = false := HA9.out; refine (has_g _ _ _ false hh9).mono ?_; clear hh9; rintro e wy ⟨rfl, rfl⟩)
              | fail)
            go_ret
            exact ⟨rfl, HX0.out.trans hx1⟩
      · have HD := Lib.hid (show hasC caps 8 = false by simpa using q2)
        clear q2
        go_enter Try.func39, Try.ntmps39
        go_wp2_with fail
        generalize hW0 : w.alloc _ = wS
        have hb : Box wS w.heap.size [.int .u32 caps, .int .u32 most, .int .u8 ch, .string (strL user), .slice Ar resp.length cr, .string (strL db), .string (strL pl), .slice Aa ps.length ca] := by rw [← hW0]; exact Box.new w _ _
        have hx0 : Ext w wS := by rw [← hW0]; exact (Ext.refl w).alloc _
        have hsz : w.heap.size + 1 = wS.heap.size := by rw [← hW0]; simp
        have HSZ := Lib.hid hsz
        have HX0 := Lib.hid hx0
        clear hW0 hsz hx0
        go_wp2_with (first
          | (go_at_call 25; have hpl9 : plainP [user, db, pl] = true := HP.out; refine (plain_g _ _ [user, db, pl] true (texts_new _ _ _ (by rfl) _ _ _ HSZ.out (by rfl) (by simp)) hpl9).mono ?_; clear hpl9; rintro e wT ⟨rfl, hq⟩; have hx1 : Ext wS wT := hq ▸ (Ext.refl wS).alloc _; clear hq; have c0 := hb.one' (j := 0) rfl hx1; have c4 := hb.one' (j := 4) rfl hx1; have c5 := hb.one' (j := 5) rfl hx1; have c6 := hb.one' (j := 6) rfl hx1; have c7 := hb.one' (j := 7) rfl hx1)
          | (go_at_call 25; have hpl9 : plainP [user, db, pl] = false := HP.out; refine (plain_g _ _ [user, db, pl] false (texts_new _ _ _ (by rfl) _ _ _ HSZ.out (by rfl) (by simp)) hpl9).mono ?_; clear hpl9; rintro e wT ⟨rfl, hq⟩; have hx1 : Ext wS wT := hq ▸ (Ext.refl wS).alloc _; clear hq; have c0 := hb.one' (j := 0) rfl hx1; have c4 := hb.one' (j := 4) rfl hx1; have c5 := hb.one' (j := 5) rfl hx1; have c6 := hb.one' (j := 6) rfl hx1; have c7 := hb.one' (j := 7) rfl hx1)
          | ((with_reducible show Calls _ _ #[_, Value.int .u32 33280] _ _); go_at_call 36; have hh9 : hasC _ 33280 = true := HC.out; refine (has_g _ _ _ true hh9).mono ?_; clear hh9; rintro e wy ⟨rfl, rfl⟩)
          | ((with_reducible show Calls _ _ #[_, Value.int .u32 33280] _ _); go_at_call 36; have hh9 : hasC _ 33280 = false := HC.out; refine (has_g _ _ _ false hh9).mono ?_; clear hh9; rintro e wy ⟨rfl, rfl⟩)
          | ((with_reducible show Calls _ _ #[_, Value.int .u32 8] _ _); go_at_call 36; have hh9 : hasC _ 8 = true := HD.out; refine (has_g _ _ _ true hh9).mono ?_; clear hh9; rintro e wy ⟨rfl, rfl⟩)
          | ((with_reducible show Calls _ _ #[_, Value.int .u32 8] _ _); go_at_call 36; have hh9 : hasC _ 8 = false := HD.out; refine (has_g _ _ _ false hh9).mono ?_; clear hh9; rintro e wy ⟨rfl, rfl⟩)
          | ((with_reducible show Calls _ _ #[_, Value.int .u32 524288] _ _); go_at_call 36; have hh9 : hasC _ 524288 = true := HL.out; refine (has_g _ _ _ true hh9).mono ?_; clear hh9; rintro e wy ⟨rfl, rfl⟩)
          | ((with_reducible show Calls _ _ #[_, Value.int .u32 524288] _ _); go_at_call 36; have hh9 : hasC _ 524288 = false := HL.out; refine (has_g _ _ _ false hh9).mono ?_; clear hh9; rintro e wy ⟨rfl, rfl⟩)
          | ((with_reducible show Calls _ _ #[_, Value.int .u32 1048576] _ _); go_at_call 36; have hh9 : hasC _ 1048576 = true := HA9.out; refine (has_g _ _ _ true hh9).mono ?_; clear hh9; rintro e wy ⟨rfl, rfl⟩)
          | ((with_reducible show Calls _ _ #[_, Value.int .u32 1048576] _ _); go_at_call 36; have hh9 : hasC _ 1048576 = false := HA9.out; refine (has_g _ _ _ false hh9).mono ?_; clear hh9; rintro e wy ⟨rfl, rfl⟩)
          | fail)
        go_ret
        exact ⟨rfl, HX0.out.trans hx1⟩
  · have HP := Lib.hid (show plainP [user, db, pl] = false by simpa using p1)
    clear p1
    go_enter Try.func39, Try.ntmps39
    go_wp2_with fail
    generalize hW0 : w.alloc _ = wS
    have hb : Box wS w.heap.size [.int .u32 caps, .int .u32 most, .int .u8 ch, .string (strL user), .slice Ar resp.length cr, .string (strL db), .string (strL pl), .slice Aa ps.length ca] := by rw [← hW0]; exact Box.new w _ _
    have hx0 : Ext w wS := by rw [← hW0]; exact (Ext.refl w).alloc _
    have hsz : w.heap.size + 1 = wS.heap.size := by rw [← hW0]; simp
    have HSZ := Lib.hid hsz
    have HX0 := Lib.hid hx0
    clear hW0 hsz hx0
    go_wp2_with (first
      | (go_at_call 25; have hpl9 : plainP [user, db, pl] = true := HP.out; refine (plain_g _ _ [user, db, pl] true (texts_new _ _ _ (by rfl) _ _ _ HSZ.out (by rfl) (by simp)) hpl9).mono ?_; clear hpl9; rintro e wT ⟨rfl, hq⟩; have hx1 : Ext wS wT := hq ▸ (Ext.refl wS).alloc _; clear hq; have c0 := hb.one' (j := 0) rfl hx1; have c4 := hb.one' (j := 4) rfl hx1; have c5 := hb.one' (j := 5) rfl hx1; have c6 := hb.one' (j := 6) rfl hx1; have c7 := hb.one' (j := 7) rfl hx1)
      | (go_at_call 25; have hpl9 : plainP [user, db, pl] = false := HP.out; refine (plain_g _ _ [user, db, pl] false (texts_new _ _ _ (by rfl) _ _ _ HSZ.out (by rfl) (by simp)) hpl9).mono ?_; clear hpl9; rintro e wT ⟨rfl, hq⟩; have hx1 : Ext wS wT := hq ▸ (Ext.refl wS).alloc _; clear hq; have c0 := hb.one' (j := 0) rfl hx1; have c4 := hb.one' (j := 4) rfl hx1; have c5 := hb.one' (j := 5) rfl hx1; have c6 := hb.one' (j := 6) rfl hx1; have c7 := hb.one' (j := 7) rfl hx1)
      | ((with_reducible show Calls _ _ #[_, Value.int .u32 33280] _ _); go_at_call 36; have hh9 : hasC _ 33280 = true := HC.out; refine (has_g _ _ _ true hh9).mono ?_; clear hh9; rintro e wy ⟨rfl, rfl⟩)
      | ((with_reducible show Calls _ _ #[_, Value.int .u32 33280] _ _); go_at_call 36; have hh9 : hasC _ 33280 = false := HC.out; refine (has_g _ _ _ false hh9).mono ?_; clear hh9; rintro e wy ⟨rfl, rfl⟩)
      | ((with_reducible show Calls _ _ #[_, Value.int .u32 8] _ _); go_at_call 36; have hh9 : hasC _ 8 = true := HD.out; refine (has_g _ _ _ true hh9).mono ?_; clear hh9; rintro e wy ⟨rfl, rfl⟩)
      | ((with_reducible show Calls _ _ #[_, Value.int .u32 8] _ _); go_at_call 36; have hh9 : hasC _ 8 = false := HD.out; refine (has_g _ _ _ false hh9).mono ?_; clear hh9; rintro e wy ⟨rfl, rfl⟩)
      | ((with_reducible show Calls _ _ #[_, Value.int .u32 524288] _ _); go_at_call 36; have hh9 : hasC _ 524288 = true := HL.out; refine (has_g _ _ _ true hh9).mono ?_; clear hh9; rintro e wy ⟨rfl, rfl⟩)
      | ((with_reducible show Calls _ _ #[_, Value.int .u32 524288] _ _); go_at_call 36; have hh9 : hasC _ 524288 = false := HL.out; refine (has_g _ _ _ false hh9).mono ?_; clear hh9; rintro e wy ⟨rfl, rfl⟩)
      | ((with_reducible show Calls _ _ #[_, Value.int .u32 1048576] _ _); go_at_call 36; have hh9 : hasC _ 1048576 = true := HA9.out; refine (has_g _ _ _ true hh9).mono ?_; clear hh9; rintro e wy ⟨rfl, rfl⟩)
      | ((with_reducible show Calls _ _ #[_, Value.int .u32 1048576] _ _); go_at_call 36; have hh9 : hasC _ 1048576 = false := HA9.out; refine (has_g _ _ _ false hh9).mono ?_; clear hh9; rintro e wy ⟨rfl, rfl⟩)
      | fail)
    go_ret
    exact ⟨rfl, HX0.out.trans hx1⟩
set_option maxHeartbeats 1000000 in
theorem appendAnswer_z (w : World) (caps most ch : Int) (user resp db pl : List UInt8) (ps : Pairs) (vr va : Value) (hr : Rd w vr resp) (ha : Attrs w va ps) (hcaps : 0 ≤ caps ∧ caps < 4294967296) (hmost : 0 ≤ most ∧ most < 4294967296) (hch : 0 ≤ ch ∧ ch < 256) (h : ¬ AnsOk ⟨caps, most, ch, user, resp, db, pl, ps⟩) :
    Calls Try.prog 13 #[.slice none 0 0, .agg #[.int .u32 caps, .int .u32 most, .int .u8 ch, .string (strL user), vr, .string (strL db), .string (strL pl), va]] w (RetBE w [] 2) := by
  obtain ⟨Ar, cr, rfl, _⟩ := hr
  obtain ⟨Aa, ca, hva, _, _⟩ := Recs.shape ha
  rw [pairsC_length] at hva
  subst hva
  have HF := Lib.hid (fun w1 => fineAnswer_z w1 caps most ch user resp db pl ps Ar Aa cr ca hcaps hmost hch h)
  clear ha hcaps hmost hch h
  go_enter Try.func13, Try.ntmps13
  go_wp2_with (first
    | (go_at_call 39; refine (HF.out _).mono ?_; rintro e w1 ⟨rfl, hx1⟩)
    | fail)
  go_ret2
  exact ⟨_, rfl, Own.nil _ _, ((Ext.refl _).alloc _).trans hx1⟩
end Go.Proofs.Ytaiakkifefedoaa
