import Derived.Test.YtbodppfpmpmadaaGreatL16C
import Derived.Test.YtbodppfpmpmadaaGreatKrCC
namespace Go.Proofs.YtbodppfpmpmadaaGreat
open Go.RowKit

set_option linter.unusedVariables false in
set_option maxRecDepth 100000 in
set_option maxHeartbeats 4000000 in
theorem newKeyR_ok (w : World) (us pw sc : List UInt8) (c ch : Int) (l1 : us.length ≤ 3000) (l2 : pw.length ≤ 3000) (l3 : sc.length ≤ 3000) (hm : keyMay us pw sc c = true) :
    Calls Tryz.prog 33 #[.string (strL us), .string (strL pw), .string (strL sc), .int .u32 c, .int .u8 ch] w fun e w' => ∃ g, e = .returned (.tuple #[.pointer (some ⟨g, 0, none⟩), .int .i64 0]) ∧ w.heap.size ≤ g ∧ g < w'.heap.size ∧ Ext w w' ∧ KeyRf w' g (key0 us pw sc c ch) := by
  unfold keyMay at hm
  simp only [Bool.and_eq_true, Bool.not_eq_true', beq_iff_eq] at hm
  obtain ⟨m0, m1, m2, m3, m4⟩ := hm
  have hq : (strL us).toList.isEmpty = false := by rw [strL_tl]; exact m0
  have H1 := Lib.hid m1
  have H2 := Lib.hid m2
  have H3 := Lib.hid m3
  have H4 := Lib.hid m4
  have L1 := Lib.hid l1
  have L2 := Lib.hid l2
  have L3 := Lib.hid l3
  clear m0 m1 m2 m3 m4 l1 l2 l3
  have tok1 : True := trivial
  go_enter Tryz.func33, Tryz.ntmps33
  go_wp2_with (first
    | ((with_reducible show Calls _ _ #[Value.string (strL us)] _ _); have _t := tok1; refine (plain27R_c _ us (by have := L1.out; omega)).mono ?_; rw [H1.out]; rintro e wx ⟨rfl, rfl⟩; clear tok1; have tok2 : True := trivial)
    | ((with_reducible show Calls _ _ #[Value.string (strL pw)] _ _); have _t := tok2; refine (plain27R_c _ pw (by have := L2.out; omega)).mono ?_; rw [H2.out]; rintro e wx ⟨rfl, rfl⟩; clear tok2; have tok3 : True := trivial)
    | ((with_reducible show Calls _ _ #[Value.string (strL sc)] _ _); have _t := tok3; refine (plain27R_c _ sc (by have := L3.out; omega)).mono ?_; rw [H3.out]; rintro e wx ⟨rfl, rfl⟩; clear tok3)
    | (go_at_call 59; refine (capsCheckR_c _ c).mono ?_; rw [H4.out]; rintro e wx ⟨rfl, rfl⟩)
    | fail)
  go_ret2
  exact ⟨_, rfl, Nat.le_refl _, by simp, (Ext.refl _).alloc _, BoxF.new w (krc (key0 us pw sc c ch)) _⟩
set_option linter.unusedVariables false in
set_option maxRecDepth 100000 in
set_option maxHeartbeats 4000000 in
theorem newKeyR_no (w : World) (us pw sc : List UInt8) (c ch : Int) (l1 : us.length ≤ 3000) (l2 : pw.length ≤ 3000) (l3 : sc.length ≤ 3000) (hm : keyMay us pw sc c = false) :
    Calls Tryz.prog 33 #[.string (strL us), .string (strL pw), .string (strL sc), .int .u32 c, .int .u8 ch] w fun e w' => e = .returned (.tuple #[.pointer none, .int .i64 2]) ∧ Ext w w' := by
  obtain ⟨q, hq⟩ : ∃ q, (strL us).toList.isEmpty = q := ⟨_, rfl⟩
  have hq2 : us.isEmpty = q := by rw [← hq, strL_tl]
  obtain ⟨p1, h1⟩ : ∃ p, plainU us = p := ⟨_, rfl⟩
  obtain ⟨p2, h2⟩ : ∃ p, plainU pw = p := ⟨_, rfl⟩
  obtain ⟨p3, h3⟩ : ∃ p, plainU sc = p := ⟨_, rfl⟩
  obtain ⟨ck, h4⟩ : ∃ ck, checkC c = ck := ⟨_, rfl⟩
  unfold keyMay at hm
  rw [hq2, h1, h2, h3, h4] at hm
  have H1 := Lib.hid h1
  have H2 := Lib.hid h2
  have H3 := Lib.hid h3
  have H4 := Lib.hid h4
  have HM := Lib.hid hm
  have L1 := Lib.hid l1
  have L2 := Lib.hid l2
  have L3 := Lib.hid l3
  clear h1 h2 h3 h4 hm hq2 l1 l2 l3
  cases q
  · cases p1
    · have tok1 : True := trivial
      go_enter Tryz.func33, Tryz.ntmps33
      go_wp2_with (first
        | ((with_reducible show Calls _ _ #[Value.string (strL us)] _ _); have _t := tok1; refine (plain27R_c _ us (by have := L1.out; omega)).mono ?_; rw [H1.out]; rintro e wx ⟨rfl, rfl⟩; clear tok1; have tok2 : True := trivial)
        | ((with_reducible show Calls _ _ #[Value.string (strL pw)] _ _); have _t := tok2; refine (plain27R_c _ pw (by have := L2.out; omega)).mono ?_; rw [H2.out]; rintro e wx ⟨rfl, rfl⟩; clear tok2; have tok3 : True := trivial)
        | ((with_reducible show Calls _ _ #[Value.string (strL sc)] _ _); have _t := tok3; refine (plain27R_c _ sc (by have := L3.out; omega)).mono ?_; rw [H3.out]; rintro e wx ⟨rfl, rfl⟩; clear tok3)
        | (go_at_call 59; refine (capsCheckR_c _ c).mono ?_; rw [H4.out]; rintro e wx ⟨rfl, rfl⟩)
        | fail)
      go_ret2
      exact ⟨rfl, Ext.refl _⟩
    · cases p2
      · have tok1 : True := trivial
        go_enter Tryz.func33, Tryz.ntmps33
        go_wp2_with (first
          | ((with_reducible show Calls _ _ #[Value.string (strL us)] _ _); have _t := tok1; refine (plain27R_c _ us (by have := L1.out; omega)).mono ?_; rw [H1.out]; rintro e wx ⟨rfl, rfl⟩; clear tok1; have tok2 : True := trivial)
          | ((with_reducible show Calls _ _ #[Value.string (strL pw)] _ _); have _t := tok2; refine (plain27R_c _ pw (by have := L2.out; omega)).mono ?_; rw [H2.out]; rintro e wx ⟨rfl, rfl⟩; clear tok2; have tok3 : True := trivial)
          | ((with_reducible show Calls _ _ #[Value.string (strL sc)] _ _); have _t := tok3; refine (plain27R_c _ sc (by have := L3.out; omega)).mono ?_; rw [H3.out]; rintro e wx ⟨rfl, rfl⟩; clear tok3)
          | (go_at_call 59; refine (capsCheckR_c _ c).mono ?_; rw [H4.out]; rintro e wx ⟨rfl, rfl⟩)
          | fail)
        go_ret2
        exact ⟨rfl, Ext.refl _⟩
      · cases p3
        · have tok1 : True := trivial
          go_enter Tryz.func33, Tryz.ntmps33
          go_wp2_with (first
            | ((with_reducible show Calls _ _ #[Value.string (strL us)] _ _); have _t := tok1; refine (plain27R_c _ us (by have := L1.out; omega)).mono ?_; rw [H1.out]; rintro e wx ⟨rfl, rfl⟩; clear tok1; have tok2 : True := trivial)
            | ((with_reducible show Calls _ _ #[Value.string (strL pw)] _ _); have _t := tok2; refine (plain27R_c _ pw (by have := L2.out; omega)).mono ?_; rw [H2.out]; rintro e wx ⟨rfl, rfl⟩; clear tok2; have tok3 : True := trivial)
            | ((with_reducible show Calls _ _ #[Value.string (strL sc)] _ _); have _t := tok3; refine (plain27R_c _ sc (by have := L3.out; omega)).mono ?_; rw [H3.out]; rintro e wx ⟨rfl, rfl⟩; clear tok3)
            | (go_at_call 59; refine (capsCheckR_c _ c).mono ?_; rw [H4.out]; rintro e wx ⟨rfl, rfl⟩)
            | fail)
          go_ret2
          exact ⟨rfl, Ext.refl _⟩
        · have hb : (ck != 0) = true := by
            have := HM.out
            simp at this
            simpa using this
          have tok1 : True := trivial
          go_enter Tryz.func33, Tryz.ntmps33
          go_wp2_with (first
            | ((with_reducible show Calls _ _ #[Value.string (strL us)] _ _); have _t := tok1; refine (plain27R_c _ us (by have := L1.out; omega)).mono ?_; rw [H1.out]; rintro e wx ⟨rfl, rfl⟩; clear tok1; have tok2 : True := trivial)
            | ((with_reducible show Calls _ _ #[Value.string (strL pw)] _ _); have _t := tok2; refine (plain27R_c _ pw (by have := L2.out; omega)).mono ?_; rw [H2.out]; rintro e wx ⟨rfl, rfl⟩; clear tok2; have tok3 : True := trivial)
            | ((with_reducible show Calls _ _ #[Value.string (strL sc)] _ _); have _t := tok3; refine (plain27R_c _ sc (by have := L3.out; omega)).mono ?_; rw [H3.out]; rintro e wx ⟨rfl, rfl⟩; clear tok3)
            | (go_at_call 59; refine (capsCheckR_c _ c).mono ?_; rw [H4.out]; rintro e wx ⟨rfl, rfl⟩)
            | fail)
          go_ret2
          exact ⟨rfl, Ext.refl _⟩
  · go_enter Tryz.func33, Tryz.ntmps33
    go_wp2_with fail
    go_ret2
    exact ⟨rfl, Ext.refl _⟩
end Go.Proofs.YtbodppfpmpmadaaGreat

