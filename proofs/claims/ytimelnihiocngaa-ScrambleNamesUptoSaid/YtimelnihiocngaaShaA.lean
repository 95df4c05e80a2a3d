/- Words of 32 bits: what is turned to the left. (Printed by gen_shaA.py.) -/
import Derived.Test.YtimelnihiocngaaMem
import Derived.Test.YtimelnihiocngaaFacts
import Derived.WalkKit
import Derived.WalkSpells
import Derived.Lib.Hide
import Derived.Laws.BitsAllLaws
namespace Go.Proofs.Ytimelnihiocngaa
open Go.RowKit

/-- x turned to the left by n, as the program writes it. -/
def rolS (x : Int) (n : Nat) : Int := bits .or .u32 (IntKind.u32.wrap (x * 2 ^ n)) (x / 2 ^ (32 - n))

set_option maxRecDepth 100000 in
theorem rotl_1 (w : World) (x : Int) :
    Calls Try.prog 111 #[.int .u32 x, .int .i64 (1)] w fun e w' => e = .returned (.int .u32 (rolS x 1)) ∧ w = w' := by
  have hb : bits .and .u64 1 31 = 1 := by decide
  go_enter Try.func111, Try.ntmps111
  go_wp2_with fail
  go_ret
  exact ⟨rfl, rfl⟩
theorem rol_1 (w : World) (x : Int) :
    Calls Try.prog 62 #[.int .u32 x, .int .u64 1] w fun e w' => e = .returned (.int .u32 (rolS x 1)) ∧ w = w' := by
  go_enter Try.func62, Try.ntmps62
  go_wp2_with fail
  go_ret
  exact ⟨rfl, rfl⟩

set_option maxRecDepth 100000 in
theorem rotl_5 (w : World) (x : Int) :
    Calls Try.prog 111 #[.int .u32 x, .int .i64 (5)] w fun e w' => e = .returned (.int .u32 (rolS x 5)) ∧ w = w' := by
  have hb : bits .and .u64 5 31 = 5 := by decide
  go_enter Try.func111, Try.ntmps111
  go_wp2_with fail
  go_ret
  exact ⟨rfl, rfl⟩
theorem rol_5 (w : World) (x : Int) :
    Calls Try.prog 62 #[.int .u32 x, .int .u64 5] w fun e w' => e = .returned (.int .u32 (rolS x 5)) ∧ w = w' := by
  go_enter Try.func62, Try.ntmps62
  go_wp2_with fail
  go_ret
  exact ⟨rfl, rfl⟩

set_option maxRecDepth 100000 in
theorem rotl_30 (w : World) (x : Int) :
    Calls Try.prog 111 #[.int .u32 x, .int .i64 (30)] w fun e w' => e = .returned (.int .u32 (rolS x 30)) ∧ w = w' := by
  have hb : bits .and .u64 30 31 = 30 := by decide
  go_enter Try.func111, Try.ntmps111
  go_wp2_with fail
  go_ret
  exact ⟨rfl, rfl⟩
theorem rol_30 (w : World) (x : Int) :
    Calls Try.prog 62 #[.int .u32 x, .int .u64 30] w fun e w' => e = .returned (.int .u32 (rolS x 30)) ∧ w = w' := by
  go_enter Try.func62, Try.ntmps62
  go_wp2_with fail
  go_ret
  exact ⟨rfl, rfl⟩

set_option maxRecDepth 100000 in
theorem rotlm_25 (w : World) (x : Int) :
    Calls Try.prog 111 #[.int .u32 x, .int .i64 (-7)] w fun e w' => e = .returned (.int .u32 (rolS x 25)) ∧ w = w' := by
  have hb : bits .and .u64 18446744073709551609 31 = 25 := by decide
  have hw : IntKind.u64.wrap ((-7)) = 18446744073709551609 := by decide
  go_enter Try.func111, Try.ntmps111
  go_wp2_with fail
  go_ret
  exact ⟨rfl, rfl⟩
theorem ror_25 (w : World) (x : Int) :
    Calls Try.prog 112 #[.int .u32 x, .int .i64 7] w fun e w' => e = .returned (.int .u32 (rolS x 25)) ∧ w = w' := by
  go_enter Try.func112, Try.ntmps112
  go_wp2_with (go_at_call 111; refine (rotlm_25 _ _).mono ?_; rintro e w1 ⟨rfl, rfl⟩)
  go_ret
  exact ⟨rfl, rfl⟩
theorem rol_25 (w : World) (x : Int) :
    Calls Try.prog 62 #[.int .u32 x, .int .u64 25] w fun e w' => e = .returned (.int .u32 (rolS x 25)) ∧ w = w' := by
  go_enter Try.func62, Try.ntmps62
  go_wp2_with fail
  go_ret
  exact ⟨rfl, rfl⟩

set_option maxRecDepth 100000 in
theorem rotlm_14 (w : World) (x : Int) :
    Calls Try.prog 111 #[.int .u32 x, .int .i64 (-18)] w fun e w' => e = .returned (.int .u32 (rolS x 14)) ∧ w = w' := by
  have hb : bits .and .u64 18446744073709551598 31 = 14 := by decide
  have hw : IntKind.u64.wrap ((-18)) = 18446744073709551598 := by decide
  go_enter Try.func111, Try.ntmps111
  go_wp2_with fail
  go_ret
  exact ⟨rfl, rfl⟩
theorem ror_14 (w : World) (x : Int) :
    Calls Try.prog 112 #[.int .u32 x, .int .i64 18] w fun e w' => e = .returned (.int .u32 (rolS x 14)) ∧ w = w' := by
  go_enter Try.func112, Try.ntmps112
  go_wp2_with (go_at_call 111; refine (rotlm_14 _ _).mono ?_; rintro e w1 ⟨rfl, rfl⟩)
  go_ret
  exact ⟨rfl, rfl⟩
theorem rol_14 (w : World) (x : Int) :
    Calls Try.prog 62 #[.int .u32 x, .int .u64 14] w fun e w' => e = .returned (.int .u32 (rolS x 14)) ∧ w = w' := by
  go_enter Try.func62, Try.ntmps62
  go_wp2_with fail
  go_ret
  exact ⟨rfl, rfl⟩

set_option maxRecDepth 100000 in
theorem rotlm_15 (w : World) (x : Int) :
    Calls Try.prog 111 #[.int .u32 x, .int .i64 (-17)] w fun e w' => e = .returned (.int .u32 (rolS x 15)) ∧ w = w' := by
  have hb : bits .and .u64 18446744073709551599 31 = 15 := by decide
  have hw : IntKind.u64.wrap ((-17)) = 18446744073709551599 := by decide
  go_enter Try.func111, Try.ntmps111
  go_wp2_with fail
  go_ret
  exact ⟨rfl, rfl⟩
theorem ror_15 (w : World) (x : Int) :
    Calls Try.prog 112 #[.int .u32 x, .int .i64 17] w fun e w' => e = .returned (.int .u32 (rolS x 15)) ∧ w = w' := by
  go_enter Try.func112, Try.ntmps112
  go_wp2_with (go_at_call 111; refine (rotlm_15 _ _).mono ?_; rintro e w1 ⟨rfl, rfl⟩)
  go_ret
  exact ⟨rfl, rfl⟩
theorem rol_15 (w : World) (x : Int) :
    Calls Try.prog 62 #[.int .u32 x, .int .u64 15] w fun e w' => e = .returned (.int .u32 (rolS x 15)) ∧ w = w' := by
  go_enter Try.func62, Try.ntmps62
  go_wp2_with fail
  go_ret
  exact ⟨rfl, rfl⟩

set_option maxRecDepth 100000 in
theorem rotlm_13 (w : World) (x : Int) :
    Calls Try.prog 111 #[.int .u32 x, .int .i64 (-19)] w fun e w' => e = .returned (.int .u32 (rolS x 13)) ∧ w = w' := by
  have hb : bits .and .u64 18446744073709551597 31 = 13 := by decide
  have hw : IntKind.u64.wrap ((-19)) = 18446744073709551597 := by decide
  go_enter Try.func111, Try.ntmps111
  go_wp2_with fail
  go_ret
  exact ⟨rfl, rfl⟩
theorem ror_13 (w : World) (x : Int) :
    Calls Try.prog 112 #[.int .u32 x, .int .i64 19] w fun e w' => e = .returned (.int .u32 (rolS x 13)) ∧ w = w' := by
  go_enter Try.func112, Try.ntmps112
  go_wp2_with (go_at_call 111; refine (rotlm_13 _ _).mono ?_; rintro e w1 ⟨rfl, rfl⟩)
  go_ret
  exact ⟨rfl, rfl⟩
theorem rol_13 (w : World) (x : Int) :
    Calls Try.prog 62 #[.int .u32 x, .int .u64 13] w fun e w' => e = .returned (.int .u32 (rolS x 13)) ∧ w = w' := by
  go_enter Try.func62, Try.ntmps62
  go_wp2_with fail
  go_ret
  exact ⟨rfl, rfl⟩

set_option maxRecDepth 100000 in
theorem rotlm_26 (w : World) (x : Int) :
    Calls Try.prog 111 #[.int .u32 x, .int .i64 (-6)] w fun e w' => e = .returned (.int .u32 (rolS x 26)) ∧ w = w' := by
  have hb : bits .and .u64 18446744073709551610 31 = 26 := by decide
  have hw : IntKind.u64.wrap ((-6)) = 18446744073709551610 := by decide
  go_enter Try.func111, Try.ntmps111
  go_wp2_with fail
  go_ret
  exact ⟨rfl, rfl⟩
theorem ror_26 (w : World) (x : Int) :
    Calls Try.prog 112 #[.int .u32 x, .int .i64 6] w fun e w' => e = .returned (.int .u32 (rolS x 26)) ∧ w = w' := by
  go_enter Try.func112, Try.ntmps112
  go_wp2_with (go_at_call 111; refine (rotlm_26 _ _).mono ?_; rintro e w1 ⟨rfl, rfl⟩)
  go_ret
  exact ⟨rfl, rfl⟩
theorem rol_26 (w : World) (x : Int) :
    Calls Try.prog 62 #[.int .u32 x, .int .u64 26] w fun e w' => e = .returned (.int .u32 (rolS x 26)) ∧ w = w' := by
  go_enter Try.func62, Try.ntmps62
  go_wp2_with fail
  go_ret
  exact ⟨rfl, rfl⟩

set_option maxRecDepth 100000 in
theorem rotlm_21 (w : World) (x : Int) :
    Calls Try.prog 111 #[.int .u32 x, .int .i64 (-11)] w fun e w' => e = .returned (.int .u32 (rolS x 21)) ∧ w = w' := by
  have hb : bits .and .u64 18446744073709551605 31 = 21 := by decide
  have hw : IntKind.u64.wrap ((-11)) = 18446744073709551605 := by decide
  go_enter Try.func111, Try.ntmps111
  go_wp2_with fail
  go_ret
  exact ⟨rfl, rfl⟩
theorem ror_21 (w : World) (x : Int) :
    Calls Try.prog 112 #[.int .u32 x, .int .i64 11] w fun e w' => e = .returned (.int .u32 (rolS x 21)) ∧ w = w' := by
  go_enter Try.func112, Try.ntmps112
  go_wp2_with (go_at_call 111; refine (rotlm_21 _ _).mono ?_; rintro e w1 ⟨rfl, rfl⟩)
  go_ret
  exact ⟨rfl, rfl⟩
theorem rol_21 (w : World) (x : Int) :
    Calls Try.prog 62 #[.int .u32 x, .int .u64 21] w fun e w' => e = .returned (.int .u32 (rolS x 21)) ∧ w = w' := by
  go_enter Try.func62, Try.ntmps62
  go_wp2_with fail
  go_ret
  exact ⟨rfl, rfl⟩

set_option maxRecDepth 100000 in
theorem rotlm_7 (w : World) (x : Int) :
    Calls Try.prog 111 #[.int .u32 x, .int .i64 (-25)] w fun e w' => e = .returned (.int .u32 (rolS x 7)) ∧ w = w' := by
  have hb : bits .and .u64 18446744073709551591 31 = 7 := by decide
  have hw : IntKind.u64.wrap ((-25)) = 18446744073709551591 := by decide
  go_enter Try.func111, Try.ntmps111
  go_wp2_with fail
  go_ret
  exact ⟨rfl, rfl⟩
theorem ror_7 (w : World) (x : Int) :
    Calls Try.prog 112 #[.int .u32 x, .int .i64 25] w fun e w' => e = .returned (.int .u32 (rolS x 7)) ∧ w = w' := by
  go_enter Try.func112, Try.ntmps112
  go_wp2_with (go_at_call 111; refine (rotlm_7 _ _).mono ?_; rintro e w1 ⟨rfl, rfl⟩)
  go_ret
  exact ⟨rfl, rfl⟩
theorem rol_7 (w : World) (x : Int) :
    Calls Try.prog 62 #[.int .u32 x, .int .u64 7] w fun e w' => e = .returned (.int .u32 (rolS x 7)) ∧ w = w' := by
  go_enter Try.func62, Try.ntmps62
  go_wp2_with fail
  go_ret
  exact ⟨rfl, rfl⟩

set_option maxRecDepth 100000 in
theorem rotlm_30 (w : World) (x : Int) :
    Calls Try.prog 111 #[.int .u32 x, .int .i64 (-2)] w fun e w' => e = .returned (.int .u32 (rolS x 30)) ∧ w = w' := by
  have hb : bits .and .u64 18446744073709551614 31 = 30 := by decide
  have hw : IntKind.u64.wrap ((-2)) = 18446744073709551614 := by decide
  go_enter Try.func111, Try.ntmps111
  go_wp2_with fail
  go_ret
  exact ⟨rfl, rfl⟩
theorem ror_30 (w : World) (x : Int) :
    Calls Try.prog 112 #[.int .u32 x, .int .i64 2] w fun e w' => e = .returned (.int .u32 (rolS x 30)) ∧ w = w' := by
  go_enter Try.func112, Try.ntmps112
  go_wp2_with (go_at_call 111; refine (rotlm_30 _ _).mono ?_; rintro e w1 ⟨rfl, rfl⟩)
  go_ret
  exact ⟨rfl, rfl⟩
set_option maxRecDepth 100000 in
theorem rotlm_19 (w : World) (x : Int) :
    Calls Try.prog 111 #[.int .u32 x, .int .i64 (-13)] w fun e w' => e = .returned (.int .u32 (rolS x 19)) ∧ w = w' := by
  have hb : bits .and .u64 18446744073709551603 31 = 19 := by decide
  have hw : IntKind.u64.wrap ((-13)) = 18446744073709551603 := by decide
  go_enter Try.func111, Try.ntmps111
  go_wp2_with fail
  go_ret
  exact ⟨rfl, rfl⟩
theorem ror_19 (w : World) (x : Int) :
    Calls Try.prog 112 #[.int .u32 x, .int .i64 13] w fun e w' => e = .returned (.int .u32 (rolS x 19)) ∧ w = w' := by
  go_enter Try.func112, Try.ntmps112
  go_wp2_with (go_at_call 111; refine (rotlm_19 _ _).mono ?_; rintro e w1 ⟨rfl, rfl⟩)
  go_ret
  exact ⟨rfl, rfl⟩
theorem rol_19 (w : World) (x : Int) :
    Calls Try.prog 62 #[.int .u32 x, .int .u64 19] w fun e w' => e = .returned (.int .u32 (rolS x 19)) ∧ w = w' := by
  go_enter Try.func62, Try.ntmps62
  go_wp2_with fail
  go_ret
  exact ⟨rfl, rfl⟩

set_option maxRecDepth 100000 in
theorem rotlm_10 (w : World) (x : Int) :
    Calls Try.prog 111 #[.int .u32 x, .int .i64 (-22)] w fun e w' => e = .returned (.int .u32 (rolS x 10)) ∧ w = w' := by
  have hb : bits .and .u64 18446744073709551594 31 = 10 := by decide
  have hw : IntKind.u64.wrap ((-22)) = 18446744073709551594 := by decide
  go_enter Try.func111, Try.ntmps111
  go_wp2_with fail
  go_ret
  exact ⟨rfl, rfl⟩
theorem ror_10 (w : World) (x : Int) :
    Calls Try.prog 112 #[.int .u32 x, .int .i64 22] w fun e w' => e = .returned (.int .u32 (rolS x 10)) ∧ w = w' := by
  go_enter Try.func112, Try.ntmps112
  go_wp2_with (go_at_call 111; refine (rotlm_10 _ _).mono ?_; rintro e w1 ⟨rfl, rfl⟩)
  go_ret
  exact ⟨rfl, rfl⟩
theorem rol_10 (w : World) (x : Int) :
    Calls Try.prog 62 #[.int .u32 x, .int .u64 10] w fun e w' => e = .returned (.int .u32 (rolS x 10)) ∧ w = w' := by
  go_enter Try.func62, Try.ntmps62
  go_wp2_with fail
  go_ret
  exact ⟨rfl, rfl⟩

end Go.Proofs.Ytimelnihiocngaa
