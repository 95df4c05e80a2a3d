import Derived.Test.YtaiakkifefedoaaGrYaC
import Derived.Deep.RegionHeld3
import Derived.Deep.CutRange
/- GreetBack's walk: what is not gone through. (Printed by gen_grYb.py.) -/
namespace Go.Proofs.Ytaiakkifefedoaa
open Go.RowKit

set_option linter.unusedVariables false in
set_option maxRecDepth 100000 in
set_option maxHeartbeats 1000000 in
theorem greetBack_0 (w : World) (cut more c : Int) (verg ng plg usera respa dba pla pls ns userc respc dbc plc : List UInt8) (psa psc : Pairs) (thrg capsg chg stg capsa mosta cha chc : Int) (Ag Ar Aa As Ac Ad : Option Addr) (cg cr ca cs cc cd : Nat)
    (hrg : Rd w (.slice Ag ng.length cg) ng) (hrr : Rd w (.slice Ar respa.length cr) respa) (haa : Attrs w (.slice Aa psa.length ca) psa) (hrs : Rd w (.slice As ns.length cs) ns) (hrc : Rd w (.slice Ac respc.length cc) respc) (had : Attrs w (.slice Ad psc.length cd) psc)
    (hm : 0 ≤ more ∧ more < 256) (hw : (0 ≤ thrg ∧ thrg < 4294967296) ∧ (0 ≤ capsg ∧ capsg < 4294967296) ∧ (0 ≤ chg ∧ chg < 256) ∧ (0 ≤ stg ∧ stg < 65536) ∧ (0 ≤ capsa ∧ capsa < 4294967296) ∧ (0 ≤ mosta ∧ mosta < 4294967296) ∧ (0 ≤ cha ∧ cha < 256) ∧ (0 ≤ chc ∧ chc < 65536) ∧ True)
    (hb13 : verg.length ≤ 1048576 ∧ ng.length ≤ 1048576 ∧ plg.length ≤ 1048576 ∧ usera.length ≤ 1048576 ∧ respa.length ≤ 1048576 ∧ dba.length ≤ 1048576 ∧ pla.length ≤ 1048576 ∧ pls.length ≤ 1048576 ∧ ns.length ≤ 1048576 ∧ userc.length ≤ 1048576 ∧ respc.length ≤ 1048576 ∧ dbc.length ≤ 1048576 ∧ plc.length ≤ 1048576)
    (hpa : ∀ p ∈ psa, p.1.length ≤ 1048576 ∧ p.2.length ≤ 1048576) (hpc : ∀ p ∈ psc, p.1.length ≤ 1048576 ∧ p.2.length ≤ 1048576) (hK : smallK (verg.length + ng.length + plg.length + usera.length + respa.length + dba.length + pla.length + pls.length + ns.length + userc.length + respc.length + dbc.length + plc.length) psa psc = false) :
    Calls Try.prog 4 #[.agg #[.string (strL verg), .int .u32 thrg, .slice Ag ng.length cg, .int .u32 capsg, .int .u8 chg, .int .u16 stg, .string (strL plg), .int .u32 capsa, .int .u32 mosta, .int .u8 cha, .string (strL usera), .slice Ar respa.length cr, .string (strL dba), .string (strL pla), .slice Aa psa.length ca, .string (strL pls), .slice As ns.length cs, .string (strL userc), .slice Ac respc.length cc, .string (strL dbc), .int .u16 chc, .string (strL plc), .slice Ad psc.length cd, .int .u32 c], .int .i64 cut, .int .u8 more] w (RetTrue w) := by
  have HSM0 := Lib.hid (fun (W : World) (hW : Ext w W) => small_c W (strL verg) (strL plg) (strL usera) (strL dba) (strL pla) (strL pls) (strL userc) (strL dbc) (strL plc) ng.length respa.length ns.length respc.length Ag Ar Aa As Ac Ad cg cr ca cs cc cd thrg capsg chg stg capsa mosta cha chc c psa psc (Recs.ext haa hW) (Recs.ext had hW) hpa hpc (by rw [strL_size]; omega) (by omega) (by rw [strL_size]; omega) (by rw [strL_size]; omega) (by omega) (by rw [strL_size]; omega) (by rw [strL_size]; omega) (by rw [strL_size]; omega) (by omega) (by rw [strL_size]; omega) (by omega) (by rw [strL_size]; omega) (by rw [strL_size]; omega))
  have HSM1 := Lib.hid (fun (W : World) (hW : Ext w W) => by have h9 := HSM0.out W hW; simp only [strL_size] at h9; rw [hK] at h9; exact h9)
  have HRg0 := Lib.hid hrg
  have HRr0 := Lib.hid hrr
  have HAa0 := Lib.hid haa
  have HRs0 := Lib.hid hrs
  have HRc0 := Lib.hid hrc
  have HAd0 := Lib.hid had
  have HM := Lib.hid hm
  have HW := Lib.hid hw
  clear hrg hrr haa hrs hrc had hm hw hb13 hpa hpc hK HSM0
  go_enter Try.func4, Try.ntmps4
  go_wp2_with fail
  generalize hW0 : w.alloc _ = wS
  have HB := Lib.hid (show BoxF wS w.heap.size [.string (strL verg), .int .u32 thrg, .slice Ag ng.length cg, .int .u32 capsg, .int .u8 chg, .int .u16 stg, .string (strL plg), .int .u32 capsa, .int .u32 mosta, .int .u8 cha, .string (strL usera), .slice Ar respa.length cr, .string (strL dba), .string (strL pla), .slice Aa psa.length ca, .string (strL pls), .slice As ns.length cs, .string (strL userc), .slice Ac respc.length cc, .string (strL dbc), .int .u16 chc, .string (strL plc), .slice Ad psc.length cd, .int .u32 c] by rw [← hW0]; exact BoxF.new w _ _)
  have hx0 : Ext w wS := by rw [← hW0]; exact (Ext.refl w).alloc _
  clear hW0
  have HX0 := Lib.hid hx0
  have HRg := Lib.hid (HRg0.out.ext hx0)
  have HRr := Lib.hid (HRr0.out.ext hx0)
  have HAa := Lib.hid (Recs.ext HAa0.out hx0)
  have HRs := Lib.hid (HRs0.out.ext hx0)
  have HRc := Lib.hid (HRc0.out.ext hx0)
  have HAd := Lib.hid (Recs.ext HAd0.out hx0)
  have HSM := Lib.hid (fun (W : World) (hW : Ext wS W) => HSM1.out W (hx0.trans hW))
  clear hx0 HRg0 HRr0 HAa0 HRs0 HRc0 HAd0 HSM1
  go_wp2_with (first
    | (go_at_call 14; refine (lives12_c _).mono ?_; rintro e wl ⟨rfl, hE⟩)
    | ((with_reducible show wpList _ _ _ (⟨some 35, _, _, _, _, _⟩ :: _) _ _); refine wpl_load_box rfl _ _ rfl _ rfl (HB.out.ext hE) Try.underlying49 rfl (by kernel_rfl) ?_)
    | (go_at_call 15; refine (HSM.out _ hE).mono ?_; rintro e ws9 ⟨rfl, hx9⟩; replace hE := hE.trans hx9; clear hx9)
    | fail)
  go_ret
  exact ⟨rfl, HX0.out.trans hE⟩
end Go.Proofs.Ytaiakkifefedoaa
