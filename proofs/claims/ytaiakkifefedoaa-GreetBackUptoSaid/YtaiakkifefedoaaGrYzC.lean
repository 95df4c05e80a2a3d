import Derived.Test.YtaiakkifefedoaaGrYb0C
import Derived.Test.YtaiakkifefedoaaGrYcC
import Derived.Test.YtaiakkifefedoaaGrZaC
/- GreetBack's walk, joined. (Printed by gen_grYz.py.) -/
namespace Go.Proofs.Ytaiakkifefedoaa
open Go.RowKit

theorem greetBack_c (w : World) (cut more : Int) (verg : List UInt8) (thrg : Int) (ng : List UInt8) (capsg : Int) (chg : Int) (stg : Int) (plg : List UInt8) (capsa : Int) (mosta : Int) (cha : Int) (usera : List UInt8) (respa : List UInt8) (dba : List UInt8) (pla : List UInt8) (psa : Pairs) (pls : List UInt8) (ns : List UInt8) (userc : List UInt8) (respc : List UInt8) (dbc : List UInt8) (chc : Int) (plc : List UInt8) (psc : Pairs) (c : Int) (vg va wa vs vc wc : Value) (hm : 0 ≤ more ∧ more < 256) (h : verg.length ≤ 1048576 ∧ (0 ≤ thrg ∧ thrg < 4294967296) ∧ (Rd w vg ng ∧ ng.length ≤ 1048576) ∧ (0 ≤ capsg ∧ capsg < 4294967296) ∧ (0 ≤ chg ∧ chg < 256) ∧ (0 ≤ stg ∧ stg < 65536) ∧ plg.length ≤ 1048576 ∧ (0 ≤ capsa ∧ capsa < 4294967296) ∧ (0 ≤ mosta ∧ mosta < 4294967296) ∧ (0 ≤ cha ∧ cha < 256) ∧ usera.length ≤ 1048576 ∧ (Rd w va respa ∧ respa.length ≤ 1048576) ∧ dba.length ≤ 1048576 ∧ pla.length ≤ 1048576 ∧ (Attrs w wa psa ∧ smallB psa) ∧ pls.length ≤ 1048576 ∧ (Rd w vs ns ∧ ns.length ≤ 1048576) ∧ userc.length ≤ 1048576 ∧ (Rd w vc respc ∧ respc.length ≤ 1048576) ∧ dbc.length ≤ 1048576 ∧ (0 ≤ chc ∧ chc < 65536) ∧ plc.length ≤ 1048576 ∧ (Attrs w wc psc ∧ smallB psc) ∧ (0 ≤ c ∧ c < 4294967296)) :
    Calls Try.prog 4 #[.agg #[.string (strL verg), .int .u32 thrg, vg, .int .u32 capsg, .int .u8 chg, .int .u16 stg, .string (strL plg), .int .u32 capsa, .int .u32 mosta, .int .u8 cha, .string (strL usera), va, .string (strL dba), .string (strL pla), wa, .string (strL pls), vs, .string (strL userc), vc, .string (strL dbc), .int .u16 chc, .string (strL plc), wc, .int .u32 c], .int .i64 cut, .int .u8 more] w (RetTrue w) := by
  obtain ⟨NGverg, NGthrg, NGng, NGcapsg, NGchg, NGstg, NGplg, NGcapsa, NGmosta, NGcha, NGusera, NGrespa, NGdba, NGpla, NGpsa, NGpls, NGns, NGuserc, NGrespc, NGdbc, NGchc, NGplc, NGpsc, hcr⟩ := h
  obtain ⟨Ag, cg, hv, _⟩ := id NGng.1
  subst hv
  obtain ⟨Ar, cr, hv, _⟩ := id NGrespa.1
  subst hv
  obtain ⟨As, cs, hv, _⟩ := id NGns.1
  subst hv
  obtain ⟨Ac, cc, hv, _⟩ := id NGrespc.1
  subst hv
  obtain ⟨Aa, ca, hv, _, _⟩ := Recs.shape NGpsa.1
  rw [pairsC_length] at hv
  subst hv
  obtain ⟨Ad, cd, hv, _, _⟩ := Recs.shape NGpsc.1
  rw [pairsC_length] at hv
  subst hv
  cases hK : smallK (verg.length + ng.length + plg.length + usera.length + respa.length + dba.length + pla.length + pls.length + ns.length + userc.length + respc.length + dbc.length + plc.length) psa psc with
  | true => exact greetBack_1 w cut more c verg ng plg usera respa dba pla pls ns userc respc dbc plc psa psc thrg capsg chg stg capsa mosta cha chc Ag Ar Aa As Ac Ad cg cr ca cs cc cd NGng.1 NGrespa.1 NGpsa.1 NGns.1 NGrespc.1 NGpsc.1 hm ⟨NGthrg, NGcapsg, NGchg, NGstg, NGcapsa, NGmosta, NGcha, NGchc, trivial⟩ ⟨NGverg, NGng.2, NGplg, NGusera, NGrespa.2, NGdba, NGpla, NGpls, NGns.2, NGuserc, NGrespc.2, NGdbc, NGplc⟩ NGpsa.2.2 NGpsc.2.2 hK
  | false => exact greetBack_0 w cut more c verg ng plg usera respa dba pla pls ns userc respc dbc plc psa psc thrg capsg chg stg capsa mosta cha chc Ag Ar Aa As Ac Ad cg cr ca cs cc cd NGng.1 NGrespa.1 NGpsa.1 NGns.1 NGrespc.1 NGpsc.1 hm ⟨NGthrg, NGcapsg, NGchg, NGstg, NGcapsa, NGmosta, NGcha, NGchc, trivial⟩ ⟨NGverg, NGng.2, NGplg, NGusera, NGrespa.2, NGdba, NGpla, NGpls, NGns.2, NGuserc, NGrespc.2, NGdbc, NGplc⟩ NGpsa.2.2 NGpsc.2.2 hK
end Go.Proofs.Ytaiakkifefedoaa
