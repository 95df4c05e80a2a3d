import Derived.Test.YtbodppfpmpmadaaGreatLogDcC
namespace Go.Proofs.YtbodppfpmpmadaaGreat
open Go.RowKit

theorem loginDoors_c (w : World) (us : List UserV) (ver n pl : List UInt8) (thr caps ch st : Int) (vn vu vl vb vo : Value) (ls : List (List UInt8)) (bs : List Bool) (other : List UInt8) (hus : Recs w 5 vu (us.map userC)) (hn : Rd w vn n) (hl : Lists w vl ls) (hb : Bls w vb bs) (ho : Rd w vo other) (hnl : ∀ k, k < us.length → (us.getD k userZ).name.length ≤ 9223372036854775807 ∧ (us.getD k userZ).pw.length ≤ 9223372036854775807 ∧ (us.getD k userZ).sc.length ≤ 9223372036854775807)
    (ht : 0 ≤ thr ∧ thr < 4294967296) (hcaps : 0 ≤ caps ∧ caps < 4294967296) (hch : 0 ≤ ch ∧ ch < 256) (hst : 0 ≤ st ∧ st < 65536) :
    Calls Tryz.prog 4 #[vu, .agg #[.string (strL ver), .int .u32 thr, vn, .int .u32 caps, .int .u8 ch, .int .u16 st, .string (strL pl)], vl, vb, vo] w fun e w' => e = .returned (.bool true) ∧ Ext w w' := by
  cases hq : smallQ ls with
  | false => exact doors_big0 w us ver n pl thr caps ch st vn vu vl vb vo ls bs other hus hn hl hb ho hq
  | true =>
    by_cases h0 : (us.length : Int) > 100
    · exact doors_big1 w us ver n pl thr caps ch st vn vu vl vb vo ls bs other hus hn hl hb ho hq h0
    by_cases h1 : (other.length : Int) > 100
    · exact doors_big2 w us ver n pl thr caps ch st vn vu vl vb vo ls bs other hus hn hl hb ho hq h0 h1
    by_cases h2 : ((strL ver).size : Int) > 3000
    · exact doors_big3 w us ver n pl thr caps ch st vn vu vl vb vo ls bs other hus hn hl hb ho hq h0 h1 h2
    by_cases h3 : ((strL pl).size : Int) > 3000
    · exact doors_big4 w us ver n pl thr caps ch st vn vu vl vb vo ls bs other hus hn hl hb ho hq h0 h1 h2 h3
    by_cases h4 : (n.length : Int) > 100
    · exact doors_big5 w us ver n pl thr caps ch st vn vu vl vb vo ls bs other hus hn hl hb ho hq h0 h1 h2 h3 h4
    exact doors_main w us ver n pl thr caps ch st vn vu vl vb vo ls bs other hus hn hl hb ho hnl ht hcaps hch hst hq h0 h1 h2 h3 h4
end Go.Proofs.YtbodppfpmpmadaaGreat

