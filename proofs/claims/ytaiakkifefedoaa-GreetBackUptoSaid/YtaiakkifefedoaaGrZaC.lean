import Derived.Test.YtaiakkifefedoaaRows
import Derived.Test.YtaiakkifefedoaaL5C
import Derived.Test.YtaiakkifefedoaaL8C
import Derived.Deep.SlicePairs
/- What packets of logins that came in are, where their bulk is bounded. (Printed by gen_grZ.py.) -/
namespace Go.Proofs.Ytaiakkifefedoaa
open Go.ChangeShapes Go.WideShapes Go.ChangeAt Go.RowKit

/-- Attributes whose texts are not too long, nor they too many. -/
def smallB (ps : Pairs) : Prop := ps.length ≤ 1048576 ∧ ∀ p ∈ ps, p.1.length ≤ 1048576 ∧ p.2.length ≤ 1048576
theorem wf_u8 {x : Int} (h : (Lit.int .u8 x).wf = true) : 0 ≤ x ∧ x < 256 := by
  simp [Lit.wf, IntKind.min, IntKind.max, IntKind.signed, IntKind.bits] at h
  omega
section
variable {H : Type} {enc : TypeId × Value → H} {w : World} {r : Reach} {b0 base : Nat} {spare : Nat → Bool} {held : Bool} {P : Program}
theorem bulk_mem : ∀ {l : List (DataW H)} {d : DataW H}, d ∈ l → Rows.uptoBulk d ≤ Rows.uptoBulkAll l
  | [], _, h => by simp at h
  | x :: l, d, h => by
    rw [Rows.uptoBulkAll]
    rcases List.mem_cons.1 h with rfl | h
    · omega
    · have := bulk_mem h
      omega
theorem bulk_len : ∀ (l : List (DataW H)), (∀ d ∈ l, 1 ≤ Rows.uptoBulk d) → l.length ≤ Rows.uptoBulkAll l
  | [], _ => by simp
  | x :: l, h => by
    have h1 := h x (by simp)
    have h2 := bulk_len l (fun d hd => h d (by simp [hd]))
    rw [Rows.uptoBulkAll, List.length_cons]
    omega
theorem field_atb {t : TypeId} {fs : Array Field} {fuel : Nat} {cs : List Value} {x : DataW H × List MemPlace} (ht : P.underlying t = some (.struct fs)) (h : DataW.trod enc P w base spare held fuel t cs = some x) {B : Nat} (hb : Rows.uptoBulk x.1 ≤ B)
    (i : Nat) (f : Field) (hf : fs[i]? = some f) (n : Nat) (hn : P.cellsOf f.type = n) : ∃ m y, DataW.trod enc P w base spare held m f.type ((cs.drop f.offset).take n) = some y ∧ Rows.uptoBulk y.1 ≤ B := by
  obtain ⟨xs, m, _, hx, _, hlen, hg⟩ := DataW.trod_struct ht h
  obtain ⟨hi, _⟩ := Array.getElem?_eq_some_iff.1 hf
  have h1 := hg i f hf
  rw [hn, List.getElem?_eq_getElem (by omega)] at h1
  refine ⟨m, _, h1, ?_⟩
  rw [hx] at hb
  dsimp only at hb
  rw [Rows.uptoBulk] at hb
  have := bulk_mem (l := xs.map (·.1)) (d := (xs[i]'(by omega)).1) (List.mem_map.2 ⟨_, List.getElem_mem _, rfl⟩)
  omega
theorem leaf_strb {t : TypeId} (ht : P.underlying t = some .string) {fuel : Nat} {cs : List Value} {x : DataW H × List MemPlace} (h : DataW.trod enc P w base spare held fuel t cs = some x) {B : Nat} (hb : Rows.uptoBulk x.1 ≤ B) : ∃ l : List UInt8, cs = [.string (strL l)] ∧ l.length ≤ B := by
  obtain ⟨s, h1, h2, _⟩ := DataW.trod_string ht h
  refine ⟨s.data.toList, by rw [h1]; rfl, ?_⟩
  rw [h2] at hb
  dsimp only at hb
  rw [Rows.uptoBulk] at hb
  omega
theorem leaf_rdb (hT : BT P) (hc : P.cellsOf 5 = 1) {fuel : Nat} {cs : List Value} {x : DataW H × List MemPlace} (h : DataW.trod enc P w 0 (fun _ => true) true fuel 22 cs = some x) {B : Nat} (hb : Rows.uptoBulk x.1 ≤ B) :
    ∃ v l, cs = [v] ∧ Rd w v l ∧ l.length ≤ B := by
  rcases open_ints hT.sl hT.el hc h with ⟨hcs, _⟩ | ⟨x0, l, c, zs, hcs, _, hl, hm, hz, hx, hcell, hwz⟩
  · exact ⟨_, [], hcs, Rd.nil w, Nat.zero_le _⟩
  · obtain ⟨l', hl', hll⟩ := rd_of (w := w) (a := some x0) (len := l) (cap := c) (zs := zs) (.inr ⟨x0, rfl, hl, hm, by simpa using hz, hcell, hwz⟩)
    refine ⟨_, l', hcs, hl', ?_⟩
    rw [hx] at hb
    dsimp only at hb
    rw [Rows.uptoBulk] at hb
    have h1 := bulk_len (H := H) (lits .u8 (zs.take l)) (fun d hd => by
      unfold lits at hd
      obtain ⟨z, _, rfl⟩ := List.mem_map.1 hd
      rw [Rows.uptoBulk]
      all_goals (first | exact Nat.le_refl _ | (intros; simp_all)))
    have h2 : (lits (H := H) .u8 (zs.take l)).length = l := by
      unfold lits
      rw [List.length_map, List.length_take]
      simp only [↓reduceIte] at hz
      omega
    obtain ⟨A', c', hv, _⟩ := id hl'
    have h3 := (Value.slice.inj hv).2.1
    omega
theorem leaf_attrs {fuel : Nat} {cs : List Value} {x : DataW H × List MemPlace} (h : DataW.trod enc Try.prog w 0 (fun _ => true) true fuel 36 cs = some x) (hb : Rows.uptoBulk x.1 ≤ 1048576) :
    ∃ v ps, cs = [v] ∧ Attrs w v ps ∧ smallB ps := by
  rcases Go.Deep.open_slice_pairs Try.underlying36 Try.underlying85 (by kernel_rfl) rfl rfl (by kernel_rfl) (by kernel_rfl) h with ⟨hcs, _⟩ | ⟨a', len, cap, m, n, V0, V1, D0, D1, P0, P1, hcs, _, hl, hm, hmm, hx, hcell⟩
  · exact ⟨_, [], hcs, Recs.nil w 2, by simp, fun p hp => by simp at hp⟩
  · have hmc : m = cap := by simpa using hmm
    subst hmc
    rw [hx] at hb
    dsimp only at hb
    rw [Rows.uptoBulk] at hb
    have hel : ∀ i, i < len → Rows.uptoBulk (D0 i) ≤ 1048576 ∧ Rows.uptoBulk (D1 i) ≤ 1048576 := fun i hi => by
      have h1 := bulk_mem (l := (List.range len).map fun i => DataW.agg [D0 i, D1 i]) (d := .agg [D0 i, D1 i]) (List.mem_map.2 ⟨i, List.mem_range.2 hi, rfl⟩)
      rw [Rows.uptoBulk, Rows.uptoBulkAll, Rows.uptoBulkAll, Rows.uptoBulkAll] at h1
      omega
    have hlen : len ≤ 1048576 := by
      have h1 := bulk_len ((List.range len).map fun i => DataW.agg [D0 i, D1 i]) (fun d hd => by
        obtain ⟨i, _, rfl⟩ := List.mem_map.1 hd
        rw [Rows.uptoBulk]
        omega)
      rw [List.length_map, List.length_range] at h1
      omega
    have each : ∀ i, i < len → ∃ q : List UInt8 × List UInt8, w.cell? (a'.add (i * 2)) = some (.string (strL q.1)) ∧ w.cell? (a'.add (i * 2 + 1)) = some (.string (strL q.2)) ∧ q.1.length ≤ 1048576 ∧ q.2.length ≤ 1048576 := by
      intro i hi
      obtain ⟨h1, h2, h3, h4⟩ := hcell i (by omega)
      obtain ⟨l0, e0, b0⟩ := leaf_strb Try.underlying9 h3 (hel i hi).1
      obtain ⟨l1, e1, b1⟩ := leaf_strb Try.underlying9 h4 (hel i hi).2
      rw [(List.cons.inj e0).1] at h1
      rw [(List.cons.inj e1).1] at h2
      exact ⟨(l0, l1), h1, h2, b0, b1⟩
    obtain ⟨f, hf'⟩ := Go.Deep.choose_lt each
    by_cases h0 : len = 0
    · subst h0
      exact ⟨_, [], hcs, ⟨some a', m, rfl, by simp [pairsC], hm, fun h => by simp [pairsC] at h⟩, by simp, fun p hp => by simp at hp⟩
    have ha : ∃ b o, a' = ⟨b, o, none⟩ := by
      have h9 := (hf' 0 (by omega)).1
      obtain ⟨ab, ao, sp⟩ := a'
      cases sp with
      | none => exact ⟨ab, ao, rfl⟩
      | some s =>
        have e : (⟨ab, ao, some s⟩ : Addr).add (0 * 2) = ⟨ab, ao, some s⟩ := rfl
        rw [e] at h9
        obtain ⟨b, o, hq⟩ := addr_spot h9
        exact absurd hq (by simp)
    obtain ⟨b, o, rfl⟩ := ha
    have hlen2 : ((List.range len).map f).length = len := by simp
    have hget : ∀ i, i < len → ((List.range len).map f).getD i ([], []) = f i := fun i hi => by
      simp [List.getD_eq_getElem?_getD, List.getElem?_map, List.getElem?_range hi]
    refine ⟨_, (List.range len).map f, hcs, ⟨some ⟨b, o, none⟩, m, by rw [pairsC_length, hlen2], by rw [pairsC_length, hlen2]; exact hl, hm, fun _ => ⟨b, o, rfl, fun j hj => ?_⟩⟩, by rw [hlen2]; exact hlen, fun p hp => ?_⟩
    · rw [pairsC_length, hlen2] at hj
      rw [pairsC_getD _ _ (by rw [hlen2]; exact hj), hget j hj]
      obtain ⟨q1, q2, _, _⟩ := hf' j hj
      rw [addrk] at q1 q2
      intro jj u hu
      match jj, hu with
      | 0, hu => have e : Value.string (strL (f j).1) = u := Option.some.inj hu; rw [← e]; exact q1
      | 1, hu => have e : Value.string (strL (f j).2) = u := Option.some.inj hu; rw [← e]; exact q2
      | k + 2, hu => exact absurd hu (by simp [pairC])
    · obtain ⟨i, hi, rfl⟩ := List.mem_map.1 hp
      obtain ⟨_, _, q3, q4⟩ := hf' i (List.mem_range.1 hi)
      exact ⟨q3, q4⟩
theorem list24 {α : Type} (l : List α) (h : l.length = 24) : ∃ x0 x1 x2 x3 x4 x5 x6 x7 x8 x9 x10 x11 x12 x13 x14 x15 x16 x17 x18 x19 x20 x21 x22 x23, l = [x0, x1, x2, x3, x4, x5, x6, x7, x8, x9, x10, x11, x12, x13, x14, x15, x16, x17, x18, x19, x20, x21, x22, x23] := by
  match l, h with
  | [x0, x1, x2, x3, x4, x5, x6, x7, x8, x9, x10, x11, x12, x13, x14, x15, x16, x17, x18, x19, x20, x21, x22, x23], _ => exact ⟨x0, x1, x2, x3, x4, x5, x6, x7, x8, x9, x10, x11, x12, x13, x14, x15, x16, x17, x18, x19, x20, x21, x22, x23, rfl⟩
set_option maxRecDepth 100000 in
theorem packets_arg {v : Value} {d : DataW H} {p : List MemPlace} (hv : Value.okWide Try.prog w r b0 49 v) (h : DataW.Trod enc Try.prog w 0 (fun _ => true) true 49 v d p) (hb : Rows.uptoBulk d ≤ 1048576) :
    ∃ (verg : List UInt8) (thrg : Int) (ng : List UInt8) (capsg : Int) (chg : Int) (stg : Int) (plg : List UInt8) (capsa : Int) (mosta : Int) (cha : Int) (usera : List UInt8) (respa : List UInt8) (dba : List UInt8) (pla : List UInt8) (psa : Pairs) (pls : List UInt8) (ns : List UInt8) (userc : List UInt8) (respc : List UInt8) (dbc : List UInt8) (chc : Int) (plc : List UInt8) (psc : Pairs) (c : Int) (vg va wa vs vc wc : Value), v = .agg #[.string (strL verg), .int .u32 thrg, vg, .int .u32 capsg, .int .u8 chg, .int .u16 stg, .string (strL plg), .int .u32 capsa, .int .u32 mosta, .int .u8 cha, .string (strL usera), va, .string (strL dba), .string (strL pla), wa, .string (strL pls), vs, .string (strL userc), vc, .string (strL dbc), .int .u16 chc, .string (strL plc), wc, .int .u32 c] ∧ verg.length ≤ 1048576 ∧ (0 ≤ thrg ∧ thrg < 4294967296) ∧ (Rd w vg ng ∧ ng.length ≤ 1048576) ∧ (0 ≤ capsg ∧ capsg < 4294967296) ∧ (0 ≤ chg ∧ chg < 256) ∧ (0 ≤ stg ∧ stg < 65536) ∧ plg.length ≤ 1048576 ∧ (0 ≤ capsa ∧ capsa < 4294967296) ∧ (0 ≤ mosta ∧ mosta < 4294967296) ∧ (0 ≤ cha ∧ cha < 256) ∧ usera.length ≤ 1048576 ∧ (Rd w va respa ∧ respa.length ≤ 1048576) ∧ dba.length ≤ 1048576 ∧ pla.length ≤ 1048576 ∧ (Attrs w wa psa ∧ smallB psa) ∧ pls.length ≤ 1048576 ∧ (Rd w vs ns ∧ ns.length ≤ 1048576) ∧ userc.length ≤ 1048576 ∧ (Rd w vc respc ∧ respc.length ≤ 1048576) ∧ dbc.length ≤ 1048576 ∧ (0 ≤ chc ∧ chc < 65536) ∧ plc.length ≤ 1048576 ∧ (Attrs w wc psc ∧ smallB psc) ∧ (0 ≤ c ∧ c < 4294967296) := by
  have U := Try.underlying49
  have C : Try.prog.cellsOf 49 = 24 := by kernel_rfl
  obtain ⟨cs, rfl, hsz⟩ := okWide_struct U hv
  obtain ⟨l⟩ := cs
  obtain ⟨x0, x1, x2, x3, x4, x5, x6, x7, x8, x9, x10, x11, x12, x13, x14, x15, x16, x17, x18, x19, x20, x21, x22, x23, rfl⟩ := list24 l (by rw [← C]; exact hsz)
  obtain ⟨fuel, hf⟩ := h
  have CG : Try.prog.cellsOf 45 = 7 := by kernel_rfl
  have CA : Try.prog.cellsOf 38 = 8 := by kernel_rfl
  have CS : Try.prog.cellsOf 28 = 2 := by kernel_rfl
  have CU : Try.prog.cellsOf 47 = 6 := by kernel_rfl
  have Duint8 : Try.prog.cellsOf 5 = 1 := by kernel_rfl
  have Duint16 : Try.prog.cellsOf 43 = 1 := by kernel_rfl
  have Duint32 : Try.prog.cellsOf 34 = 1 := by kernel_rfl
  have DapiCaps : Try.prog.cellsOf 35 = 1 := by kernel_rfl
  have Dstring : Try.prog.cellsOf 9 = 1 := by kernel_rfl
  have DSuint8 : Try.prog.cellsOf 22 = 1 := by kernel_rfl
  have DSapiAttr : Try.prog.cellsOf 36 = 1 := by kernel_rfl
  obtain ⟨mG, yG, gG, hG⟩ := field_atb U hf hb 0 _ rfl 7 CG
  obtain ⟨mA, yA, gA, hA⟩ := field_atb U hf hb 1 _ rfl 8 CA
  obtain ⟨mS, yS, gS, hS⟩ := field_atb U hf hb 2 _ rfl 2 CS
  obtain ⟨mU, yU, gU, hU⟩ := field_atb U hf hb 3 _ rfl 6 CU
  obtain ⟨mC, yC, gC, hC⟩ := field_atb U hf hb 4 _ rfl 1 DapiCaps
  obtain ⟨m0, y0, e0, b0⟩ := field_atb Try.underlying45 gG hG 0 _ rfl 1 Dstring
  obtain ⟨verg, k0, w0⟩ := leaf_strb Try.underlying9 e0 b0
  obtain rfl : x0 = .string (strL verg) := (List.cons.inj (show [x0] = [.string (strL verg)] from k0)).1
  obtain ⟨m1, y1, e1, b1⟩ := field_atb Try.underlying45 gG hG 1 _ rfl 1 Duint32
  obtain ⟨thrg, k1, w1⟩ := leaf_int Try.underlying34 e1
  obtain rfl : x1 = .int .u32 thrg := (List.cons.inj (show [x1] = [.int .u32 thrg] from k1)).1
  obtain ⟨m2, y2, e2, b2⟩ := field_atb Try.underlying45 gG hG 2 _ rfl 1 DSuint8
  obtain ⟨vg9, ng, k2, w2, q2⟩ := leaf_rdb bt Duint8 e2 b2
  obtain rfl : x2 = vg9 := (List.cons.inj (show [x2] = [vg9] from k2)).1
  obtain ⟨m3, y3, e3, b3⟩ := field_atb Try.underlying45 gG hG 3 _ rfl 1 DapiCaps
  obtain ⟨capsg, k3, w3⟩ := leaf_int Try.underlying35 e3
  obtain rfl : x3 = .int .u32 capsg := (List.cons.inj (show [x3] = [.int .u32 capsg] from k3)).1
  obtain ⟨m4, y4, e4, b4⟩ := field_atb Try.underlying45 gG hG 4 _ rfl 1 Duint8
  obtain ⟨chg, k4, w4⟩ := leaf_int Try.underlying5 e4
  obtain rfl : x4 = .int .u8 chg := (List.cons.inj (show [x4] = [.int .u8 chg] from k4)).1
  obtain ⟨m5, y5, e5, b5⟩ := field_atb Try.underlying45 gG hG 5 _ rfl 1 Duint16
  obtain ⟨stg, k5, w5⟩ := leaf_int Try.underlying43 e5
  obtain rfl : x5 = .int .u16 stg := (List.cons.inj (show [x5] = [.int .u16 stg] from k5)).1
  obtain ⟨m6, y6, e6, b6⟩ := field_atb Try.underlying45 gG hG 6 _ rfl 1 Dstring
  obtain ⟨plg, k6, w6⟩ := leaf_strb Try.underlying9 e6 b6
  obtain rfl : x6 = .string (strL plg) := (List.cons.inj (show [x6] = [.string (strL plg)] from k6)).1
  obtain ⟨m7, y7, e7, b7⟩ := field_atb Try.underlying38 gA hA 0 _ rfl 1 DapiCaps
  obtain ⟨capsa, k7, w7⟩ := leaf_int Try.underlying35 e7
  obtain rfl : x7 = .int .u32 capsa := (List.cons.inj (show [x7] = [.int .u32 capsa] from k7)).1
  obtain ⟨m8, y8, e8, b8⟩ := field_atb Try.underlying38 gA hA 1 _ rfl 1 Duint32
  obtain ⟨mosta, k8, w8⟩ := leaf_int Try.underlying34 e8
  obtain rfl : x8 = .int .u32 mosta := (List.cons.inj (show [x8] = [.int .u32 mosta] from k8)).1
  obtain ⟨m9, y9, e9, b9⟩ := field_atb Try.underlying38 gA hA 2 _ rfl 1 Duint8
  obtain ⟨cha, k9, w9⟩ := leaf_int Try.underlying5 e9
  obtain rfl : x9 = .int .u8 cha := (List.cons.inj (show [x9] = [.int .u8 cha] from k9)).1
  obtain ⟨m10, y10, e10, b10⟩ := field_atb Try.underlying38 gA hA 3 _ rfl 1 Dstring
  obtain ⟨usera, k10, w10⟩ := leaf_strb Try.underlying9 e10 b10
  obtain rfl : x10 = .string (strL usera) := (List.cons.inj (show [x10] = [.string (strL usera)] from k10)).1
  obtain ⟨m11, y11, e11, b11⟩ := field_atb Try.underlying38 gA hA 4 _ rfl 1 DSuint8
  obtain ⟨va9, respa, k11, w11, q11⟩ := leaf_rdb bt Duint8 e11 b11
  obtain rfl : x11 = va9 := (List.cons.inj (show [x11] = [va9] from k11)).1
  obtain ⟨m12, y12, e12, b12⟩ := field_atb Try.underlying38 gA hA 5 _ rfl 1 Dstring
  obtain ⟨dba, k12, w12⟩ := leaf_strb Try.underlying9 e12 b12
  obtain rfl : x12 = .string (strL dba) := (List.cons.inj (show [x12] = [.string (strL dba)] from k12)).1
  obtain ⟨m13, y13, e13, b13⟩ := field_atb Try.underlying38 gA hA 6 _ rfl 1 Dstring
  obtain ⟨pla, k13, w13⟩ := leaf_strb Try.underlying9 e13 b13
  obtain rfl : x13 = .string (strL pla) := (List.cons.inj (show [x13] = [.string (strL pla)] from k13)).1
  obtain ⟨m14, y14, e14, b14⟩ := field_atb Try.underlying38 gA hA 7 _ rfl 1 DSapiAttr
  obtain ⟨wa9, psa, k14, w14, q14⟩ := leaf_attrs e14 b14
  obtain rfl : x14 = wa9 := (List.cons.inj (show [x14] = [wa9] from k14)).1
  obtain ⟨m15, y15, e15, b15⟩ := field_atb Try.underlying28 gS hS 0 _ rfl 1 Dstring
  obtain ⟨pls, k15, w15⟩ := leaf_strb Try.underlying9 e15 b15
  obtain rfl : x15 = .string (strL pls) := (List.cons.inj (show [x15] = [.string (strL pls)] from k15)).1
  obtain ⟨m16, y16, e16, b16⟩ := field_atb Try.underlying28 gS hS 1 _ rfl 1 DSuint8
  obtain ⟨vs9, ns, k16, w16, q16⟩ := leaf_rdb bt Duint8 e16 b16
  obtain rfl : x16 = vs9 := (List.cons.inj (show [x16] = [vs9] from k16)).1
  obtain ⟨m17, y17, e17, b17⟩ := field_atb Try.underlying47 gU hU 0 _ rfl 1 Dstring
  obtain ⟨userc, k17, w17⟩ := leaf_strb Try.underlying9 e17 b17
  obtain rfl : x17 = .string (strL userc) := (List.cons.inj (show [x17] = [.string (strL userc)] from k17)).1
  obtain ⟨m18, y18, e18, b18⟩ := field_atb Try.underlying47 gU hU 1 _ rfl 1 DSuint8
  obtain ⟨vc9, respc, k18, w18, q18⟩ := leaf_rdb bt Duint8 e18 b18
  obtain rfl : x18 = vc9 := (List.cons.inj (show [x18] = [vc9] from k18)).1
  obtain ⟨m19, y19, e19, b19⟩ := field_atb Try.underlying47 gU hU 2 _ rfl 1 Dstring
  obtain ⟨dbc, k19, w19⟩ := leaf_strb Try.underlying9 e19 b19
  obtain rfl : x19 = .string (strL dbc) := (List.cons.inj (show [x19] = [.string (strL dbc)] from k19)).1
  obtain ⟨m20, y20, e20, b20⟩ := field_atb Try.underlying47 gU hU 3 _ rfl 1 Duint16
  obtain ⟨chc, k20, w20⟩ := leaf_int Try.underlying43 e20
  obtain rfl : x20 = .int .u16 chc := (List.cons.inj (show [x20] = [.int .u16 chc] from k20)).1
  obtain ⟨m21, y21, e21, b21⟩ := field_atb Try.underlying47 gU hU 4 _ rfl 1 Dstring
  obtain ⟨plc, k21, w21⟩ := leaf_strb Try.underlying9 e21 b21
  obtain rfl : x21 = .string (strL plc) := (List.cons.inj (show [x21] = [.string (strL plc)] from k21)).1
  obtain ⟨m22, y22, e22, b22⟩ := field_atb Try.underlying47 gU hU 5 _ rfl 1 DSapiAttr
  obtain ⟨wc9, psc, k22, w22, q22⟩ := leaf_attrs e22 b22
  obtain rfl : x22 = wc9 := (List.cons.inj (show [x22] = [wc9] from k22)).1
  obtain ⟨c, kc, wc9⟩ := leaf_int Try.underlying35 gC
  obtain rfl : x23 = .int .u32 c := (List.cons.inj (show [x23] = [.int .u32 c] from kc)).1
  exact ⟨_, _, _, _, _, _, _, _, _, _, _, _, _, _, _, _, _, _, _, _, _, _, _, _, _, _, _, _, _, _, rfl, w0, wf_u32 w1, ⟨w2, q2⟩, wf_u32 w3, wf_u8 w4, wf_u16 w5, w6, wf_u32 w7, wf_u32 w8, wf_u8 w9, w10, ⟨w11, q11⟩, w12, w13, ⟨w14, q14⟩, w15, ⟨w16, q16⟩, w17, ⟨w18, q18⟩, w19, wf_u16 w20, w21, ⟨w22, q22⟩, wf_u32 wc9⟩
end
end Go.Proofs.Ytaiakkifefedoaa
