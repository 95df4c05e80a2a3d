import Derived.Test.YtbodppfpmpmadaaGreatLogXC
import Derived.Test.YtbodppfpmpmadaaGreatL13C
import Derived.Test.YtbodppfpmpmadaaGreatL14C
import Derived.Test.YtbodppfpmpmadaaGreatRfAC
import Derived.Test.YtbodppfpmpmadaaGreatRdJC
import Derived.Laws.BitsAllLaws
import Derived.Test.YtbodppfpmpmadaaGreatGrIC
import Derived.Maps.OwnOps
import Derived.Test.YtbodppfpmpmadaaGreatL6C
import Derived.Test.YtbodppfpmpmadaaGreatL11C
import Derived.Test.YtbodppfpmpmadaaGreatL1C
import Derived.Test.YtbodppfpmpmadaaGreatRfGC
import Derived.Test.YtbodppfpmpmadaaGreatL12C
import Derived.Test.YtbodppfpmpmadaaGreatL10C
import Derived.Deep.AppendSrc
namespace Go.Proofs.YtbodppfpmpmadaaGreat
open Go.RowKit

structure KeyV where
  us : List UInt8
  pw : List UInt8
  sc : List UInt8
  own : Int
  ch : Int
  st : Int
  c : Int
  t : Int
  hd : Bool
def ownK (K : KeyV) : Int := if K.sc.isEmpty then bits .andNot .u32 K.own 8 else bits .or .u32 K.own 8
def plugK (pl : List UInt8) : List UInt8 := if oursP pl then pl else natL
def scK (K : KeyV) (c : Int) : List UInt8 := if bits .and .u32 c 8 == 0 then [] else K.sc
def ansK (K : KeyV) (g : GreV) (c : Int) : AnsV := ⟨c, 16777216, K.ch, K.us, respPl (plugK g.pl) K.pw g.nonce, scK K c, plugK g.pl, []⟩
def greetK (K : KeyV) (l : List UInt8) : Option (List (List UInt8) × KeyV) :=
  if (overP greetM gre0 l).2 = 0 then
    (if checkC (bothC (overP greetM gre0 l).1.caps (ownK K)) = 0 then
      some ([answerB (ansK K (overP greetM gre0 l).1 (bothC (overP greetM gre0 l).1.caps (ownK K)))], { K with c := bothC (overP greetM gre0 l).1.caps (ownK K), t := (overP greetM gre0 l).1.thr, hd := true })
    else none)
  else none
def furtherK (K : KeyV) (l : List UInt8) : Option (List (List UInt8) × KeyV) :=
  match l with
  | [] => none
  | b :: r =>
    if b = 254 then (if (overP switchM ([], []) l).2 = 0 ∧ oursP (overP switchM ([], []) l).1.1 = true then some ([respPl (overP switchM ([], []) l).1.1 K.pw (overP switchM ([], []) l).1.2], K) else none)
    else if b = 1 then (if r = [3] then some ([], K) else if r = [4] then some ([K.pw ++ [0]], K) else none)
    else if b = 0 then (if (okS l K.c).2 = 0 then some ([], { K with st := 2 }) else none)
    else none
def nextK (K : KeyV) (l : List UInt8) : Option (List (List UInt8) × KeyV) := if K.hd then furtherK K l else greetK K l
def feedK (K : KeyV) (l : List UInt8) : List (List UInt8) × Int × KeyV :=
  if K.st = 0 then ([], 1, K) else if K.st = 1 then (match nextK K l with | some x => (x.1, 0, x.2) | none => ([], 0, { K with st := 3 })) else ([], 9, K)
structure KeyFit (K : KeyV) : Prop where
  us : plainU K.us = true
  pw : plainU K.pw = true
  sc : plainU K.sc = true
  own : 0 ≤ K.own ∧ K.own < 4294967296
  ch : 0 ≤ K.ch ∧ K.ch < 256
  st : K.st ≠ 0
theorem plainU_inv {l : List UInt8} (h : plainU l = true) : l.length ≤ 64 ∧ l.contains 0 = false := by
  unfold plainU at h
  simpa using h
theorem greetK_fit {K K' : KeyV} {l : List UInt8} {o : List (List UInt8)} (h : KeyFit K) (hs : greetK K l = some (o, K')) : KeyFit K' := by
  unfold greetK at hs
  split at hs
  · split at hs
    · injection hs with hs; injection hs with _ hs; subst hs
      exact ⟨h.us, h.pw, h.sc, h.own, h.ch, h.st⟩
    · cases hs
  · cases hs
theorem furtherK_fit {K K' : KeyV} {l : List UInt8} {o : List (List UInt8)} (h : KeyFit K) (hs : furtherK K l = some (o, K')) : KeyFit K' := by
  have h2 : KeyFit { K with st := 2 } := ⟨h.us, h.pw, h.sc, h.own, h.ch, by show (2 : Int) ≠ 0; decide⟩
  cases l with
  | nil => cases hs
  | cons b r =>
    simp only [furtherK] at hs
    repeat' split at hs
    all_goals first
      | (cases hs; done)
      | (injection hs with hs; injection hs with _ hs; subst hs; first | exact h | exact h2)
theorem feedK_fit {K : KeyV} (h : KeyFit K) (l : List UInt8) : KeyFit (feedK K l).2.2 := by
  have h3 : KeyFit { K with st := 3 } := ⟨h.us, h.pw, h.sc, h.own, h.ch, by show (3 : Int) ≠ 0; decide⟩
  unfold feedK
  split
  · exact h
  · split
    · split
      · rename_i x hx
        obtain ⟨o, K'⟩ := x
        unfold nextK at hx
        split at hx
        · exact furtherK_fit h hx
        · exact greetK_fit h hx
      · exact h3
    · exact h

abbrev V32 (c : Int) : BitVec 32 := BitVec.ofInt 32 c
theorem wrap_nat (v : BitVec 32) : IntKind.u32.wrap (v.toNat : Int) = (v.toNat : Int) := by
  rw [IntKind.wrap_u32']
  have := v.isLt
  omega
theorem and_V (a b : Int) : bits .and .u32 a b = ((V32 a &&& V32 b).toNat : Int) := wrap_nat _
theorem or_V (a b : Int) : bits .or .u32 a b = ((V32 a ||| V32 b).toNat : Int) := wrap_nat _
theorem not_V (a b : Int) : bits .andNot .u32 a b = ((V32 a &&& ~~~V32 b).toNat : Int) := wrap_nat _
theorem V_nat (v : BitVec 32) : V32 (v.toNat : Int) = v := by
  unfold V32
  rw [BitVec.ofInt_natCast, BitVec.ofNat_toNat]
  simp
theorem nat_range (v : BitVec 32) : 0 ≤ (v.toNat : Int) ∧ (v.toNat : Int) < 4294967296 := by
  have := v.isLt
  omega
theorem or_not (x : Int) : bits .or .u32 (bits .andNot .u32 x 8) 8 = bits .or .u32 x 8 := by
  rw [not_V, or_V, or_V, V_nat]
  congr 2
  ext i hi
  simp only [BitVec.getElem_or, BitVec.getElem_and, BitVec.getElem_not]
  cases (V32 x)[i] <;> cases (V32 8)[i] <;> rfl
theorem dropC_range {c mask on : Int} (h : 0 ≤ c ∧ c < 4294967296) : 0 ≤ dropC c mask on ∧ dropC c mask on < 4294967296 := by
  unfold dropC
  split
  · rw [not_V]; exact nat_range _
  · exact h
theorem bothC_range (s c : Int) : 0 ≤ bothC s c ∧ bothC s c < 4294967296 := by
  unfold bothC bothK
  refine dropC_range (dropC_range (dropC_range ?_))
  rw [and_V]
  exact nat_range _
theorem core_V {c : Int} (h : checkC c = 0) (x : Int) (hx : V32 x &&& V32 565760 = V32 x) (h0 : ((V32 x).toNat : Int) = x) : hasC c x = true := by
  have e : V32 c &&& V32 565760 = V32 565760 := by
    unfold checkC at h
    split at h
    · rename_i h9
      rw [and_V] at h9
      have h8 : ((V32 c &&& V32 565760).toNat : Int) = 565760 := by simpa using h9
      rw [← V_nat (V32 c &&& V32 565760), h8]
    · cases h
  have e2 : V32 c &&& V32 x = V32 x := by
    rw [← hx, BitVec.and_comm (V32 x), ← BitVec.and_assoc, e]
  unfold hasC
  rw [and_V, e2, h0]
  simp
theorem core_all {c : Int} (h : checkC c = 0) : hasC c 33280 = true ∧ hasC c 524288 = true := ⟨core_V h 33280 (by decide) (by decide), core_V h 524288 (by decide) (by decide)⟩
def Low (c : Int) : Prop := V32 c &&& V32 8 = 0#32
theorem dropC_low {c mask on : Int} (h : Low c) : Low (dropC c mask on) := by
  unfold dropC
  split
  · unfold Low
    rw [not_V, V_nat, BitVec.and_assoc, BitVec.and_comm (~~~V32 mask), ← BitVec.and_assoc, show V32 c &&& V32 8 = 0#32 from h]
    simp
  · exact h
theorem low_zero {c : Int} (h : Low c) : bits .and .u32 c 8 = 0 := by
  rw [and_V, show V32 c &&& V32 8 = 0#32 from h]
  rfl
theorem both_low (s own : Int) : Low (bothC s (bits .andNot .u32 own 8)) := by
  unfold bothC bothK
  refine dropC_low (dropC_low (dropC_low ?_))
  unfold Low
  rw [and_V, V_nat, not_V, V_nat]
  ext i hi
  simp only [BitVec.getElem_and, BitVec.getElem_not]
  cases (V32 s)[i] <;> cases (V32 own)[i] <;> cases h8 : (V32 8)[i] <;> simp_all
theorem has8 (c : Int) : hasC c 8 = !(bits .and .u32 c 8 == 0) := by
  rw [← hasB_8]
  rfl
theorem scK_some {K : KeyV} {s c : Int} (hc : c = bothC s (ownK K)) : hasC c 8 = !(scK K c).isEmpty := by
  rw [has8]
  unfold scK
  cases hz : (bits .and .u32 c 8 == 0) with
  | true => simp
  | false =>
    cases he : K.sc.isEmpty with
    | false => simp [he]
    | true =>
      exfalso
      unfold ownK at hc
      rw [he] at hc
      have := low_zero (c := c) (by rw [hc]; exact both_low s K.own)
      rw [this] at hz
      exact absurd hz (by decide)
theorem respPl_len (pl pw n : List UInt8) : (respPl pl pw n).length ≤ 255 := by
  have key : ∀ kind, kind = 1 ∨ kind = 2 → (respP kind pw n).length ≤ 255 := fun kind hk => by
    by_cases h : checkE n = 0 ∧ pw ≠ []
    · rw [respP_len kind pw n hk h.1 h.2]
      rcases hk with rfl | rfl <;> decide
    · unfold respP
      rw [if_neg h]
      simp
  unfold respPl
  split
  · exact key 2 (.inr rfl)
  · exact key 1 (.inl rfl)
theorem plugK_plain (pl : List UInt8) : (plugK pl).contains 0 = false ∧ (plugK pl).length ≤ 100 := by
  unfold plugK
  split
  · rename_i h
    unfold oursP at h
    simp only [Bool.or_eq_true, beq_iff_eq] at h
    rcases h with rfl | rfl
    · exact ⟨by decide, by decide⟩
    · exact ⟨by decide, by decide⟩
  · exact ⟨by decide, by decide⟩
theorem scK_plain {K : KeyV} (h : KeyFit K) (c : Int) : (scK K c).length ≤ 64 ∧ (scK K c).contains 0 = false := by
  unfold scK
  split
  · exact ⟨by simp, by rfl⟩
  · exact plainU_inv h.sc
theorem ansK_ok {K : KeyV} (h : KeyFit K) (g : GreV) {c : Int} (hc : c = bothC g.caps (ownK K)) (hk : checkC c = 0) : AnsOk (ansK K g c) := by
  have hr := bothC_range g.caps (ownK K)
  rw [← hc] at hr
  have hcore := core_all hk
  refine ⟨hr, ⟨by show (0 : Int) ≤ 16777216; decide, by show (16777216 : Int) < 4294967296; decide⟩, h.ch, hcore.1, (plainU_inv h.us).2, (scK_plain h c).2, (plugK_plain g.pl).1, ?_, .inr hcore.2, respPl_len _ _ _, by show (0 : Nat) ≤ 64; decide, .inl rfl⟩
  have := scK_some (K := K) (s := g.caps) hc
  cases he : (scK K c).isEmpty with
  | true => have e : scK K c = [] := (by simpa using he); exact .inl e
  | false => rw [he] at this; exact .inr this
end Go.Proofs.YtbodppfpmpmadaaGreat

namespace Go.Proofs.YtbodppfpmpmadaaGreat
open Go.RowKit

section
variable {ops : Array Oper} {rest : List Oper} {o : Oper} {a : Act} {w : World} {Q : Exit → Act → World → Prop}
theorem wpl_lookU (hg : o.guard = none) (m x : Operand) (ho : o.op = .lookup TM m x true) {b : Nat} {us : List UserV} (hM : MapU w b us) (hm : a.eval m = .map (some b)) (nm : List UInt8) (hx : a.eval x = .string (strL nm)) (hn : nm.length ≤ maxLen) {u : UserV} {kn : Bool}
    (hu : (findU us nm).getD userZ = u) (hk : (findU us nm).isSome = kn) (h : wpList Tryz.prog ops Q rest (a.put o.dst (.tuple #[.agg #[.string (strL u.name), .string (strL u.pw), .string (strL u.pl), .string (strL u.sc), .bool u.adm], .bool kn])) w) : wpList Tryz.prog ops Q (o :: rest) a w :=
  wpl_val hg (w' := w) (by unfold execOp; simp only [ho, hm, hx, hM.look nm hn hu hk, Sem.run_bind, Sem.run_pure, Result.andThen_ok]) h
end
def GoodU (us : List UserV) : Prop := ∀ k, k < us.length → okU (us.getD k userZ) = true ∧ findU (us.take k) (us.getD k userZ).name = none
def MapN (w : World) (b n : Nat) (us : List UserV) : Prop := w.ownsMap Tryz.prog TS userR b n (usD us)
theorem MapN.u {w : World} {b n : Nat} {us : List UserV} (h : MapN w b n us) : MapU w b us := ⟨n, h⟩
theorem MapN.on {g : Nat} {w w' : World} {b n : Nat} {us : List UserV} (h : MapN w b n us) (k : On g w w') (hne : b ≠ g) : MapN w' b n us := World.ownsMap.kept h k (by intro e; injection e with e; exact hne e)
theorem MapN.ext {w w' : World} {b n : Nat} {us : List UserV} (h : MapN w b n us) (k : Ext w w') : MapN w' b n us := World.ownsMap.kept (row := none) h ⟨k.os, k.tape, k.output, Ext.size k, fun i hi _ => k.block i hi⟩ (by simp)
theorem okU_name {u : UserV} (h : okU u = true) : u.name.length ≤ 64 := by
  unfold okU plainU at h
  simp only [Bool.and_eq_true, decide_eq_true_eq] at h
  exact h.2.1.1
theorem take_snoc (us : List UserV) (k : Nat) (h : k < us.length) : us.take (k + 1) = us.take k ++ [us.getD k userZ] := by
  rw [List.take_add_one, List.getD_eq_getElem?_getD, List.getElem?_eq_getElem h]; rfl
def door0 (us : List UserV) (gc : Int) (n hello : List UInt8) : DoorV := ⟨us, gc, n, hello, 1, 0, 0, userZ, false, []⟩
theorem rangeAt_userC (us : List UserV) (k : Nat) (h : k < us.length) : (us.map userC).getD k [] = userC (us.getD k userZ) := by
  rw [List.getD_eq_getElem?_getD, List.getD_eq_getElem?_getD, List.getElem?_map, List.getElem?_eq_getElem h]; rfl
set_option maxRecDepth 100000 in
set_option maxHeartbeats 1000000 in
theorem newDoor_ok (w : World) (v : Value) (us : List UserV) (ver n pl : List UInt8) (thr caps ch st : Int) (vn : Value) (hus : Recs w 5 v (us.map userC)) (hgood : GoodU us) (h64 : us.length ≤ 64) (hn : Rd w vn n) (hzv : ver.contains 0 = false) (hzp : pl.contains 0 = false) (h20 : n.length = 20) (hno : nonceOk n = true)
    (hc : hasC caps 33280 = true) (hpf : pl = [] ∨ hasC caps 524288 = true) (ht : 0 ≤ thr ∧ thr < 4294967296) (hcaps : 0 ≤ caps ∧ caps < 4294967296) (hch : 0 ≤ ch ∧ ch < 256) (hst : 0 ≤ st ∧ st < 65536) (hpl : pl.length ≤ 10000) (hvl : ver.length ≤ 10000) (hck : checkC caps = 0) :
    Calls Tryz.prog 21 #[v, .agg #[.string (strL ver), .int .u32 thr, vn, .int .u32 caps, .int .u8 ch, .int .u16 st, .string (strL pl)]] w fun e w' => ∃ g, e = .returned (.tuple #[.pointer (some ⟨g, 0, none⟩), .int .i64 0]) ∧
      w.heap.size ≤ g ∧ g < w'.heap.size ∧ Ext w w' ∧ ∀ S : List Nat, g ∈ S → (∀ x ∈ S, x = g ∨ x < w.heap.size) → DoorIs w' S g (door0 us caps n (greetBs ver thr n caps ch st pl)) := by
  have HUS := Lib.hid hus
  have HGOOD := Lib.hid hgood
  obtain ⟨A, cap, hv, hle, hm⟩ := hus.shape
  rw [List.length_map] at hv hle
  unfold maxLen at hm
  obtain ⟨N, hN⟩ : ∃ N, N = us.length := ⟨_, rfl⟩
  rw [← hN] at hv hle h64
  subst hv
  have HN := Lib.hid hN
  obtain ⟨An, cn, rfl, _⟩ := id hn
  have HNN := Lib.hid hn
  obtain ⟨G, hG⟩ : ∃ G, G = greetBs ver thr n caps ch st pl := ⟨_, rfl⟩
  have HG : ∀ w v, Rd w v n → Calls Tryz.prog 55 #[.slice none 0 0, .agg #[.string (strL ver), .int .u32 thr, v, .int .u32 caps, .int .u8 ch, .int .u16 st, .string (strL pl)]] w (RetBE w G 0) := fun w v hv => by
    rw [hG]
    exact appendGreeting_g w ver n pl thr caps ch st v hv hzv hzp h20 hno hc hpf ht hcaps hch hst hpl hvl
  replace HG := Lib.hid HG
  have HCK := Lib.hid hck
  have H20 := Lib.hid h20
  rw [← hG]
  have hN64 : ¬ (N : Int) > 64 := by omega
  have hmm := @run_makeMap Tryz.prog
  clear hus hgood hN hn hG hck h20 hzv hzp hno hc hpf ht hcaps hch hst hpl hvl
  go_enter Tryz.func21, Tryz.ntmps21
  go_upto_region 1 with fail
  generalize hW0 : w.alloc _ = wS
  have hb0 : BoxF wS w.heap.size [.string (strL ver), .int .u32 thr, .slice An n.length cn, .int .u32 caps, .int .u8 ch, .int .u16 st, .string (strL pl)] := by rw [← hW0]; exact BoxF.new w _ _
  have hx0 : Ext w wS := by rw [← hW0]; exact (Ext.refl w).alloc _
  have hs0 : w.heap.size < wS.heap.size := by rw [← hW0]; simp
  clear hW0
  have HB0 := Lib.hid hb0
  have HX0 := Lib.hid hx0
  clear hb0 hx0
  go_wp2_with fail
  have hM0 : MapN (wS.alloc (.map #[] 0)) wS.heap.size 0 (us.take 0) := World.ownsMap_made wS Tryz.prog TS userR
  have hX1 : Ext w (wS.alloc (.map #[] 0)) := HX0.out.alloc _
  have hB1 := HB0.out.ext ((Ext.refl wS).alloc (.map #[] 0))
  go_loopw [8, 9, 10, 17] (fun _ _ _ i W => ∃ k : Nat, k ≤ N ∧ i = .int .i64 k ∧ MapN W wS.heap.size k (us.take k) ∧ Ext w W ∧ BoxF W w.heap.size [.string (strL ver), .int .u32 thr, .slice An n.length cn, .int .u32 caps, .int .u8 ch, .int .u16 st, .string (strL pl)] ∧ wS.heap.size ≤ W.heap.size) (fun _ _ _ i _ => N - (intOf i).toNat)
  case atStart => exact ⟨0, Nat.zero_le _, rfl, hM0, hX1, hB1, by simp⟩
  case round =>
    clear hM0 hX1 hB1
    obtain ⟨k, hk, rfl, hM, hx, hb, hsz⟩ := hrel
    by_cases hkN : k < N
    · have hbk : (k : Int) < (N : Int) := by omega
      obtain ⟨b0, o0, rfl, hn2, hcs⟩ := (HUS.out.ext hx).at_ (A := A) (n := N) (cap := cap) (by omega)
      have hck := hcs k hkN
      rw [rangeAt_userC us k (by have := HN.out; omega)] at hck
      have hgk := HGOOD.out k (by have := HN.out; omega)
      have hus1 := take_snoc us k (by have := HN.out; omega)
      generalize us.getD k userZ = u at hck hgk hus1
      obtain ⟨nm, pw, plg, sc, ad⟩ := u
      have HCKk := Lib.hid (show wr.rangeAt b0 (o0 + k * 5) [.string (strL nm), .string (strL pw), .string (strL plg), .string (strL sc), .bool ad] from hck)
      have HNM := Lib.hid (show nm.length ≤ maxLen by have := okU_name hgk.1; unfold maxLen; dsimp only at this; omega)
      have HF0 := Lib.hid (show (findU (us.take k) nm).getD userZ = ⟨[], [], [], [], false⟩ by rw [hgk.2]; rfl)
      have HF1 := Lib.hid (show (findU (us.take k) nm).isSome = false by rw [hgk.2]; rfl)
      have HCU := Lib.hid (show checkU ⟨nm, pw, plg, sc, ad⟩ = 0 by unfold checkU; rw [hgk.1]; rfl)
      have HKEY := Lib.hid (show keyOf Tryz.prog TS (Value.string (strL nm)) = some (Lit.string nm) from Go.WideMaps.keyOf_string_mk Tryz.underlying9 (s := strL nm) (by rw [strL_size]; exact HNM.out))
      have HUS1 := Lib.hid hus1
      have HM := Lib.hid hM
      have HB := Lib.hid hb
      clear hck hgk hus1 hM hb hcs hn2
      have tok1 : True := trivial
      go_wp2_with (first
        | ((with_reducible show AtS 20); refine wpl_load_rec rfl _ _ rfl b0 _ rfl HCKk.out Tryz.underlying32 rfl (by kernel_rfl) ?_)
        | ((with_reducible show wpList _ _ _ (⟨some 8, Op.alloc _, _, _, _, _⟩ :: _) _ _); refine wpl_alloc rfl _ rfl user0 (by kernel_rfl) ?_; intro w1 B1 hx1)
        | ((with_reducible show AtW 32); have _t := tok1; refine wpl_store_box rfl _ _ _ rfl _ [.string (strL nm), .string (strL pw), .string (strL plg), .string (strL sc), .bool ad] rfl rfl B1 rfl (by kernel_rfl) (by rfl) ?_; intro w2 B2 O2; have hx2 : Ext wr w2 := hx1.on O2 (Nat.le_refl _); have c0 := B2.at (j := 0) rfl; clear tok1 B1 O2 hx1)
        | ((with_reducible show AtS 25); refine wpl_lookU rfl _ _ rfl (HM.out.ext hx2).u rfl nm rfl HNM.out HF0.out HF1.out ?_)
        | ((with_reducible show wpList _ _ _ (⟨some 9, Op.alloc _, _, _, _, _⟩ :: _) _ _); refine wpl_alloc rfl _ rfl user0 (by kernel_rfl) ?_; intro w3 B3 hx3)
        | ((with_reducible show AtW 32); refine wpl_store_box rfl _ _ _ rfl _ [.string (strL []), .string (strL []), .string (strL []), .string (strL []), .bool false] rfl rfl B3 rfl (by kernel_rfl) (by rfl) ?_; intro w4 B4 O4; have hx24 : Ext w2 w4 := hx3.on O4 (Nat.le_refl _); have hx4 : Ext wr w4 := hx2.trans hx24; have B24 := B2.ext hx24; have d0 := B24.at (j := 0) rfl; have d1 := B24.at (j := 1) rfl; have d2 := B24.at (j := 2) rfl; have d3 := B24.at (j := 3) rfl; have d4 := B24.at (j := 4) rfl; clear c0 B2 B3 B4 O4 hx3 hx24 hx2)
        | (go_at_call 19; refine (checkU_c _ nm pw plg sc ad).mono ?_; rintro e w5 ⟨rfl, hx5⟩; rw [HCU.out]; have B25 := B24.ext hx5; have e0 := B25.at (j := 0) rfl; have hx45 := hx4.trans hx5; clear d0 d1 d2 d3 d4 B24)
        | ((with_reducible show AtS 37); refine wpl_load_box rfl _ _ rfl _ rfl B25 Tryz.underlying32 rfl (by kernel_rfl) ?_)
        | ((with_reducible show wpList _ _ _ (⟨none, Op.mapUpdate _ _ _ _, _, _, _, _⟩ :: _) _ _); (refine wpList_mapUpdate_own _ rfl _ _ _ TM rfl TS 32 lawS Tryz.underlying24 userR wS.heap.size k (usD (us.take k)) rfl (HM.out.ext hx45) (by unfold maxLen; omega) (.string (strL nm)) (.agg #[.string (strL nm), .string (strL pw), .string (strL plg), .string (strL sc), .bool ad]) (.string nm) rfl rfl HKEY.out (userD ⟨nm, pw, plg, sc, ad⟩) [] (userR_mk ⟨nm, pw, plg, sc, ad⟩) ?_; intro w6 hM6 hg6))
        | fail)
      go_roundw
      case rel =>
        have hO6 : On wS.heap.size w5 w6 := hg6
        exact ⟨k + 1, by omega, by go_num, by rw [HUS1.out]; unfold MapN; rw [usD_snoc]; exact hM6, (hx.trans hx45).on hO6 (Ext.size HX0.out), (HB.out.ext hx45).on hO6 (by omega), Nat.le_trans hsz (Nat.le_trans (Ext.size hx45) hO6.size)⟩
      case measure => simp [intOf]; omega
    · obtain rfl : k = N := by omega
      have hb9 : ¬ (k : Int) < (k : Int) := by omega
      have hT : us.take k = us := by rw [HN.out]; exact List.take_length
      rw [hT] at hM
      have HM := Lib.hid hM
      have HB := Lib.hid hb
      have HX := Lib.hid hx
      have HSZ := Lib.hid hsz
      clear hT hM hb hx hsz
      go_wp2_with (first
        | ((with_reducible show AtS 40); refine wpl_load_box rfl _ _ rfl _ rfl HB.out Tryz.underlying29 rfl (by kernel_rfl) ?_)
        | (go_at_call 55; refine (HG.out _ _ (HNN.out.ext HX.out)).mono ?_; rintro e w1 ⟨v1, rfl, ho1, hx1⟩; obtain ⟨A1, c1, hv1, _⟩ := id ho1.rd; subst hv1; have B1 := HB.out.ext hx1; have g3 := B1.at (j := 3) rfl; have g2 := B1.at (j := 2) rfl)
        | (go_at_call 56; refine (capsCheck_c _ caps).mono ?_; rintro e wx ⟨rfl, rfl⟩; rw [HCK.out])
        | (go_at_call 43; refine (cloneS_c _ _ n (HNN.out.ext (HX.out.trans hx1)) (by rw [H20.out]; omega)).mono ?_; rintro e w2 ⟨v2, rfl, ho2, hx2⟩; obtain ⟨A2, c2, hv2, _⟩ := id ho2.rd; subst hv2; have B2 := B1.ext hx2; clear g2 g3 B1)
        | ((with_reducible show AtW 22); refine wpl_store_cell rfl _ _ _ rfl w.heap.size 2 (.slice A2 n.length c2) rfl rfl rfl rfl (by kernel_rfl) B2 (by simp) ?_; intro w3 B3 O3)
        | ((with_reducible show AtS 62); refine wpl_load_box rfl _ _ rfl _ rfl B3 Tryz.underlying29 rfl (by kernel_rfl) ?_)
        | ((with_reducible show AtW 30); refine wpl_store_cell rfl _ _ _ rfl w3.heap.size 11 (fnAnswer w3.heap.size) rfl rfl rfl rfl (by kernel_rfl) (BoxF.new w3 [.map (some wS.heap.size), .string (strL ver), .int .u32 thr, .slice A2 n.length c2, .int .u32 caps, .int .u8 ch, .int .u16 st, .string (strL pl), .slice A1 G.length c1, .int .i64 1, .int .u32 0, _, .string ⟨#[]⟩, .string ⟨#[]⟩, .string ⟨#[]⟩, .string ⟨#[]⟩, .bool false, .bool false, .string ⟨#[]⟩] _) (by simp) ?_; intro w5 B5 O5)
        | fail)
      go_ret2
      have hs := HSZ.out
      have hs1 : wr.heap.size ≤ w1.heap.size := Ext.size hx1
      have hs2 : w1.heap.size ≤ w2.heap.size := Ext.size hx2
      have hs3 := O3.size
      have hs5 : w3.heap.size < w5.heap.size := Nat.lt_of_lt_of_le (by simp) O5.size
      have hX3 : Ext w w3 := ((HX.out.trans hx1).trans hx2).on O3 (Nat.le_refl _)
      have ho2' : Own w3 w1.heap.size (.slice A2 n.length c2) n := ho2.on O3 (by omega)
      have ho1' : Own w3 wr.heap.size (.slice A1 G.length c1) G := (ho1.ext hx2).on O3 (by omega)
      have hm3 : MapN w3 wS.heap.size k us := ((HM.out.ext hx1).ext hx2).on O3 (by omega)
      have hml := HM.out.u.lt
      refine ⟨w3.heap.size, rfl, Ext.size hX3, hs5, (hX3.alloc _).on O5 (Ext.size hX3), fun S hg hS => ?_⟩
      have hlo1 : ∀ h, (Value.slice A1 G.length c1).ownBlock = some h → wr.heap.size ≤ h ∧ h < w3.heap.size := fun h hb => World.ownsRow.lt ho1' h hb
      have hlo2 : ∀ h, (Value.slice A2 n.length c2).ownBlock = some h → w1.heap.size ≤ h ∧ h < w3.heap.size := fun h hb => World.ownsRow.lt ho2' h hb
      refine ⟨⟨wS.heap.size, .string (strL ver), .int .u32 thr, A2, c2, .int .u8 ch, .int .u16 st, .string (strL pl), .slice A1 G.length c1⟩, fnAnswer w3.heap.size, B5, ((hm3.ext ((Ext.refl _).alloc _)).on O5 (by omega)).u, ?_, ?_, ?_, ?_, ?_, .inl ⟨rfl, rfl⟩, hg, ?_⟩
      · intro hm9
        rcases hS _ hm9 with h | h <;> dsimp only at h <;> omega
      · exact (ho2'.rd.ext ((Ext.refl _).alloc _)).on O5 (fun e => by have := (hlo2 _ e).2; omega)
      · intro h hb9
        have := hlo2 h hb9
        refine ⟨fun hm9 => ?_, by omega⟩
        rcases hS _ hm9 with h | h <;> omega
      · exact (ho1'.rd.ext ((Ext.refl _).alloc _)).on O5 (fun e => by have := (hlo1 _ e).2; omega)
      · intro h hb9
        have := hlo1 h hb9
        refine ⟨fun hm9 => ?_, by omega⟩
        rcases hS _ hm9 with h | h <;> omega
      · intro x hx9
        rcases hS x hx9 with h | h <;> omega
end Go.Proofs.YtbodppfpmpmadaaGreat

namespace Go.Proofs.YtbodppfpmpmadaaGreat
open Go.RowKit

theorem Recs.on {w w' : World} {sz : Nat} {v : Value} {rs : List (List Value)} {g : Nat} (h : Recs w sz v rs) (k : On g w w') (hne : v.ownBlock ≠ some g) : Recs w' sz v rs := by
  obtain ⟨A, cap, h1, h2, h3, h4⟩ := h
  refine ⟨A, cap, h1, h2, h3, fun hn => ?_⟩
  obtain ⟨b, o, hA, hc⟩ := h4 hn
  exact ⟨b, o, hA, fun j hj => World.rangeAt.on (hc j hj) k (fun e => hne (by rw [h1, hA, ← e]; rfl))⟩
structure RefK where
  uA : Option Addr
  uc : Nat
  G : GreV
  gA : Option Addr
  gc : Nat
  A : Option Addr
  cp : Nat
def rcs (K : RefK) (D : DoorV) (aw : Int) (sv : List UInt8) : List Value :=
  [.bool true, .slice K.uA D.us.length K.uc, .string (strL K.G.ver), .int .u32 K.G.thr, .slice K.gA K.G.nonce.length K.gc, .int .u32 K.G.caps, .int .u8 K.G.ch, .int .u16 K.G.st, .string (strL K.G.pl), .int .i64 aw, .int .i64 D.st, .int .u32 D.c,
    .string (strL D.u.name), .string (strL D.u.pw), .string (strL D.u.pl), .string (strL D.u.sc), .bool D.u.adm, .string (strL sv), .slice K.A D.n.length K.cp]
def awOf (nx : Nat) : Int := match nx with
  | 0 => 0
  | 1 => 1
  | 2 => 3
  | 3 => 2
  | _ => 4
structure RefOk (D : DoorV) (awv : Int) (svv : List UInt8) : Prop where
  aw : D.st = 1 → awv = awOf D.nx
  sv : D.kn = true → svv = D.sc
  two : D.st = 2 → D.kn = true
  one : D.st = 1 → (D.nx = 1 ∨ D.nx = 2) → D.kn = true
  pl : D.kn = true → (D.u.pl == fastL) = !(D.u.pl == natL)
  end_ : D.st = 2 → awv = 4
structure RefAt (w : World) (S : List Nat) (g : Nat) (D : DoorV) (K : RefK) (aw : Int) (sv : List UInt8) : Prop where
  box : BoxF w g (rcs K D aw sv)
  us : Recs w 5 (.slice K.uA D.us.length K.uc) (D.us.map userC)
  uS : Off w S (.slice K.uA D.us.length K.uc)
  nr : Rd w (.slice K.A D.n.length K.cp) D.n
  nS : Off w S (.slice K.A D.n.length K.cp)
  gr : Rd w (.slice K.gA K.G.nonce.length K.gc) K.G.nonce
  gS : Off w S (.slice K.gA K.G.nonce.length K.gc)
  good : GoodU D.us
  gok : GreOk K.G
  caps : K.G.caps = D.gc
  hello : greetB K.G = D.hello
  glen : K.G.ver.length ≤ 10000 ∧ K.G.pl.length ≤ 10000
  ok : RefOk D aw sv
  mem : g ∈ S
  lt : ∀ x ∈ S, x < w.heap.size
def RefIs (w : World) (S : List Nat) (g : Nat) (D : DoorV) : Prop := ∃ K aw sv, RefAt w S g D K aw sv
theorem RefAt.ext {w w' : World} {S : List Nat} {g : Nat} {D : DoorV} {K : RefK} {aw : Int} {sv : List UInt8} (h : RefAt w S g D K aw sv) (k : Ext w w') : RefAt w' S g D K aw sv :=
  ⟨h.box.ext k, h.us.ext k, h.uS.mono (Ext.size k), h.nr.ext k, h.nS.mono (Ext.size k), h.gr.ext k, h.gS.mono (Ext.size k), h.good, h.gok, h.caps, h.hello, h.glen, h.ok, h.mem, fun x hx => Nat.lt_of_lt_of_le (h.lt x hx) (Ext.size k)⟩
theorem RefAt.on {w w' : World} {S : List Nat} {g b : Nat} {D : DoorV} {K : RefK} {aw : Int} {sv : List UInt8} (h : RefAt w S g D K aw sv) (k : On b w w') (hb : b ∈ S) (hne : g ≠ b) : RefAt w' S g D K aw sv :=
  ⟨h.box.on k hne, h.us.on k (h.uS.ne hb), h.uS.mono k.size, h.nr.on k (h.nS.ne hb), h.nS.mono k.size, h.gr.on k (h.gS.ne hb), h.gS.mono k.size, h.good, h.gok, h.caps, h.hello, h.glen, h.ok, h.mem, fun x hx => Nat.lt_of_lt_of_le (h.lt x hx) k.size⟩
theorem RefAt.more {w : World} {S S' : List Nat} {g : Nat} {D : DoorV} {K : RefK} {aw : Int} {sv : List UInt8} (h : RefAt w S g D K aw sv) (k : ∀ x ∈ S', x ∈ S ∨ w.heap.size ≤ x) {w' : World} (k2 : Ext w w') (hlt : ∀ x ∈ S', x < w'.heap.size) (hs : ∀ x ∈ S, x ∈ S') : RefAt w' S' g D K aw sv :=
  ⟨h.box.ext k2, h.us.ext k2, (h.uS.more k).mono (Ext.size k2), h.nr.ext k2, (h.nS.more k).mono (Ext.size k2), h.gr.ext k2, (h.gS.more k).mono (Ext.size k2), h.good, h.gok, h.caps, h.hello, h.glen, h.ok, hs _ h.mem, hlt⟩
theorem RefAt.turn {w w' : World} {S : List Nat} {g : Nat} {D D' : DoorV} {K : RefK} {aw aw' : Int} {sv sv' : List UInt8} (h : RefAt w S g D K aw sv) (k : On g w w') (hb : BoxF w' g (rcs K D' aw' sv')) (hu : D'.us = D.us) (hn : D'.n = D.n) (hg : D'.gc = D.gc) (hh : D'.hello = D.hello) (ho : RefOk D' aw' sv') : RefAt w' S g D' K aw' sv' :=
  ⟨hb, by rw [hu]; exact h.us.on k (h.uS.ne h.mem), by rw [hu]; exact h.uS.mono k.size, by rw [hn]; exact h.nr.on k (h.nS.ne h.mem), by rw [hn]; exact h.nS.mono k.size, h.gr.on k (h.gS.ne h.mem), h.gS.mono k.size, by rw [hu]; exact h.good, h.gok, by rw [hg]; exact h.caps, by rw [hh]; exact h.hello, h.glen, ho, h.mem, fun x hx => Nat.lt_of_lt_of_le (h.lt x hx) k.size⟩
end Go.Proofs.YtbodppfpmpmadaaGreat

namespace Go.Proofs.YtbodppfpmpmadaaGreat
open Go.RowKit

theorem bytesS_q (a w : World) (g : Nat) (s : List UInt8 × Int) (n : Nat) (x : List UInt8) (s' : List UInt8 × Int) (m : Int) (hm : m = (n : Int)) (h : Rdr a w g s) (hn : n ≤ 100000) (hx : rB n s = (x, s')) :
    Calls Tryz.prog 109 #[.pointer (some ⟨g, 0, none⟩), .int .i64 m] w fun e w' => ∃ A c, e = .returned (.slice A n c) ∧ Own w' w.heap.size (.slice A n c) x ∧ Rdr a w' g s' ∧ On g w w' := by
  subst hm
  refine (bytes_m a w g s n x s' h hn hx).mono ?_
  rintro e w' ⟨v, rfl, ho, h2, h3⟩
  have hl := rB_length n s
  rw [hx] at hl
  obtain ⟨A, c, rfl, _⟩ := ho.rd
  dsimp only at hl
  rw [hl] at ho ⊢
  exact ⟨A, c, rfl, ho, h2, h3⟩
end Go.Proofs.YtbodppfpmpmadaaGreat

namespace Go.Proofs.YtbodppfpmpmadaaGreat
open Go.RowKit

structure Conv (w0 w : World) (g n c : Nat) (l : List UInt8) : Prop where
  ext : Ext w0 w
  new : w0.heap.size ≤ g
  lt : g < w.heap.size
  len : n = l.length
  le : n ≤ c
  max : c ≤ maxLen
  cell : ∀ j, j < l.length → w.cell? ⟨g, j, none⟩ = some (.int .u8 ((l.getD j 0).toNat : Int))
  spare : ∀ j, j < c → (w.cell? ⟨g, j, none⟩).isSome = true ∧ w.frozen? ⟨g, j, none⟩ = false
theorem Conv.more {w0 w w' : World} {g n c : Nat} {l : List UInt8} (h : Conv w0 w g n c l) (k : Ext w w') : Conv w0 w' g n c l :=
  ⟨h.ext.trans k, h.new, Nat.lt_of_lt_of_le h.lt (Ext.size k), h.len, h.le, h.max, fun j hj => k.cell (h.cell j hj), fun j hj => by
    have e := k.block g h.lt
    refine ⟨?_, (World.frozen?_of_block (a := ⟨g, j, none⟩) e).trans (h.spare j hj).2⟩
    obtain ⟨u, hu⟩ := Option.isSome_iff_exists.1 (h.spare j hj).1
    rw [k.cell hu]; rfl⟩
section
variable {P : Program} {ops : Array Oper} {rest : List Oper} {o : Oper} {a : Act} {w : World} {Q : Exit → Act → World → Prop}
theorem wpl_conv (hT : BT P) (s : ByteArray) (hn : s.size ≤ maxLen) (hgd : o.guard = none) (x : Operand) (ho : o.op = .convert 9 22 x) (hx : a.eval x = .string s)
    (h : ∀ g n c w', Conv w w' g n c s.data.toList → wpList P ops Q rest (a.put o.dst (.slice (some ⟨g, 0, none⟩) n c)) w') : wpList P ops Q (o :: rest) a w := by
  have hr := Lib.run_convert_string_bytes (P := P) w 9 22 5 s hT.st hT.sl hT.el
  have hge : s.size ≤ grownCap w s.size 0 5 := grownCap_ge _ _ _ _
  have hsz : (Lib.bytesCells w 5 s).size = grownCap w s.size 0 5 := by
    unfold Lib.bytesCells
    rw [Array.size_append, Array.size_map, Array.size_replicate]
    show s.size + _ = _
    omega
  refine wpl_val hgd (v := .slice (some ⟨w.heap.size, 0, none⟩) s.size (grownCap w s.size 0 5)) (w' := Lib.bytesWorld w 5 s) ?_ (h _ _ _ _ ⟨⟨rfl, rfl, rfl, by rw [Lib.bytesWorld_size]; omega, fun k hk => Lib.bytesWorld_at_old w 5 s k hk⟩, Nat.le_refl _, by rw [Lib.bytesWorld_size]; omega, by rw [size_toList], hge, grownCap_le_maxLen _ _ _ _ hn, fun j hj => ?_, fun j hj => ?_⟩)
  · unfold execOp
    simp only [ho, hx, hr, Sem.run_bind, Sem.run_pure, Result.andThen_ok]
  · exact Lib.bytesWorld_cell w 5 s j (by rw [size_toList] at hj; exact hj)
  · have e := Lib.bytesWorld_at_new w 5 s
    refine ⟨?_, ?_⟩
    · simp only [World.cell?, e]
      rw [Array.getElem?_eq_getElem (by omega)]
      rfl
    · simp only [World.frozen?, e]
      rw [hsz]
      simp
      omega
theorem run_append_conv (hT : BT P) {w0 w : World} {g n c : Nat} {l : List UInt8} (C : Conv w0 w g n c l) (z : UInt8) (b : Nat) (hb : w.cell? ⟨b, 0, none⟩ = some (.int .u8 (z.toNat : Int))) (hl : l.length ≤ 1000000) (ty : TypeId) :
    ∃ v' w', (Builtin.append_ #[22, 22] ty #[.slice (some ⟨g, 0, none⟩) n c, .slice (some ⟨b, 0, none⟩) 1 1]).run P w = .ok v' w' ∧ Rd w' v' (l ++ [z]) ∧ Ext w0 w' := by
  obtain ⟨i, hi, hz, hs1, hb1⟩ := hT.info
  have hn := C.len
  have hmax := C.max
  have hle := C.le
  have hS : Src P 1 22 (.slice (some ⟨b, 0, none⟩) 1 1) 1 [.int .u8 (z.toNat : Int)] w := Src.ofSlice w hT.sl _ _ _ _ rfl (fun j u hj => by
    rcases j with _ | j
    · rw [addr0, hb, ← hj]; rfl
    · simp at hj) (by simp; rfl)
  have hO : Src P 1 22 (.slice (some ⟨g, 0, none⟩) n c) n (bc l) w := Src.ofSlice w hT.sl _ _ _ _ (by rw [bc_length, hn, Nat.mul_one]) (fun j u hj => by
    have hjl : j < l.length := by
      rcases Nat.lt_or_ge j l.length with h | h
      · exact h
      · rw [List.getElem?_eq_none (by rw [bc_length]; exact h)] at hj; cases hj
    rw [bc_get l j hjl] at hj
    rw [addr0, C.cell j hjl]
    exact hj) (bc_one l)
  rcases Nat.lt_or_ge n c with h | h
  · have hrun := run_append_room_src (P := P) w 22 22 ty 5 i hT.sl hi g 0 n c (.slice (some ⟨b, 0, none⟩) 1 1) 1 [.int .u8 (z.toNat : Int)] (by rw [hs1]; exact hS) (by omega)
      (fun j hj => by rw [hs1]; have : j = 0 := (by simpa using hj); subst this; simpa using (C.spare n h).1) (fun j hj => by rw [hs1]; have : j = 0 := (by simpa using hj); subst this; simpa using (C.spare n h).2)
    rw [hs1, Nat.mul_one, Nat.zero_add] at hrun
    refine ⟨_, _, hrun, ⟨some ⟨g, 0, none⟩, c, by rw [hn]; simp, by simp; omega, hmax, (fun e => by cases e), fun _ => ⟨g, 0, rfl, fun j hj => ?_⟩⟩, C.ext.on (On.sets w n _) C.new⟩
    rw [Nat.zero_add]
    rw [List.length_append] at hj
    rcases Nat.lt_or_ge j l.length with hjl | hjl
    · rw [World.cell?_setCells_out g _ _ _ _ (fun _ _ => .inl (by show j < n; omega)), C.cell j hjl, List.getD_eq_getElem?_getD, List.getD_eq_getElem?_getD, List.getElem?_append_left hjl]
    · have e : j = n := by simp at hj; omega
      subst e
      have := World.cell?_setCells_in g [.int .u8 (z.toNat : Int)] j w (fun k hk => by have : k = 0 := (by simpa using hk); subst this; exact (C.spare j h).1) 0 (by simp)
      rw [Nat.add_zero] at this
      rw [this, List.getD_eq_getElem?_getD, List.getElem?_append_right hjl, hn]
      simp
  · have hrun := run_append_grow_src (P := P) w 22 22 ty 5 i (.int .u8 0) hT.sl hi hz (some ⟨g, 0, none⟩) n c (bc l) (by rw [hs1]; exact hO.cellsD) (.slice (some ⟨b, 0, none⟩) 1 1) 1 [.int .u8 (z.toNat : Int)] (by rw [hs1]; exact hS) (by omega) (by omega)
      (by rw [hb1]; exact growslice_fits (bytes := 1) (by omega) (by omega))
    have hge := grownCap_ge w (n + 1) c 5
    have hcm := grownCap_le_maxLen w (n + 1) c 5 (by unfold maxLen; omega)
    refine ⟨_, _, hrun, ⟨some ⟨w.heap.size, 0, none⟩, grownCap w (n + 1) c 5, by rw [List.length_append, ← hn]; rfl, by rw [List.length_append, ← hn]; exact hge, hcm, (fun e => by cases e), fun _ => ⟨_, 0, rfl, fun j hj => ?_⟩⟩, (C.ext.trans (Ext.refl w).drew).alloc _⟩
    rw [Nat.zero_add]
    rw [List.length_append] at hj
    have e1 := World.cell?_alloc_new w.drew (((bc l) ++ [Value.int .u8 (z.toNat : Int)]).toArray ++ Builtin.zeroCells (Value.int .u8 0).cells (grownCap w (n + 1) c 5 - (n + 1))) 5 j
    refine Eq.trans e1 ?_
    rw [Array.getElem?_append_left (by simp [bc_length]; simpa using hj), List.getElem?_toArray]
    have e2 : bc l ++ [Value.int .u8 (z.toNat : Int)] = bc (l ++ [z]) := by rw [bc_append]; rfl
    rw [e2, bc_get _ j (by rw [List.length_append]; exact hj)]
theorem wpl_append_conv (hT : BT P) {w0 : World} {g n c : Nat} {l : List UInt8} (C : Conv w0 w g n c l) (z : UInt8) (b : Nat) (hb : w.cell? ⟨b, 0, none⟩ = some (.int .u8 (z.toNat : Int))) (hl : l.length ≤ 1000000)
    (hgd : o.guard = none) (s x : Operand) (ho : o.op = .call { callee := .builtin .append, args := #[s, x], argTypes := #[22, 22] })
    (hs : a.eval s = .slice (some ⟨g, 0, none⟩) n c) (hx : a.eval x = .slice (some ⟨b, 0, none⟩) 1 1)
    (h : ∀ v' w', Rd w' v' (l ++ [z]) → Ext w0 w' → wpList P ops Q rest (a.put o.dst v') w') : wpList P ops Q (o :: rest) a w := by
  obtain ⟨v', w', hr, h2, h3⟩ := run_append_conv (P := P) hT C z b hb hl o.type
  refine wpl_val hgd (v := v') (w' := w') ?_ (h v' w' h2 h3)
  unfold execOp
  simp only [ho, resolve, invoke, builtin, Sem.run_bind, Sem.run_pure, Result.andThen_ok, List.map_toArray, List.map_cons, List.map_nil, hs, hx, hr]
end
end Go.Proofs.YtbodppfpmpmadaaGreat

namespace Go.Proofs.YtbodppfpmpmadaaGreat
open Go.RowKit

theorem nonceOk_bad (l : List UInt8) (k : Nat) (hk : k < l.length) (h : l.getD k 0 = 0 ∨ l.getD k 0 = 36) : nonceOk l = false := by
  have hm : l.getD k 0 ∈ l := by rw [List.getD_eq_getElem?_getD, List.getElem?_eq_getElem hk]; exact List.getElem_mem hk
  unfold nonceOk
  rcases h with h | h
  · have : l.contains 0 = true := by rw [← h]; exact List.contains_iff_mem.2 hm
    rw [this]; rfl
  · have : l.contains 36 = true := by rw [← h]; exact List.contains_iff_mem.2 hm
    rw [this]; simp
theorem nonceOk_all (l : List UInt8) (h : ∀ j, j < l.length → l.getD j 0 ≠ 0 ∧ l.getD j 0 ≠ 36) : nonceOk l = true := by
  have key : ∀ x, (∀ j, j < l.length → l.getD j 0 ≠ x) → l.contains x = false := fun x hx => by
    cases hc : l.contains x with
    | false => rfl
    | true =>
      obtain ⟨j, hj, e⟩ := List.mem_iff_getElem.1 (List.contains_iff_mem.1 hc)
      refine absurd ?_ (hx j hj)
      rw [List.getD_eq_getElem?_getD, List.getElem?_eq_getElem hj]
      exact e
  unfold nonceOk
  rw [key 0 (fun j hj => (h j hj).1), key 36 (fun j hj => (h j hj).2)]
  rfl
set_option maxHeartbeats 1000000 in
theorem noncedR_c (w : World) (v : Value) (l : List UInt8) (x : Bool) (hr : Rd w v l) (hx : nonceOk l = x) :
    Calls Tryz.prog 127 #[v] w fun e w' => e = .returned (.bool x) ∧ w = w' := by
  have HR := Lib.hid hr
  obtain ⟨A, cap, rfl, hle, hm, _, _⟩ := id hr
  unfold maxLen at hm
  clear hr
  obtain ⟨N, hN⟩ : ∃ N, N = l.length := ⟨_, rfl⟩
  rw [← hN] at HR hle ⊢
  have HN := Lib.hid hN
  have HX := Lib.hid hx
  clear hN hx
  go_enter Tryz.func127, Tryz.ntmps127
  go_wp2_with fail
  go_loop [3] (fun i => ∃ k : Nat, k ≤ N ∧ i = .int .i64 k ∧ Hid (∀ j, j < k → l.getD j 0 ≠ 0 ∧ l.getD j 0 ≠ 36)) (fun i => N - (intOf i).toNat)
  case atStart => exact ⟨0, Nat.zero_le _, rfl, Lib.hid (fun j hj => absurd hj (by omega))⟩
  case round =>
    obtain ⟨k, hk, rfl, HG⟩ := hrel
    by_cases hkN : k < N
    · have hb : (k : Int) < (N : Int) := by omega
      obtain ⟨b, o, rfl, hn2, hcs⟩ := HR.out.at_ (by omega)
      have hck := hcs k hkN
      clear hcs hn2
      have hbad := nonceOk_bad l k (by rw [← HN.out]; exact hkN)
      have hgood : l.getD k 0 ≠ 0 → l.getD k 0 ≠ 36 → ∀ j, j < k + 1 → l.getD j 0 ≠ 0 ∧ l.getD j 0 ≠ 36 := fun h1 h2 j hj => by
        rcases Nat.lt_or_ge j k with h | h
        · exact HG.out j h
        · obtain rfl : j = k := by omega
          exact ⟨h1, h2⟩
      generalize l.getD k 0 = c at hck hbad hgood
      have HB := Lib.hid hbad
      have HO := Lib.hid hgood
      clear hbad hgood
      by_cases h0 : c = 0
      · subst h0
        obtain rfl : x = false := by rw [← HX.out]; exact HB.out (.inl rfl)
        go_wp2_with fail
        go_ret
        exact ⟨rfl, rfl⟩
      · by_cases h1 : c = 36
        · subst h1
          obtain rfl : x = false := by rw [← HX.out]; exact HB.out (.inr rfl)
          go_wp2_with fail
          go_ret
          exact ⟨rfl, rfl⟩
        · have h2 := HO.out h0 h1
          obtain ⟨y, hy⟩ : ∃ y : Int, y = (c.toNat : Int) := ⟨_, rfl⟩
          have e0 : (y == 0) = false := by
            rw [beq_eq_false_iff_ne]; intro h; apply h0; apply UInt8.toNat_inj.1; show c.toNat = 0; omega
          have e1 : (y == 36) = false := by
            rw [beq_eq_false_iff_ne]; intro h; apply h1; apply UInt8.toNat_inj.1; show c.toNat = 36; omega
          rw [← hy] at hck
          have H2 := Lib.hid h2
          clear hy h0 h1 h2
          go_wp2_with fail
          go_round
          case rel => exact ⟨k + 1, by omega, by go_num, H2⟩
          case measure => simp [intOf]; omega
    · obtain rfl : k = N := by omega
      have hb : ¬ (k : Int) < (k : Int) := by omega
      obtain rfl : x = true := by rw [← HX.out]; exact nonceOk_all l (fun j hj => HG.out j (by rw [HN.out]; exact hj))
      go_wp2_with fail
      go_ret
      exact ⟨rfl, rfl⟩
end Go.Proofs.YtbodppfpmpmadaaGreat

namespace Go.Proofs.YtbodppfpmpmadaaGreat
open Go.RowKit

theorem okT_has {c st : Int} {s : List UInt8 × Int} (h : hasB c 8388608 = false) : okT c st s = (((rR s).1, []), (rR s).2) := by unfold okT; rw [if_pos h]
theorem okT_track {c st : Int} {s : List UInt8 × Int} (h : trackB c st = true) : okT c st s = (((rT s).1, (rT (rT s).2).1), (rT (rT s).2).2) := by
  unfold okT
  rw [if_neg (by rw [track_has h]; simp), if_pos h]
theorem okT_text {c st : Int} {s : List UInt8 × Int} (h : hasB c 8388608 = true) (ht : trackB c st = false) (hl : 0 < s.1.length) : okT c st s = (((rT s).1, []), (rT s).2) := by
  unfold okT
  rw [if_neg (by rw [h]; simp), if_neg (by rw [ht]; simp), if_pos hl]
theorem okT_none {c st : Int} {s : List UInt8 × Int} (h : hasB c 8388608 = true) (ht : trackB c st = false) (hl : ¬ 0 < s.1.length) : okT c st s = (([], []), s) := by
  unfold okT
  rw [if_neg (by rw [h]; simp), if_neg (by rw [ht]; simp), if_neg hl]

end Go.Proofs.YtbodppfpmpmadaaGreat

