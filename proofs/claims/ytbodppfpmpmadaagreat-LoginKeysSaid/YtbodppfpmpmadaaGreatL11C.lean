import Derived.Test.YtbodppfpmpmadaaGreatL10C
import Derived.Maps.OwnSet
import Derived.Carry
import Derived.Test.YtbodppfpmpmadaaGreatL7C
import Derived.Test.YtbodppfpmpmadaaGreatL2C
import Derived.Test.YtbodppfpmpmadaaGreatL1C
import Derived.Test.YtbodppfpmpmadaaGreatL3C
import Derived.Deep.Slices
namespace Go.Proofs.YtbodppfpmpmadaaGreat
open Go.RowKit
open Go.Maps (Keyed)

structure DoorV where
  us : List UserV
  gc : Int
  n : List UInt8
  hello : List UInt8
  st : Int
  c : Int
  nx : Nat
  u : UserV
  kn : Bool
  sc : List UInt8
def userZ : UserV := ⟨[], [], [], [], false⟩
def findU (us : List UserV) (nm : List UInt8) : Option UserV := us.foldl (fun a u => if u.name == nm then some u else a) none
def lookP (D : DoorV) (l : List UInt8) : List (List UInt8) × DoorV :=
  if l == respPl D.u.pl D.u.pw D.n then
    (if D.u.pl == natL then ([okL D.c], { D with st := 2 }) else if l.isEmpty then ([okL D.c], { D with st := 2 }) else ([[1, 3], okL D.c], { D with st := 2 }))
  else if D.u.pl == natL then ([refusedL], { D with st := 3 }) else ([[1, 4]], { D with nx := 2 })
def changeP (D : DoorV) : List (List UInt8) × DoorV :=
  if D.kn then ([switchB (D.u.pl, D.n)], { D with nx := 1 }) else ([switchB (natL, D.n)], { D with nx := 3 })
def whoP (D : DoorV) (nm sc : List UInt8) : DoorV :=
  { D with u := (findU D.us nm).getD userZ, kn := (findU D.us nm).isSome, sc := if sc.isEmpty then ((findU D.us nm).getD userZ).sc else sc }
def answerP (D : DoorV) (l : List UInt8) : List (List UInt8) × DoorV :=
  if (overP answerM ans0 l).2 = 0 then
    (if checkC (bothC D.gc (overP answerM ans0 l).1.caps) = 0 then
      (if (whoP { D with c := bothC D.gc (overP answerM ans0 l).1.caps } (overP answerM ans0 l).1.user (overP answerM ans0 l).1.db).kn && (overP answerM ans0 l).1.pl == (whoP { D with c := bothC D.gc (overP answerM ans0 l).1.caps } (overP answerM ans0 l).1.user (overP answerM ans0 l).1.db).u.pl then
        lookP (whoP { D with c := bothC D.gc (overP answerM ans0 l).1.caps } (overP answerM ans0 l).1.user (overP answerM ans0 l).1.db) (overP answerM ans0 l).1.resp
      else changeP (whoP { D with c := bothC D.gc (overP answerM ans0 l).1.caps } (overP answerM ans0 l).1.user (overP answerM ans0 l).1.db))
    else ([oddL], { D with st := 3 }))
  else ([oddL], { D with st := 3 })
def fullP (D : DoorV) (l : List UInt8) : List (List UInt8) × DoorV :=
  if l == D.u.pw ++ [0] then ([okL D.c], { D with st := 2 }) else ([refusedL], { D with st := 3 })
def nextP (D : DoorV) (l : List UInt8) : List (List UInt8) × DoorV :=
  match D.nx with
  | 0 => answerP D l
  | 1 => lookP D l
  | 2 => fullP D l
  | _ => ([refusedL], { D with st := 3 })
def feedP (D : DoorV) (l : List UInt8) : List (List UInt8) × Int × DoorV :=
  if D.st = 0 then ([], 1, D) else if D.st = 1 then ((nextP D l).1, 0, (nextP D l).2) else ([], 9, D)

theorem findU_snoc (us : List UserV) (u : UserV) (nm : List UInt8) : findU (us ++ [u]) nm = if u.name == nm then some u else findU us nm := by
  unfold findU
  rw [List.foldl_append]
  rfl

abbrev TM : TypeId := 24
abbrev TS : TypeId := 9
theorem lawS : Keyed Tryz.prog TS := Go.Maps.string_keyed Tryz.underlying9
def userR (v : Value) : Option (DataW Unit × List MemPlace) :=
  match v with
  | .agg cs => match cs.toList with
    | [.string n, .string p, .string l, .string s, .bool a] => some (.agg [.lit (.string n.data.toList), .lit (.string p.data.toList), .lit (.string l.data.toList), .lit (.string s.data.toList), .lit (.bool a)], [])
    | _ => none
  | _ => none
def userD (u : UserV) : DataW Unit := .agg [.lit (.string u.name), .lit (.string u.pw), .lit (.string u.pl), .lit (.string u.sc), .lit (.bool u.adm)]
theorem userR_mk (u : UserV) : userR (.agg #[.string (strL u.name), .string (strL u.pw), .string (strL u.pl), .string (strL u.sc), .bool u.adm]) = some (userD u, []) := rfl
theorem userR_inv {v : Value} {u : UserV} {ps : List MemPlace} (h : userR v = some (userD u, ps)) : v = .agg #[.string (strL u.name), .string (strL u.pw), .string (strL u.pl), .string (strL u.sc), .bool u.adm] := by
  unfold userR at h
  split at h
  · rename_i cs
    split at h
    · rename_i n p l s a hc
      simp only [userD, Option.some.injEq, Prod.mk.injEq, DataW.agg.injEq, List.cons.injEq, DataW.lit.injEq, Lit.string.injEq, Lit.bool.injEq] at h
      obtain ⟨⟨h1, h2, h3, h4, h5, _⟩, _⟩ := h
      have e : cs = #[.string n, .string p, .string l, .string s, .bool a] := by
        apply Array.toList_inj.1
        rw [hc]
      rw [e, ← h1, ← h2, ← h3, ← h4, ← h5, strL_of, strL_of, strL_of, strL_of]
    · cases h
  · cases h
def usD (us : List UserV) : DataW Unit := us.foldl (fun D u => D.put (.string u.name) (userD u)) (.map [])
theorem usD_snoc (us : List UserV) (u : UserV) : usD (us ++ [u]) = (usD us).put (.string u.name) (userD u) := by
  unfold usD
  rw [List.foldl_append]
  rfl
theorem list_snoc_induct {α : Type} {p : List α → Prop} (h0 : p []) (h1 : ∀ l a, p l → p (l ++ [a])) (l : List α) : p l := by
  have : ∀ k : List α, p k.reverse := by
    intro k
    induction k with
    | nil => exact h0
    | cons a k ih =>
      rw [List.reverse_cons]
      exact h1 _ _ ih
  have h := this l.reverse
  rwa [List.reverse_reverse] at h
theorem usD_isMap (us : List UserV) : Maps.IsMap (usD us) := by
  induction us using list_snoc_induct with
  | h0 => exact Maps.isMap_empty
  | h1 us u ih => rw [usD_snoc]; exact ih.put _ _
theorem usD_has (us : List UserV) (nm : List UInt8) : Maps.has (usD us) (.string nm) = (findU us nm).isSome := by
  induction us using list_snoc_induct with
  | h0 => rfl
  | h1 us u ih =>
    rw [usD_snoc, findU_snoc]
    by_cases e : u.name = nm
    · subst e
      rw [Maps.has_put_same (usD_isMap us) (k := .string u.name) trivial]
      simp
    · rw [Maps.has_put_other (by intro h; injection h with h; exact e h.symm)]
      have : (u.name == nm) = false := by simpa using e
      rw [this, ih]
      rfl
theorem usD_at (us : List UserV) (nm : List UInt8) : (usD us).atKey (.string nm) (userD userZ) = userD ((findU us nm).getD userZ) := by
  induction us using list_snoc_induct with
  | h0 => rfl
  | h1 us u ih =>
    rw [usD_snoc, findU_snoc]
    by_cases e : u.name = nm
    · subst e
      rw [Maps.atKey_put_same (usD_isMap us) (k := .string u.name) trivial]
      simp
    · rw [Maps.atKey_put_other (by intro h; injection h with h; exact e h.symm)]
      have : (u.name == nm) = false := by simpa using e
      rw [this, ih]
      rfl
theorem zeroU (w : World) : (zeroValue 32).run Tryz.prog w = .ok (.agg #[.string ⟨#[]⟩, .string ⟨#[]⟩, .string ⟨#[]⟩, .string ⟨#[]⟩, .bool false]) w := by kernel_rfl
def MapU (w : World) (b : Nat) (us : List UserV) : Prop := ∃ n, w.ownsMap Tryz.prog TS userR b n (usD us)
theorem MapU.on {g : Nat} {w w' : World} {b : Nat} {us : List UserV} (h : MapU w b us) (k : On g w w') (hne : b ≠ g) : MapU w' b us := by
  obtain ⟨n, h⟩ := h
  exact ⟨n, h.kept k (by intro e; injection e with e; exact hne e)⟩
theorem MapU.ext {w w' : World} {b : Nat} {us : List UserV} (h : MapU w b us) (k : Ext w w') : MapU w' b us := by
  obtain ⟨n, h⟩ := h
  exact ⟨n, h.kept (row := none) ⟨k.os, k.tape, k.output, Ext.size k, fun i hi _ => k.block i hi⟩ (by simp)⟩
theorem MapU.lt {w : World} {b : Nat} {us : List UserV} (h : MapU w b us) : b < w.heap.size := by
  obtain ⟨n, h⟩ := h
  exact h.lt
theorem MapU.look {w : World} {b : Nat} {us : List UserV} (h : MapU w b us) (nm : List UInt8) (hn : nm.length ≤ maxLen) {u : UserV} {kn : Bool} (hu : (findU us nm).getD userZ = u) (hk : (findU us nm).isSome = kn) :
    (Instr.lookup TM (.map (some b)) (.string (strL nm)) true).run Tryz.prog w = .ok (.tuple #[.agg #[.string (strL u.name), .string (strL u.pw), .string (strL u.pl), .string (strL u.sc), .bool u.adm], .bool kn]) w := by
  obtain ⟨n, h⟩ := h
  obtain ⟨v, ps, hr, hv⟩ := h.look_ok (zd := userD userZ) (zp := []) lawS Tryz.underlying24 (zeroU w) rfl (Go.WideMaps.keyOf_string_mk Tryz.underlying9 (s := strL nm) (by rw [strL_size]; exact hn))
  rw [strL_toList] at hr hv
  rw [usD_has, hk] at hr
  rw [usD_at, hu] at hv
  rw [userR_inv hv] at hr
  exact hr
end Go.Proofs.YtbodppfpmpmadaaGreat

namespace Go.Proofs.YtbodppfpmpmadaaGreat
open Go.RowKit

theorem On.belowOf {g : Nat} {w0 w w' : World} (h : On g w0 w) (k : Below w0.heap.size w w') : On g w0 w' :=
  ⟨k.os.trans h.os, k.tape.trans h.tape, k.output.trans h.output, Nat.le_trans h.size k.size, fun i hi hne => (k.block i hi).trans (h.block i hi hne)⟩
theorem ownR_one (w : World) (u : Value) (t : TypeId) {base : Nat} (hb : base ≤ w.heap.size) : OwnR t 1 (w.alloc (.cells #[u] t)) base (.slice (some ⟨w.heap.size, 0, none⟩) 1 1) [[u]] := by
  refine ⟨⟨rfl, .inr ⟨w.heap.size, 1, #[u], rfl, hb, heap_alloc_new w _, Nat.le_refl _, by unfold maxLen; simp, rfl, rfl⟩⟩, fun r h => ?_⟩
  have : r = [u] := by simpa using h
  subst this
  rfl
section
variable {P : Program} {ops : Array Oper} {rest : List Oper} {o : Oper} {a : Act} {w : World} {Q : Exit → Act → World → Prop}
theorem wpl_append_one2 {t sl : TypeId} {sz bytes : Nat} {z : Value} (hsl : P.underlying sl = some (.slice t)) (hinfo : (P.info? t).map (fun i => (i.zero, i.size, i.bytes)) = some (some z, sz, bytes)) (hzs : z.cells.size = sz) (hsz : 0 < sz) (hby : bytes ≤ 100)
    {base : Nat} {v : Value} {rs : List (List Value)} (hown : OwnR t sz w base v rs) (row : List Value) (hrow : row.length = sz) (h1 : row.all (·.oneCell') = true)
    (hgd : o.guard = none) (s x : Operand) (ho : o.op = .call { callee := .builtin .append, args := #[s, x], argTypes := #[sl, sl] })
    (hs : a.eval s = v) (C : Array Value) (hC : C = row.toArray) (hx : a.eval x = .slice (some ⟨w.heap.size, 0, none⟩) 1 1) (hlen : rs.length + 1 ≤ 1000000000) (hbase : base ≤ w.heap.size)
    (h : ∀ v' w', OwnR t sz w' base v' (rs ++ [row]) → Below base w w' → (w.alloc (.cells C t)).grownBy w' v.ownBlock → wpList P ops Q rest (a.put o.dst v') w') : wpList P ops Q (o :: rest) a (w.alloc (.cells C t)) := by
  subst hC
  refine wpList_plain hgd fun K hK => ?_
  obtain ⟨i, hi, hz, hs1, hb1⟩ := info_parts hinfo
  have hown' := (hown.ext ((Ext.refl w).alloc (.cells row.toArray t))).1
  obtain ⟨v', w', hrun, h2, h3, _⟩ := run_append_own (P := P) (w.alloc (.cells row.toArray t)) base sl o.type t i z sz bytes hsl hi hz hs1 hb1 hzs hsz v rs.length rs.flatten hown' ⟨w.heap.size, 0, none⟩ 1 1 row
    (by rw [hrow, Nat.one_mul]) (fun j u hj => by
      have hjl : j < row.length := by
        rcases Nat.lt_or_ge j row.length with h | h
        · exact h
        · rw [List.getElem?_eq_none h] at hj; cases hj
      rw [addr0, (Box.new w row t) j hjl, List.getD_eq_getElem?_getD, hj]
      rfl) (fun u hu => by rw [List.all_eq_true] at h1; exact h1 u hu) (by unfold maxLen; omega) (by
        have : (rs.length + 1) * bytes ≤ 1000000000 * 100 := Nat.mul_le_mul hlen hby
        omega) (Nat.le_trans hbase (by simp))
  have hb := (Below.refl base (w.alloc (.cells row.toArray t))).grown h3 (Nat.le_trans hbase (by simp)) (fun g hg => (World.ownsRow.lt hown' g hg).1)
  have hb' : Below base w w' := ((Below.refl base w).alloc hbase _).trans hb
  unfold Oper.wp execOp
  simp only [ho, resolve, invoke, builtin, Sem.run_bind, Sem.run_pure, Result.andThen_ok, List.map_toArray, List.map_cons, List.map_nil, hs, hx, hrun]
  refine hK _ _ (h v' w' ⟨?_, ?_⟩ hb' h3)
  · rw [List.length_append, List.flatten_append, List.flatten_cons, List.flatten_nil, List.append_nil]
    exact h2
  · intro r hr
    rcases List.mem_append.1 hr with h | h
    · exact hown.2 r h
    · simp at h; rw [h]; exact hrow
end
set_option maxHeartbeats 1000000 in
theorem in_more_c (w0 w : World) (g h : Nat) (cs : List Value) (c : Int) (u : Value) (l : List UInt8) (B : BoxF w g cs) (hl : cs.length = 19) (hc : cs[10]? = some (.int .u32 c)) (hx0 : Ext w0 w) (hg : g < w0.heap.size)
    (HR : OwnR 22 1 w w0.heap.size (.slice (some ⟨h, 0, none⟩) 1 1) [[u]]) (ho : Own w w0.heap.size u l) (hne : u.ownBlock ≠ some h) :
    Calls Tryz.prog 140 #[.pointer (some ⟨g, 0, none⟩), .slice (some ⟨h, 0, none⟩) 1 1] w fun e w' => ∃ v, e = .returned v ∧ ListsN w' w0.heap.size v [l, okL c] ∧ BoxF w' g (cs.set 9 (.int .i64 2)) ∧ On g w0 w' := by
  have hgh : w0.heap.size ≤ h := (World.ownsRow.lt HR.1 h rfl).1
  have HB := Lib.hid B
  have HL := Lib.hid hl
  have HX0 := Lib.hid hx0
  have HRR := Lib.hid HR
  have HO := Lib.hid ho
  have HNE := Lib.hid hne
  have HC := Lib.hid (show (cs.set 9 (.int .i64 2))[10]? = some (.int .u32 c) by rw [List.getElem?_set_ne (by decide)]; exact hc)
  obtain ⟨F, hF⟩ : ∃ F, F = okL c := ⟨_, rfl⟩
  have HF := Lib.hid hF
  clear B hl hc hF hx0 HR ho hne
  go_enter Tryz.func140, Tryz.ntmps140
  go_wp2_with (first
    | ((with_reducible show wpList _ _ _ (⟨none, Op.store _ _ _, _, _, _, _⟩ :: _) _ _); refine wpl_store_cell rfl _ _ _ rfl g 9 (.int .i64 2) rfl rfl rfl rfl (by kernel_rfl) HB.out (by have := HL.out; omega) ?_; intro w1 B1 O1; have c10 := B1.at (j := 10) HC.out)
    | (go_at_call 177; refine (appendOk_good _ _ _ [] [] c 0 0 2 0 ByteArray.empty false (Rd.nil _) (Rd.nil _) (by simp) (by decide) (by simp) (by omega) (by omega) (by omega) (by omega) (.inl rfl)).mono ?_; rintro e w2 ⟨v2, rfl, ho2, hx2⟩; replace ho2 : Own w2 w1.heap.size v2 F := (by rw [HF.out]; exact ho2); obtain ⟨A2, c2, hv2, _⟩ := id ho2.rd; subst hv2)
    | ((with_reducible show AtS 22); go_loud (refine wpl_append_one2 (sz := 1) (z := .slice none 0 0) (bytes := 24) Tryz.underlying41 (by kernel_rfl) (by kernel_rfl) (by omega) (by omega) ((HRR.out.on O1 hg).ext hx2) [.slice A2 F.length c2] rfl (by kernel_rfl) rfl _ _ rfl rfl _ rfl rfl (by simp) (Nat.le_trans (Ext.size HX0.out) (Nat.le_trans O1.size (Ext.size hx2))) ?_; intro v3 w3 ho3 hb3 hg3))
    | fail)
  go_ret
  rw [← HF.out]
  have hO2 : On g w0 w2 := ((On.of HX0.out).trans O1).ext hx2
  have hO3 : On h (w2.alloc (.cells #[.slice A2 F.length c2] 22)) w3 := hg3
  have hw2 : w1.heap.size ≤ w2.heap.size := Ext.size hx2
  have hh1 : h < w1.heap.size := Nat.lt_of_lt_of_le (World.ownsRow.lt HRR.out.1 h rfl).2 O1.size
  refine ⟨_, rfl, lists_of (us := [u, .slice A2 F.length c2]) ho3 rfl (fun j hj => ?_), (((B1.ext hx2).ext ((Ext.refl _).alloc _)).on hO3 (by omega)), hO2.belowOf hb3⟩
  have ou : Own w3 w0.heap.size u l := World.ownsRow.kept (((HO.out.on O1 hg).ext hx2).ext ((Ext.refl _).alloc _)) hO3 (.inr (fun e => HNE.out e))
  have o2 : Own w3 w1.heap.size (.slice A2 F.length c2) F := World.ownsRow.kept (ho2.ext ((Ext.refl _).alloc _)) hO3 (.inr (fun e => by have := (World.ownsRow.lt ho2 h e).1; omega))
  rcases j with _ | _ | j
  · exact ou
  · exact o2.more (Nat.le_trans (Ext.size HX0.out) O1.size)
  · simp at hj; omega
theorem appendMore_b (w : World) (v : Value) (m : List UInt8) (hr : Rd w v m) (hm : m.length ≤ 1000) : Calls Tryz.prog 141 #[.slice none 0 0, v] w (RetB w (1 :: m)) := by
  have HR := Lib.hid hr
  have HM := Lib.hid hm
  obtain ⟨A, c, rfl, _⟩ := hr
  clear hm
  go_enter Tryz.func141, Tryz.ntmps141
  go_wp2_with (first
    | (go_at_call 97; refine (cloneN_c _).mono ?_; rintro e wx ⟨rfl, rfl⟩)
    | ((with_reducible show AtS 8); refine wpl_append_rd bt (Own.nil _ w.heap.size) (rd_lit _ _ [1] (by rfl) (by simp) 1 _ (by rfl) (by rfl)) rfl _ _ rfl rfl rfl (by simp) (Ext.size ((Ext.refl w).alloc _)) ?_; intro v1 w1 ho1 hb1; have hE1 := ((Ext.refl w).alloc _).below hb1 (Nat.le_refl _))
    | ((with_reducible show AtS 10); refine wpl_append_rd bt ho1 (HR.out.ext hE1) rfl _ _ rfl rfl rfl (by have := HM.out; simp; omega) (Ext.size hE1) ?_; intro v2 w2 ho2 hb2; have hE2 := hE1.below hb2 (Nat.le_refl _))
    | fail)
  go_ret
  exact ⟨_, rfl, ho2, hE2⟩
end Go.Proofs.YtbodppfpmpmadaaGreat

namespace Go.Proofs.YtbodppfpmpmadaaGreat
open Go.RowKit

def fnFull (g : Nat) : Value := .func (.func 142) #[.pointer (some ⟨g, 0, none⟩)] #[]
set_option maxHeartbeats 2000000 in
theorem look_ask (w : World) (g : Nat) (cs : List Value) (pl pw l n : List UInt8) (vb : Value) (A : Option Addr) (k cp : Nat) (B : BoxF w g cs) (hl : cs.length = 19) (h3 : cs[3]? = some (.slice A k cp)) (h13 : cs[13]? = some (.string (strL pw))) (h14 : cs[14]? = some (.string (strL pl)))
    (hpl : (pl == natL) = false) (hn : Rd w (.slice A k cp) n) (hr : Rd w vb l) (hp : pw.length ≤ 1000000) (hq : (l == respPl pl pw n) = false) :
    Calls Tryz.prog 87 #[.pointer (some ⟨g, 0, none⟩), vb] w fun e w' => ∃ v, e = .returned v ∧
      ListsN w' w.heap.size v [[1, 4]] ∧ BoxF w' g (cs.set 11 (fnFull g)) ∧ On g w w' := by
  have HB := Lib.hid B
  have HL := Lib.hid hl
  have H14 := Lib.hid h14
  have HR := Lib.hid hr
  have HN := Lib.hid hn
  have HP := Lib.hid hp
  obtain ⟨Ab, cb, rfl, _⟩ := hr
  have c3 := B.at h3
  have c13 := B.at h13
  have c14 := B.at h14
  have HQ := Lib.hid hq
  have g4 : ((strL pl).toList == [109, 121, 115, 113, 108, 95, 110, 97, 116, 105, 118, 101, 95, 112, 97, 115, 115, 119, 111, 114, 100]) = false := by rw [strL_tl]; exact hpl
  clear B hl h3 h13 h14 hn hp hq hpl
  obtain ⟨t, ht⟩ : ∃ t, t = strL pl := ⟨_, rfl⟩
  rw [← ht] at c14 g4
  have HT := Lib.hid ht
  clear ht
  go_enter Tryz.func87, Tryz.ntmps87
  go_wp2_with fail
  have hY := Ext.refl w
  go_region_held3 (fun W' => W'.cell? ⟨g, 3, none⟩ = some (.slice A k cp) ∧ W'.cell? ⟨g, 13, none⟩ = some (.string (strL pw)) ∧ W'.cell? ⟨g, 14, none⟩ = some (.string t) ∧ Ext w W')
    ((refine (fun h => ⟨Ext.cell h c3, Ext.cell h c13, Ext.cell h c14, h⟩) ?_; repeat' (first | with_reducible exact hY | (with_reducible refine Ext.drew ?_) | (with_reducible refine Ext.alloc ?_ _))))
    (first
      | (go_at_call 123; go_must (rw [HT.out]; refine (dresponse_c _ pl pw _ n HP.out (HN.out.ext (Ext.refl _).drew)).mono ?_; rintro e w1 ⟨v1, rfl, hr1, hx1⟩; replace hY : Ext w w1 := (Ext.refl _).drew.trans hx1))
      | (go_at_call 139; go_must (refine (equalS_c _ _ _ l _ (HR.out.ext hY) hr1).mono ?_; rintro e w2 ⟨rfl, hx2⟩; rw [HQ.out]; replace hY := hY.trans hx2))
      | fail)
  all_goals
    have HY := Lib.hid hY
    have HB2 := Lib.hid (HB.out.ext hY)
    have d14 := Ext.cell hY c14
    clear c3 c13 c14 hY hr1 hx1 hx2
    go_wp2_with (first
      | ((with_reducible show AtW 30); refine wpl_store_cell rfl _ _ _ rfl g 11 (fnFull g) rfl rfl rfl rfl (by kernel_rfl) HB2.out (by have := HL.out; omega) ?_; intro w3 B3 O3)
      | (go_at_call 141; refine (appendMore_b _ _ [4] (rd_lit _ _ [4] (by rfl) (by simp) 1 _ (by rfl) (by first | rfl | (simp; done))) (by simp)).mono ?_; rintro e w4 ⟨v4, rfl, ho4, hx4⟩; obtain ⟨A4, c4, hv4, _⟩ := id ho4.rd; subst hv4)
      | fail)
    go_ret
    have hO3 : On g w w3 := (On.of HY.out).trans O3
    have hx5 : Ext w3 w4 := ((Ext.refl _).alloc _).trans hx4
    refine ⟨_, rfl, ?_, (B3.ext hx5).ext ((Ext.refl _).alloc _), (hO3.ext hx5).ext ((Ext.refl _).alloc _)⟩
    exact lists_one (u := _) (Nat.le_trans (On.size hO3) (Ext.size hx5)) (Box.new w4 [_] _ 0 (by simp)) ((ho4.more (Nat.le_trans (On.size hO3) (Ext.size ((Ext.refl _).alloc _)))).ext ((Ext.refl _).alloc _))
set_option maxHeartbeats 1000000 in
theorem look_right (w : World) (g : Nat) (cs : List Value) (c : Int) (pl pw l n : List UInt8) (vb : Value) (A : Option Addr) (k cp : Nat) (B : BoxF w g cs) (hl : cs.length = 19) (h3 : cs[3]? = some (.slice A k cp)) (h10 : cs[10]? = some (.int .u32 c)) (h13 : cs[13]? = some (.string (strL pw))) (h14 : cs[14]? = some (.string (strL pl)))
    (hpl : (pl == natL) = false) (hn : Rd w (.slice A k cp) n) (hr : Rd w vb l) (hp : pw.length ≤ 1000000) (hq : (l == respPl pl pw n) = true) :
    Calls Tryz.prog 87 #[.pointer (some ⟨g, 0, none⟩), vb] w fun e w' => ∃ v, e = .returned v ∧
      ListsN w' w.heap.size v (if l.isEmpty then [okL c] else [[1, 3], okL c]) ∧ BoxF w' g (cs.set 9 (.int .i64 2)) ∧ On g w w' := by
  have HB := Lib.hid B
  have hgl := B.lt
  have HL := Lib.hid hl
  have H10 := Lib.hid h10
  have H14 := Lib.hid h14
  have HN := Lib.hid hn
  have HP := Lib.hid hp
  obtain ⟨Ab, cb, rfl, _⟩ := id hr
  have c3 := B.at h3
  have c13 := B.at h13
  have c14 := B.at h14
  have HQ := Lib.hid hq
  have g4 : ((strL pl).toList == [109, 121, 115, 113, 108, 95, 110, 97, 116, 105, 118, 101, 95, 112, 97, 115, 115, 119, 111, 114, 100]) = false := by rw [strL_tl]; exact hpl
  clear B hl h3 h10 h13 h14 hn hp hq hpl
  obtain ⟨t, ht⟩ : ∃ t, t = strL pl := ⟨_, rfl⟩
  rw [← ht] at c14 g4
  have HT := Lib.hid ht
  obtain ⟨N, hN⟩ : ∃ N, N = l.length := ⟨_, rfl⟩
  rw [← hN] at hr ⊢
  have HR := Lib.hid hr
  obtain ⟨q6, hq6⟩ : ∃ q, q = l.isEmpty := ⟨_, rfl⟩
  rw [← hq6]
  have HN0 : if q6 then N = 0 else 0 < N := by
    rw [hq6, hN]
    cases l <;> simp
  clear ht hN hq6 hr
  have HGL := Lib.hid hgl
  clear hgl
  cases q6 with
  | true =>
    have hN0 : ¬ ((N : Int) > 0) := by simp at HN0; omega
    clear HN0
    go_enter Tryz.func87, Tryz.ntmps87
    go_wp2_with fail
    have hY := Ext.refl w
    go_region_held3 (fun W' => W'.cell? ⟨g, 3, none⟩ = some (.slice A k cp) ∧ W'.cell? ⟨g, 13, none⟩ = some (.string (strL pw)) ∧ W'.cell? ⟨g, 14, none⟩ = some (.string t) ∧ Ext w W')
      ((refine (fun h => ⟨Ext.cell h c3, Ext.cell h c13, Ext.cell h c14, h⟩) ?_; repeat' (first | with_reducible exact hY | (with_reducible refine Ext.drew ?_) | (with_reducible refine Ext.alloc ?_ _))))
      (first
        | (go_at_call 123; go_must (rw [HT.out]; refine (dresponse_c _ pl pw _ n HP.out (HN.out.ext (Ext.refl _).drew)).mono ?_; rintro e w1 ⟨v1, rfl, hr1, hx1⟩; replace hY : Ext w w1 := (Ext.refl _).drew.trans hx1))
        | (go_at_call 139; go_must (refine (equalS_c _ _ _ l _ (HR.out.ext hY) hr1).mono ?_; rintro e w2 ⟨rfl, hx2⟩; rw [HQ.out]; replace hY := hY.trans hx2))
        | fail)
    all_goals
      have HY := Lib.hid hY
      have HB2 := Lib.hid (HB.out.ext hY)
      have d14 := Ext.cell hY c14
      clear c3 c13 c14 hY hr1 hx1 hx2
      go_wp2_with (first
        | (go_at_call 140; refine (in_nil_c _ g cs c HB2.out HL.out H10.out).mono ?_; rintro e w3 ⟨v3, rfl, hl3, B3, O3⟩)
        | fail)
      go_ret
      exact ⟨_, rfl, hl3.more (Ext.size HY.out), B3, (On.of HY.out).trans O3⟩
  | false =>
    have hN0 : (N : Int) > 0 := by simp at HN0; omega
    clear HN0
    go_enter Tryz.func87, Tryz.ntmps87
    go_wp2_with fail
    have hY := Ext.refl w
    go_region_held3 (fun W' => W'.cell? ⟨g, 3, none⟩ = some (.slice A k cp) ∧ W'.cell? ⟨g, 13, none⟩ = some (.string (strL pw)) ∧ W'.cell? ⟨g, 14, none⟩ = some (.string t) ∧ Ext w W')
      ((refine (fun h => ⟨Ext.cell h c3, Ext.cell h c13, Ext.cell h c14, h⟩) ?_; repeat' (first | with_reducible exact hY | (with_reducible refine Ext.drew ?_) | (with_reducible refine Ext.alloc ?_ _))))
      (first
        | (go_at_call 123; go_must (rw [HT.out]; refine (dresponse_c _ pl pw _ n HP.out (HN.out.ext (Ext.refl _).drew)).mono ?_; rintro e w1 ⟨v1, rfl, hr1, hx1⟩; replace hY : Ext w w1 := (Ext.refl _).drew.trans hx1))
        | (go_at_call 139; go_must (refine (equalS_c _ _ _ l _ (HR.out.ext hY) hr1).mono ?_; rintro e w2 ⟨rfl, hx2⟩; rw [HQ.out]; replace hY := hY.trans hx2))
        | fail)
    all_goals
      have HY := Lib.hid hY
      have HB2 := Lib.hid (HB.out.ext hY)
      have d14 := Ext.cell hY c14
      clear c3 c13 c14 hY hr1 hx1 hx2
      go_wp2_with (first
        | (go_at_call 141; refine (appendMore_b _ _ [3] (rd_lit _ _ [3] (by rfl) (by simp) 1 _ (by rfl) (by first | rfl | (simp; done))) (by simp)).mono ?_; rintro e w4 ⟨v4, rfl, ho4, hx4⟩; obtain ⟨A4, c4, hv4, _⟩ := id ho4.rd; subst hv4)
        | (go_at_call 140; refine (in_more_c w _ g _ cs c _ [1, 3] (((HB2.out.ext ((Ext.refl _).alloc _)).ext hx4).ext ((Ext.refl _).alloc _)) HL.out H10.out (((HY.out.alloc _).trans hx4).alloc _) HGL.out (ownR_one w4 _ _ (Nat.le_trans (Ext.size (HY.out.alloc _)) (Ext.size hx4))) ((ho4.more (Ext.size (HY.out.alloc _))).ext ((Ext.refl _).alloc _)) (fun e => by have := (World.ownsRow.lt ho4 _ e).2; omega)).mono ?_; rintro e w5 ⟨v5, rfl, hl5, B5, O5⟩)
        | fail)
      go_ret
      exact ⟨_, rfl, hl5, B5, O5⟩
end Go.Proofs.YtbodppfpmpmadaaGreat

namespace Go.Proofs.YtbodppfpmpmadaaGreat
open Go.RowKit

def Off (w : World) (S : List Nat) (v : Value) : Prop := ∀ h, v.ownBlock = some h → h ∉ S ∧ h < w.heap.size
theorem Off.mono {w w' : World} {S : List Nat} {v : Value} (h : Off w S v) (k : w.heap.size ≤ w'.heap.size) : Off w' S v := fun b hb => ⟨(h b hb).1, Nat.lt_of_lt_of_le (h b hb).2 k⟩
theorem Off.ne {w : World} {S : List Nat} {v : Value} {g : Nat} (h : Off w S v) (hg : g ∈ S) : v.ownBlock ≠ some g := fun e => (h g e).1 hg
theorem Off.more {w : World} {S S' : List Nat} {v : Value} (h : Off w S v) (k : ∀ x ∈ S', x ∈ S ∨ w.heap.size ≤ x) : Off w S' v := fun b hb => ⟨fun hm => by
  rcases k b hm with h1 | h1
  · exact (h b hb).1 h1
  · have := (h b hb).2; omega, (h b hb).2⟩
structure DoorK where
  b : Nat
  v1 : Value
  v2 : Value
  A : Option Addr
  cp : Nat
  v5 : Value
  v6 : Value
  v7 : Value
  vh : Value
def dcs (K : DoorK) (D : DoorV) (fv : Value) : List Value :=
  [.map (some K.b), K.v1, K.v2, .slice K.A D.n.length K.cp, .int .u32 D.gc, K.v5, K.v6, K.v7, K.vh, .int .i64 D.st, .int .u32 D.c, fv, .string (strL D.u.name), .string (strL D.u.pw), .string (strL D.u.pl), .string (strL D.u.sc), .bool D.u.adm, .bool D.kn, .string (strL D.sc)]
def fnAnswer (g : Nat) : Value := .func (.func 57) #[.pointer (some ⟨g, 0, none⟩)] #[]
def FnIs (w : World) (S : List Nat) (g : Nat) (nx : Nat) (fv : Value) : Prop :=
  (nx = 0 ∧ fv = fnAnswer g) ∨ (nx = 1 ∧ fv = fnLook g) ∨ (nx = 2 ∧ fv = fnFull g) ∨
    (3 ≤ nx ∧ ∃ h, fv = fnNobody h ∧ w.cell? ⟨h, 0, none⟩ = some (.pointer (some ⟨g, 0, none⟩)) ∧ h ∉ S)
theorem FnIs.on {w w' : World} {S : List Nat} {g nx b : Nat} {fv : Value} (h : FnIs w S g nx fv) (k : On b w w') (hb : b ∈ S) : FnIs w' S g nx fv := by
  rcases h with h | h | h | ⟨h0, x, h1, h2, h3⟩
  · exact .inl h
  · exact .inr (.inl h)
  · exact .inr (.inr (.inl h))
  · exact .inr (.inr (.inr ⟨h0, x, h1, k.cell h2 (fun e => h3 (by rw [show x = b from e]; exact hb)), h3⟩))
theorem FnIs.ext {w w' : World} {S : List Nat} {g nx : Nat} {fv : Value} (h : FnIs w S g nx fv) (k : Ext w w') : FnIs w' S g nx fv := by
  rcases h with h | h | h | ⟨h0, x, h1, h2, h3⟩
  · exact .inl h
  · exact .inr (.inl h)
  · exact .inr (.inr (.inl h))
  · exact .inr (.inr (.inr ⟨h0, x, h1, k.cell h2, h3⟩))
theorem FnIs.more {w : World} {S S' : List Nat} {g nx : Nat} {fv : Value} (h : FnIs w S g nx fv) (k : ∀ x ∈ S', x ∈ S ∨ w.heap.size ≤ x) : FnIs w S' g nx fv := by
  rcases h with h | h | h | ⟨h0, x, h1, h2, h3⟩
  · exact .inl h
  · exact .inr (.inl h)
  · exact .inr (.inr (.inl h))
  · refine .inr (.inr (.inr ⟨h0, x, h1, h2, fun hm => ?_⟩))
    rcases k x hm with h4 | h4
    · exact h3 h4
    · have := World.block_lt_of_cell? w _ h2
      dsimp only at this
      omega
structure DoorAt (w : World) (S : List Nat) (g : Nat) (D : DoorV) (K : DoorK) (fv : Value) : Prop where
  box : BoxF w g (dcs K D fv)
  map : MapU w K.b D.us
  bS : K.b ∉ S
  nr : Rd w (.slice K.A D.n.length K.cp) D.n
  nS : Off w S (.slice K.A D.n.length K.cp)
  hr : Rd w K.vh D.hello
  hS : Off w S K.vh
  fn : FnIs w S g D.nx fv
  gS : g ∈ S
  lt : ∀ x ∈ S, x < w.heap.size
theorem DoorAt.ext {w w' : World} {S : List Nat} {g : Nat} {D : DoorV} {K : DoorK} {fv : Value} (h : DoorAt w S g D K fv) (k : Ext w w') : DoorAt w' S g D K fv :=
  ⟨h.box.ext k, h.map.ext k, h.bS, h.nr.ext k, h.nS.mono (Ext.size k), h.hr.ext k, h.hS.mono (Ext.size k), h.fn.ext k, h.gS, fun x hx => Nat.lt_of_lt_of_le (h.lt x hx) (Ext.size k)⟩
theorem DoorAt.on {w w' : World} {S : List Nat} {g b : Nat} {D : DoorV} {K : DoorK} {fv : Value} (h : DoorAt w S g D K fv) (k : On b w w') (hb : b ∈ S) (hne : g ≠ b) : DoorAt w' S g D K fv :=
  ⟨h.box.on k hne, h.map.on k (fun e => h.bS (e ▸ hb)), h.bS, h.nr.on k (h.nS.ne hb), h.nS.mono k.size, h.hr.on k (h.hS.ne hb), h.hS.mono k.size, h.fn.on k hb, h.gS, fun x hx => Nat.lt_of_lt_of_le (h.lt x hx) k.size⟩
theorem DoorAt.more {w : World} {S S' : List Nat} {g : Nat} {D : DoorV} {K : DoorK} {fv : Value} (h : DoorAt w S g D K fv) (k : ∀ x ∈ S', x ∈ S ∨ w.heap.size ≤ x) {w' : World} (k2 : Ext w w') (hlt : ∀ x ∈ S', x < w'.heap.size) (hs : ∀ x ∈ S, x ∈ S') : DoorAt w' S' g D K fv :=
  ⟨h.box.ext k2, h.map.ext k2, fun hm => by
    rcases k _ hm with h1 | h1
    · exact h.bS h1
    · have := h.map.lt; omega, h.nr.ext k2, (h.nS.more k).mono (Ext.size k2), h.hr.ext k2, (h.hS.more k).mono (Ext.size k2), (h.fn.more k).ext k2, hs _ h.gS, hlt⟩
theorem DoorAt.turn {w w' : World} {S : List Nat} {g : Nat} {D D' : DoorV} {K : DoorK} {fv fv' : Value} (h : DoorAt w S g D K fv) (k : On g w w') (hb : BoxF w' g (dcs K D' fv')) (hu : D'.us = D.us) (hn : D'.n = D.n) (hh : D'.hello = D.hello) (hf : FnIs w' S g D'.nx fv') : DoorAt w' S g D' K fv' :=
  ⟨hb, by rw [hu]; exact h.map.on k (fun e => h.bS (e ▸ h.gS)), h.bS, by rw [hn]; exact h.nr.on k (h.nS.ne h.gS), by rw [hn]; exact h.nS.mono k.size, by rw [hh]; exact h.hr.on k (h.hS.ne h.gS), h.hS.mono k.size, hf, h.gS, fun x hx => Nat.lt_of_lt_of_le (h.lt x hx) k.size⟩
def DoorIs (w : World) (S : List Nat) (g : Nat) (D : DoorV) : Prop := ∃ K fv, DoorAt w S g D K fv
def RetD (w : World) (S : List Nat) (g : Nat) (r : List (List UInt8) × DoorV) (e : Ending) (w' : World) : Prop :=
  ∃ v, e = .returned v ∧ ListsN w' w.heap.size v r.1 ∧ DoorIs w' S g r.2 ∧ On g w w'
structure DoorOk (D : DoorV) : Prop where
  pw : D.u.pw.length ≤ 1000000
  pl : D.u.pl.length ≤ 10000
  sw : switchOk (D.u.pl, D.n)

theorem look_d (w : World) (S : List Nat) (g : Nat) (D : DoorV) (l : List UInt8) (vb : Value) (h : DoorIs w S g D) (hp : D.u.pw.length ≤ 1000000) (hr : Rd w vb l) :
    Calls Tryz.prog 87 #[.pointer (some ⟨g, 0, none⟩), vb] w (RetD w S g (lookP D l)) := by
  obtain ⟨K, fv, h⟩ := h
  cases hpl : D.u.pl == natL with
  | true =>
    have e : D.u.pl = natL := by simpa using hpl
    have hrp : respPl D.u.pl D.u.pw D.n = respP 1 D.u.pw D.n := by rw [e]; rfl
    refine (look_nat w g (dcs K D fv) D.c D.u.pw l D.n vb K.A D.n.length K.cp h.box rfl rfl rfl rfl (by unfold dcs; rw [e]; rfl) h.nr hr hp).mono ?_
    rintro e' w' ⟨v, rfl, hl, hb, hO⟩
    unfold lookP
    rw [hrp, hpl]
    cases hq : l == respP 1 D.u.pw D.n with
    | true =>
      rw [hq] at hl hb
      exact ⟨v, rfl, hl, ⟨K, fv, h.turn hO (D' := { D with st := 2 }) hb rfl rfl rfl (h.fn.on hO h.gS)⟩, hO⟩
    | false =>
      rw [hq] at hl hb
      exact ⟨v, rfl, hl, ⟨K, fv, h.turn hO (D' := { D with st := 3 }) hb rfl rfl rfl (h.fn.on hO h.gS)⟩, hO⟩
  | false =>
    cases hq : l == respPl D.u.pl D.u.pw D.n with
    | true =>
      refine (look_right w g (dcs K D fv) D.c D.u.pl D.u.pw l D.n vb K.A D.n.length K.cp h.box rfl rfl rfl rfl rfl hpl h.nr hr hp hq).mono ?_
      rintro e' w' ⟨v, rfl, hl, hb, hO⟩
      unfold lookP
      rw [hpl, hq]
      cases he : l.isEmpty with
      | true =>
        rw [he] at hl
        exact ⟨v, rfl, hl, ⟨K, fv, h.turn hO (D' := { D with st := 2 }) hb rfl rfl rfl (h.fn.on hO h.gS)⟩, hO⟩
      | false =>
        rw [he] at hl
        exact ⟨v, rfl, hl, ⟨K, fv, h.turn hO (D' := { D with st := 2 }) hb rfl rfl rfl (h.fn.on hO h.gS)⟩, hO⟩
    | false =>
      refine (look_ask w g (dcs K D fv) D.u.pl D.u.pw l D.n vb K.A D.n.length K.cp h.box rfl rfl rfl rfl hpl h.nr hr hp hq).mono ?_
      rintro e' w' ⟨v, rfl, hl, hb, hO⟩
      unfold lookP
      rw [hpl, hq]
      exact ⟨v, rfl, hl, ⟨K, fnFull g, h.turn hO (D' := { D with nx := 2 }) hb rfl rfl rfl (.inr (.inr (.inl ⟨rfl, rfl⟩)))⟩, hO⟩
theorem full_d (w : World) (S : List Nat) (g : Nat) (D : DoorV) (l : List UInt8) (vb : Value) (h : DoorIs w S g D) (hp : D.u.pw.length ≤ 1000000) (hr : Rd w vb l) :
    Calls Tryz.prog 142 #[.pointer (some ⟨g, 0, none⟩), vb] w (RetD w S g (fullP D l)) := by
  obtain ⟨K, fv, h⟩ := h
  refine (full_c w g (dcs K D fv) D.c D.u.pw l vb h.box rfl rfl rfl hr hp).mono ?_
  rintro e' w' ⟨v, rfl, hl, hb, hO⟩
  unfold fullP
  cases hq : l == D.u.pw ++ [0] with
  | true =>
    rw [hq] at hl hb
    exact ⟨v, rfl, hl, ⟨K, fv, h.turn hO (D' := { D with st := 2 }) hb rfl rfl rfl (h.fn.on hO h.gS)⟩, hO⟩
  | false =>
    rw [hq] at hl hb
    exact ⟨v, rfl, hl, ⟨K, fv, h.turn hO (D' := { D with st := 3 }) hb rfl rfl rfl (h.fn.on hO h.gS)⟩, hO⟩
theorem change_d (w : World) (S : List Nat) (g : Nat) (D : DoorV) (h : DoorIs w S g D) (hok : switchOk (D.u.pl, D.n)) (hp : D.u.pl.length ≤ 10000) :
    Calls Tryz.prog 45 #[.pointer (some ⟨g, 0, none⟩)] w (RetD w S g (changeP D)) := by
  obtain ⟨K, fv, h⟩ := h
  obtain ⟨us, gc, n, hello, st, c, nx, u, kn, sc⟩ := D
  cases kn with
  | true =>
    refine (dchange_known w g (dcs K ⟨us, gc, n, hello, st, c, nx, u, true, sc⟩ fv) u.pl n K.A n.length K.cp h.box rfl rfl rfl rfl (fun w' k => h.nr.on k (h.nS.ne h.gS)) hok hp).mono ?_
    rintro e' w' ⟨v, rfl, hl, hb, hO⟩
    exact ⟨v, rfl, hl, ⟨K, fnLook g, h.turn hO (D' := ⟨us, gc, n, hello, st, c, 1, u, true, sc⟩) hb rfl rfl rfl (.inr (.inl ⟨rfl, rfl⟩))⟩, hO⟩
  | false =>
    have hok2 : switchOk (natL, n) := ⟨by show natL.contains 0 = false; decide, hok.2⟩
    refine (dchange_unknown w g (dcs K ⟨us, gc, n, hello, st, c, nx, u, false, sc⟩ fv) n K.A n.length K.cp h.box rfl rfl rfl (fun w' k => h.nr.on k (h.nS.ne h.gS)) hok2).mono ?_
    rintro e' w' ⟨v, x, rfl, hx, hxn, hl, hb, hO⟩
    exact ⟨v, rfl, hl, ⟨K, fnNobody x, h.turn hO (D' := ⟨us, gc, n, hello, st, c, 3, u, false, sc⟩) hb rfl rfl rfl (.inr (.inr (.inr ⟨Nat.le_refl _, x, rfl, hx, fun hm => by have := h.lt x hm; omega⟩)))⟩, hO⟩
theorem who_d (w : World) (S : List Nat) (g : Nat) (D : DoorV) (nm sc : List UInt8) (K : DoorK) (fv : Value) (h : DoorAt w S g D K fv) (hn : nm.length ≤ 1000000) :
    Calls Tryz.prog 44 #[.pointer (some ⟨g, 0, none⟩), .string (strL nm), .string (strL sc)] w fun e w' => e = .returned (.tuple #[]) ∧ DoorAt w' S g (whoP D nm sc) K fv ∧ On g w w' := by
  obtain ⟨u, hu⟩ : ∃ u, (findU D.us nm).getD userZ = u := ⟨_, rfl⟩
  obtain ⟨kn, hk⟩ : ∃ kn, (findU D.us nm).isSome = kn := ⟨_, rfl⟩
  have hlk := h.map.look nm (by unfold maxLen; omega) hu hk
  unfold whoP
  rw [hu, hk]
  obtain ⟨u1, u2, u3, u4, ad⟩ := u
  refine (who_c w g K.b (dcs K D fv) (strL nm) sc u1 u2 u3 u4 ad kn h.box rfl rfl hlk).mono ?_
  rintro e w' ⟨rfl, hb, hO⟩
  exact ⟨rfl, h.turn hO (D' := { D with u := ⟨u1, u2, u3, u4, ad⟩, kn := kn, sc := if sc.isEmpty then u4 else sc }) hb rfl rfl rfl (h.fn.on hO h.gS), hO⟩
end Go.Proofs.YtbodppfpmpmadaaGreat

namespace Go.Proofs.YtbodppfpmpmadaaGreat
open Go.RowKit

def RetSwitch (w : World) (r : (List UInt8 × List UInt8) × Int) (e : Ending) (w' : World) : Prop :=
  ∃ vn, e = .returned (.tuple #[.agg #[.string (strL r.1.1), vn], .int .i64 r.2]) ∧ Rd w' vn r.1.2 ∧ Ext w w'

set_option maxRecDepth 100000 in
set_option maxHeartbeats 4000000 in
theorem readSwitch_g (w : World) (v : Value) (l : List UInt8) (hr : Rd w v l) : Calls Tryz.prog 169 #[v] w (RetSwitch w (overP switchM ([], []) l)) := by
  obtain ⟨A0, cap0, hv, _, _, _, _⟩ := id hr
  have HR := Lib.hid hr
  clear hr
  subst hv
  obtain ⟨b1, s1, h1⟩ := byte_one (l, 0)
  obtain ⟨x1, hx1⟩ : ∃ x1 : Int, x1 = (b1.toNat : Int) := ⟨_, rfl⟩
  obtain ⟨q1, hk1⟩ : ∃ q, (x1 != 254) = q := ⟨_, rfl⟩
  obtain ⟨s2, h2⟩ : ∃ s, rW q1 s1 = s := ⟨_, rfl⟩
  obtain ⟨pl, s3, h3⟩ : ∃ x s, rZ s2 = (x, s) := ⟨_, _, rfl⟩
  obtain ⟨n, s4, h4⟩ : ∃ x s, rB 20 s3 = (x, s) := ⟨_, _, rfl⟩
  obtain ⟨k1, hn1⟩ : ∃ k, nonceOk n = k := ⟨_, rfl⟩
  obtain ⟨s5, h5⟩ : ∃ s, rW (!k1) s4 = s := ⟨_, rfl⟩
  obtain ⟨s6, h6⟩ : ∃ s, r0 1 s5 = s := ⟨_, rfl⟩
  obtain ⟨s7, h7⟩ : ∃ s, rO s6 = s := ⟨_, rfl⟩
  have hS : overP switchM ([], []) l = (if s7.2 = 0 then (pl, n) else ([], []), s7.2) := by
    have e1 : byteI [b1] = x1 := hx1.symm
    simp only [overP, switchM, bindR, chkR, pureR, h1, e1, hk1, h2, h3, h4, hn1, h5, h6, h7]
  have HX1 := Lib.hid hx1
  have H1 := Lib.hid h1
  have H2 := Lib.hid h2
  have H3 := Lib.hid h3
  have H4 := Lib.hid h4
  have HK1 := Lib.hid hn1
  have H5 := Lib.hid h5
  have H6 := Lib.hid h6
  have H7 := Lib.hid h7
  clear hx1 h1 h2 h3 h4 hn1 h5 h6 h7
  rw [hS]
  clear hS
  by_cases he : s7.2 = 0
  · rw [if_pos he, he]
    have hb : (s7.2 != 0) = false := by simp [he]
    clear he
    go_enter Tryz.func169, Tryz.ntmps169
    go_wp2_with fail
    have S0 : St0 w _ (l, 0) [.string ⟨#[]⟩, .slice none 0 0] := St0.start w _ l HR.out [.string ⟨#[]⟩, .slice none 0 0] 103 114 #[.string ⟨#[]⟩, .slice none 0 0] rfl
    generalize (w.alloc _).alloc _ = w0 at S0 ⊢
    go_wp2_with (first
      | (go_at_call 80; refine (take1_g w _ _ _ _ x1 _ HX1.out S0.r H1.out).mono ?_; rintro e w1 ⟨gb1, cb1, rfl, cell1, R1, O1⟩; have S1 := S0.onR R1 O1; clear S0 R1)
      | (go_at_call 79; refine (bad_g w _ _ _ _ (q1) S1.r H2.out).mono ?_; rintro e w2 ⟨rfl, R2, O2⟩; have S2 := S1.onR R2 O2; clear S1 R2)
      | (go_at_call 81; refine (ended_g w _ _ _ _ _ S2.r H3.out).mono ?_; rintro e w3 ⟨rfl, R3, O3⟩; have S3 := S2.onR R3 O3; clear S2 R3)
      | (go_at_call 80; refine (takeS_g w _ _ _ 20 _ _ _ rfl S3.r (by omega) H4.out).mono ?_; rintro e w4 ⟨A4, c4, rfl, ob, R4, O4⟩; have ltob := S3.lt; have S4 := S3.onR R4 O4; clear S3 R4)
      | ((with_reducible show AtS 5); refine wpl_alloc rfl _ rfl [.string ⟨#[]⟩, .slice none 0 0] (by kernel_rfl) ?_; intro w5 B5 hx5; have S5 : St w _ w4.heap.size _ [.string ⟨#[]⟩, .slice none 0 0] [.string ⟨#[]⟩, .slice none 0 0] := S4.new hx5 (Nat.le_refl _) B5; have obn : ∀ g9, _ := fun g9 (e : _ = some g9) => (ob.ltB (g := g9) e).2; have obq := ob.ext hx5; clear ob; have ob := obq; clear obq; clear S4)
      | ((with_reducible show AtW 103); refine wpl_store_box rfl _ _ _ rfl _ [.string (strL pl), .slice A4 20 c4] rfl rfl S5.b rfl (by kernel_rfl) (by rfl) ?_; intro w6 B6 O6; have S6 : St w _ w4.heap.size _ [.string ⟨#[]⟩, .slice none 0 0] [.string (strL pl), .slice A4 20 c4] := S5.onV B6 O6; have obq := ob.keepB O6 (fun e => by have h9 := (ob.ltB e).1; have h8 := obn _ e; omega); clear ob; have ob := obq; clear obq; clear S5; have p6_1 : w6.cell? ⟨w4.heap.size, 1, none⟩ = some (.slice A4 20 c4) := S6.b.at (j := 1) rfl)
      | (go_at_call 167; refine (nonce_g _ _ _ k1 ob.rd HK1.out).mono ?_; rintro e wx ⟨rfl, rfl⟩)
      | (go_at_call 79; refine (bad_g w _ _ _ _ (!k1) S6.r H5.out).mono ?_; rintro e w7 ⟨rfl, R7, O7⟩; have S7 := S6.onR R7 O7; replace ob := ob.keepB O7 (fun e => by have h9 := (ob.ltB e).1; omega); clear S6 R7)
      | (go_at_call 154; refine (zeros_g1 w _ _ _ _ S7.r H6.out).mono ?_; rintro e w8 ⟨rfl, R8, O8⟩; have S8 := S7.onR R8 O8; replace ob := ob.keepB O8 (fun e => by have h9 := (ob.ltB e).1; omega); clear S7 R8)
      | (go_at_call 85; refine (over_g w _ _ _ _ S8.r H7.out).mono ?_; rintro e w9 ⟨rfl, R9, O9⟩; have S9 := S8.onR R9 O9; replace ob := ob.keepB O9 (fun e => by have h9 := (ob.ltB e).1; omega); clear S8 R9; have p9_1 : w9.cell? ⟨w4.heap.size, 1, none⟩ = some (.slice A4 20 c4) := S9.b.at (j := 1) rfl; have c1 := S9.r.c1)
      | ((with_reducible show AtS 36); refine wpl_load_box rfl _ _ rfl _ rfl S9.b Tryz.underlying103 rfl (by kernel_rfl) ?_)
      | ((with_reducible show AtW 103); refine wpl_store_box rfl _ _ _ rfl _ [.string (strL pl), .slice A4 20 c4] rfl rfl S9.b0 rfl (by kernel_rfl) (by rfl) ?_; intro wz Bz Oz; have obq := ob.keepB Oz (fun e => by have h9 := (ob.ltB e).1; have := w.heap.size; omega); clear ob; have ob := obq; clear obq)
      | fail)
    try simp only [Exit.inBlock, Exit.then]
    refine ret_box rfl rfl rfl rfl Bz Tryz.underlying103 rfl (by kernel_rfl) ?_
    exact ⟨_, rfl, ob.rd, S9.ext.on Oz (Nat.le_refl _)⟩
  · rw [if_neg he]
    have hb : (s7.2 != 0) = true := by simpa using he
    clear he
    go_enter Tryz.func169, Tryz.ntmps169
    go_wp2_with fail
    have S0 : St0 w _ (l, 0) [.string ⟨#[]⟩, .slice none 0 0] := St0.start w _ l HR.out [.string ⟨#[]⟩, .slice none 0 0] 103 114 #[.string ⟨#[]⟩, .slice none 0 0] rfl
    generalize (w.alloc _).alloc _ = w0 at S0 ⊢
    go_wp2_with (first
      | (go_at_call 80; refine (take1_g w _ _ _ _ x1 _ HX1.out S0.r H1.out).mono ?_; rintro e w1 ⟨gb1, cb1, rfl, cell1, R1, O1⟩; have S1 := S0.onR R1 O1; clear S0 R1)
      | (go_at_call 79; refine (bad_g w _ _ _ _ (q1) S1.r H2.out).mono ?_; rintro e w2 ⟨rfl, R2, O2⟩; have S2 := S1.onR R2 O2; clear S1 R2)
      | (go_at_call 81; refine (ended_g w _ _ _ _ _ S2.r H3.out).mono ?_; rintro e w3 ⟨rfl, R3, O3⟩; have S3 := S2.onR R3 O3; clear S2 R3)
      | (go_at_call 80; refine (takeS_g w _ _ _ 20 _ _ _ rfl S3.r (by omega) H4.out).mono ?_; rintro e w4 ⟨A4, c4, rfl, ob, R4, O4⟩; have ltob := S3.lt; have S4 := S3.onR R4 O4; clear S3 R4)
      | ((with_reducible show AtS 5); refine wpl_alloc rfl _ rfl [.string ⟨#[]⟩, .slice none 0 0] (by kernel_rfl) ?_; intro w5 B5 hx5; have S5 : St w _ w4.heap.size _ [.string ⟨#[]⟩, .slice none 0 0] [.string ⟨#[]⟩, .slice none 0 0] := S4.new hx5 (Nat.le_refl _) B5; have obn : ∀ g9, _ := fun g9 (e : _ = some g9) => (ob.ltB (g := g9) e).2; have obq := ob.ext hx5; clear ob; have ob := obq; clear obq; clear S4)
      | ((with_reducible show AtW 103); refine wpl_store_box rfl _ _ _ rfl _ [.string (strL pl), .slice A4 20 c4] rfl rfl S5.b rfl (by kernel_rfl) (by rfl) ?_; intro w6 B6 O6; have S6 : St w _ w4.heap.size _ [.string ⟨#[]⟩, .slice none 0 0] [.string (strL pl), .slice A4 20 c4] := S5.onV B6 O6; have obq := ob.keepB O6 (fun e => by have h9 := (ob.ltB e).1; have h8 := obn _ e; omega); clear ob; have ob := obq; clear obq; clear S5; have p6_1 : w6.cell? ⟨w4.heap.size, 1, none⟩ = some (.slice A4 20 c4) := S6.b.at (j := 1) rfl)
      | (go_at_call 167; refine (nonce_g _ _ _ k1 ob.rd HK1.out).mono ?_; rintro e wx ⟨rfl, rfl⟩)
      | (go_at_call 79; refine (bad_g w _ _ _ _ (!k1) S6.r H5.out).mono ?_; rintro e w7 ⟨rfl, R7, O7⟩; have S7 := S6.onR R7 O7; replace ob := ob.keepB O7 (fun e => by have h9 := (ob.ltB e).1; omega); clear S6 R7)
      | (go_at_call 154; refine (zeros_g1 w _ _ _ _ S7.r H6.out).mono ?_; rintro e w8 ⟨rfl, R8, O8⟩; have S8 := S7.onR R8 O8; replace ob := ob.keepB O8 (fun e => by have h9 := (ob.ltB e).1; omega); clear S7 R8)
      | (go_at_call 85; refine (over_g w _ _ _ _ S8.r H7.out).mono ?_; rintro e w9 ⟨rfl, R9, O9⟩; have S9 := S8.onR R9 O9; replace ob := ob.keepB O9 (fun e => by have h9 := (ob.ltB e).1; omega); clear S8 R9; have p9_1 : w9.cell? ⟨w4.heap.size, 1, none⟩ = some (.slice A4 20 c4) := S9.b.at (j := 1) rfl; have c1 := S9.r.c1)
      | ((with_reducible show AtW 103); refine wpl_store_box rfl _ _ _ rfl _ [.string ⟨#[]⟩, .slice none 0 0] rfl rfl S9.b0 rfl (by kernel_rfl) (by rfl) ?_; intro wz Bz Oz; have obq := ob.keepB Oz (fun e => by have h9 := (ob.ltB e).1; have := w.heap.size; omega); clear ob; have ob := obq; clear obq)
      | fail)
    try simp only [Exit.inBlock, Exit.then]
    refine ret_box rfl rfl rfl rfl Bz Tryz.underlying103 rfl (by kernel_rfl) ?_
    exact ⟨_, rfl, Rd.nil _, S9.ext.on Oz (Nat.le_refl _)⟩
end Go.Proofs.YtbodppfpmpmadaaGreat

namespace Go.Proofs.YtbodppfpmpmadaaGreat
open Go.ChangeShapes Go.WideShapes Go.ChangeAt Go.RowKit

theorem wf_u8L {x : Int} (h : (Lit.int .u8 x).wf = true) : 0 ≤ x ∧ x < 256 := by
  simp [Lit.wf, IntKind.min, IntKind.max, IntKind.signed, IntKind.bits] at h
  omega
instance : Inhabited UserV := ⟨userZ⟩
section
variable {H : Type} {enc : TypeId × Value → H} {w : World} {r : Reach} {b0 : Nat}
def Bls (w : World) (v : Value) (bs : List Bool) : Prop := Cells w v bs.length (fun j => .bool (bs.getD j false))
theorem Bls.ext {w w' : World} {v : Value} {bs : List Bool} (h : Bls w v bs) (k : Ext w w') : Bls w' v bs := by
  obtain ⟨A, cap, h1, h2, h3, h4⟩ := h
  refine ⟨A, cap, h1, h2, h3, fun hn => ?_⟩
  obtain ⟨b, o, hA, hc⟩ := h4 hn
  exact ⟨b, o, hA, fun j hj => k.cell (hc j hj)⟩
end
end Go.Proofs.YtbodppfpmpmadaaGreat

