import Derived.Test.YtbodppfpmpmadaaGreatL7C
import Derived.Test.YtbodppfpmpmadaaGreatGrHC
import Derived.Maps.OwnSet
import Derived.Carry
import Derived.Test.YtbodppfpmpmadaaGreatGrIC
import Derived.Laws.BitsAllLaws
import Derived.Test.YtbodppfpmpmadaaGreatL10C
import Derived.Deep.RegionHeld3
import Derived.Test.YtbodppfpmpmadaaGreatGrN1C
import Derived.Test.YtbodppfpmpmadaaGreatGrN2C
import Derived.Test.YtbodppfpmpmadaaGreatGrJC
import Derived.Test.YtbodppfpmpmadaaGreatGrJrC
namespace Go.Proofs.YtbodppfpmpmadaaGreat
open Go.RowKit

def fnLook (g : Nat) : Value := .func (.func 87) #[.pointer (some ⟨g, 0, none⟩)] #[]
set_option maxHeartbeats 1000000 in
theorem dchange_known (w : World) (g : Nat) (cs : List Value) (pl n : List UInt8) (A : Option Addr) (k cp : Nat) (B : BoxF w g cs) (hl : cs.length = 19) (h3 : cs[3]? = some (.slice A k cp)) (h14 : cs[14]? = some (.string (strL pl))) (h17 : cs[17]? = some (.bool true))
    (hn : ∀ w', On g w w' → Rd w' (.slice A k cp) n) (hok : switchOk (pl, n)) (hp : pl.length ≤ 10000) :
    Calls Tryz.prog 45 #[.pointer (some ⟨g, 0, none⟩)] w fun e w' => ∃ v, e = .returned v ∧
      ListsN w' w.heap.size v [switchB (pl, n)] ∧ BoxF w' g (cs.set 11 (fnLook g)) ∧ On g w w' := by
  have HL := Lib.hid hl
  have HN := Lib.hid hn
  have HOK := Lib.hid hok
  have HP := Lib.hid hp
  have H3 := Lib.hid h3
  have H14 := Lib.hid h14
  have H17 := Lib.hid h17
  have hgl := B.lt
  obtain ⟨F, hF⟩ : ∃ F, F = switchB (pl, n) := ⟨_, rfl⟩
  have HF := Lib.hid hF
  have HB := Lib.hid B
  clear B hl hn hok hp h3 h14 h17 hF
  go_enter Tryz.func45, Tryz.ntmps45
  go_upto_region 1 with fail
  generalize hW0 : w.alloc _ = w0
  have hx0 : Ext w w0 := by rw [← hW0]; exact (Ext.refl w).alloc _
  have hh : w0.cell? ⟨w.heap.size, 0, none⟩ = some (.pointer (some ⟨g, 0, none⟩)) := by rw [← hW0]; exact Box.new w [_] _ 0 (by simp)
  have hs0 : w.heap.size < w0.heap.size := by rw [← hW0]; simp
  clear hW0
  have HX0 := Lib.hid hx0
  have B0 := HB.out.ext hx0
  have c3 := B0.at H3.out
  clear hx0
  go_wp2_with (first
    | ((with_reducible show AtS 3); refine wpl_alloc rfl _ rfl [.string ⟨#[]⟩, .slice none 0 0] (by kernel_rfl) ?_; intro w1 Bs hx1)
    | ((with_reducible show AtW 103); refine wpl_store_box rfl _ _ _ rfl _ [.string _, .slice A k cp] rfl rfl Bs rfl (by kernel_rfl) (by rfl) ?_; intro w2 Bs2 Os; have e2 : Ext w0 w2 := hx1.on Os (Nat.le_refl _); have B2 := B0.ext e2; have hh2 := Ext.cell e2 hh; clear Bs hx1 Os B0 hh c3)
    | ((with_reducible show AtW 30); refine wpl_store_cell rfl _ _ _ rfl g 11 (fnLook g) rfl rfl rfl rfl (by kernel_rfl) B2 (by have := HL.out; omega) ?_; intro w3 B3 O3; have Bs3 := Bs2.on O3 (by omega); have hh3 := On.cell O3 hh2 (by show w.heap.size ≠ g; omega); have c17 := B3.at (j := 17) (by rw [List.getElem?_set_ne (by decide)]; exact H17.out); have c14 := B3.at (j := 14) (by rw [List.getElem?_set_ne (by decide)]; exact H14.out); clear hh2 B2 Bs2)
    | ((with_reducible show AtW 9); refine wpl_store_cell rfl _ _ _ rfl w0.heap.size 0 (.string (strL pl)) rfl rfl rfl rfl (by kernel_rfl) Bs3 (by simp) ?_; intro w4 Bs4 O4; clear hh3 c17 c14)
    | ((with_reducible show AtS 32); refine wpl_load_box rfl _ _ rfl _ rfl Bs4 Tryz.underlying103 rfl (by kernel_rfl) ?_)
    | (go_at_call 90; have hO4 : On g w w4 := On.onNew (((On.of HX0.out).ext e2).trans O3) O4 (Ext.size HX0.out); refine (appendSwitch_g _ pl n _ (HN.out _ hO4) HOK.out HP.out).mono ?_; rintro e w5 ⟨v5, rfl, ho5, hx5⟩; rw [← HF.out] at ho5; obtain ⟨A5, c5, hv5, _⟩ := id ho5.rd; subst hv5)
    | fail)
  go_ret
  refine ⟨_, rfl, ?_, ?_, (hO4.ext hx5).ext ((Ext.refl _).alloc _)⟩
  · rw [← HF.out]
    exact lists_one (u := _) (Nat.le_trans (On.size hO4) (Ext.size hx5)) (Box.new w5 [_] _ 0 (by simp)) ((ho5.more (On.size hO4)).ext ((Ext.refl _).alloc _))
  · exact ((B3.on O4 (by omega)).ext hx5).ext ((Ext.refl _).alloc _)
def fnNobody (h : Nat) : Value := .func (.func 88) #[] #[.pointer (some ⟨h, 0, none⟩)]
set_option maxHeartbeats 1000000 in
theorem dchange_unknown (w : World) (g : Nat) (cs : List Value) (n : List UInt8) (A : Option Addr) (k cp : Nat) (B : BoxF w g cs) (hl : cs.length = 19) (h3 : cs[3]? = some (.slice A k cp)) (h17 : cs[17]? = some (.bool false))
    (hn : ∀ w', On g w w' → Rd w' (.slice A k cp) n) (hok : switchOk (natL, n)) :
    Calls Tryz.prog 45 #[.pointer (some ⟨g, 0, none⟩)] w fun e w' => ∃ v h, e = .returned v ∧ w'.cell? ⟨h, 0, none⟩ = some (.pointer (some ⟨g, 0, none⟩)) ∧ w.heap.size ≤ h ∧
      ListsN w' w.heap.size v [switchB (natL, n)] ∧ BoxF w' g (cs.set 11 (fnNobody h)) ∧ On g w w' := by
  have HL := Lib.hid hl
  have HN := Lib.hid hn
  have HOK := Lib.hid hok
  have H3 := Lib.hid h3
  have H17 := Lib.hid h17
  have hgl := B.lt
  obtain ⟨F, hF⟩ : ∃ F, F = switchB (natL, n) := ⟨_, rfl⟩
  have HF := Lib.hid hF
  have HB := Lib.hid B
  clear B hl hn hok h3 h17 hF
  go_enter Tryz.func45, Tryz.ntmps45
  go_upto_region 1 with fail
  generalize hW0 : w.alloc _ = w0
  have hx0 : Ext w w0 := by rw [← hW0]; exact (Ext.refl w).alloc _
  have hh : w0.cell? ⟨w.heap.size, 0, none⟩ = some (.pointer (some ⟨g, 0, none⟩)) := by rw [← hW0]; exact Box.new w [_] _ 0 (by simp)
  have hs0 : w.heap.size < w0.heap.size := by rw [← hW0]; simp
  clear hW0
  have HX0 := Lib.hid hx0
  have B0 := HB.out.ext hx0
  have c3 := B0.at H3.out
  clear hx0
  go_wp2_with (first
    | ((with_reducible show AtS 3); refine wpl_alloc rfl _ rfl [.string ⟨#[]⟩, .slice none 0 0] (by kernel_rfl) ?_; intro w1 Bs hx1)
    | ((with_reducible show AtW 103); refine wpl_store_box rfl _ _ _ rfl _ [.string _, .slice A k cp] rfl rfl Bs rfl (by kernel_rfl) (by rfl) ?_; intro w2 Bs2 Os; have e2 : Ext w0 w2 := hx1.on Os (Nat.le_refl _); have B2 := B0.ext e2; have hh2 := Ext.cell e2 hh; clear Bs hx1 Os B0 hh c3)
    | ((with_reducible show AtW 30); have _t := B2; refine wpl_store_cell rfl _ _ _ rfl g 11 (fnLook g) rfl rfl rfl rfl (by kernel_rfl) B2 (by have := HL.out; omega) ?_; intro w3 B3 O3; have Bs3 := Bs2.on O3 (by omega); have hh3 := On.cell O3 hh2 (by show w.heap.size ≠ g; omega); have c17 := B3.at (j := 17) (by rw [List.getElem?_set_ne (by decide)]; exact H17.out); clear hh2 B2 Bs2)
    | ((with_reducible show AtW 30); have _t := B3; refine wpl_store_cell rfl _ _ _ rfl g 11 (fnNobody w.heap.size) rfl rfl rfl rfl (by kernel_rfl) B3 (by rw [List.length_set]; have := HL.out; omega) ?_; intro w4 B4 O4; rw [List.set_set] at B4; have Bs4 := Bs3.on O4 (by omega); have hh4 := On.cell O4 hh3 (by show w.heap.size ≠ g; omega); clear hh3 B3 Bs3 c17)
    | ((with_reducible show AtS 32); refine wpl_load_box rfl _ _ rfl _ rfl Bs4 Tryz.underlying103 rfl (by kernel_rfl) ?_)
    | (go_at_call 90; have hO4 : On g w w4 := (((On.of HX0.out).ext e2).trans O3).trans O4; refine (appendSwitch_g _ natL n _ (HN.out _ hO4) HOK.out (by decide)).mono ?_; rintro e w5 ⟨v5, rfl, ho5, hx5⟩; rw [← HF.out] at ho5; obtain ⟨A5, c5, hv5, _⟩ := id ho5.rd; subst hv5)
    | fail)
  go_ret
  refine ⟨_, w.heap.size, rfl, Ext.cell (hx5.trans ((Ext.refl _).alloc _)) hh4, Nat.le_refl _, ?_, ?_, (hO4.ext hx5).ext ((Ext.refl _).alloc _)⟩
  · rw [← HF.out]
    exact lists_one (u := _) (Nat.le_trans (On.size hO4) (Ext.size hx5)) (Box.new w5 [_] _ 0 (by simp)) ((ho5.more (On.size hO4)).ext ((Ext.refl _).alloc _))
  · exact (B4.ext hx5).ext ((Ext.refl _).alloc _)
end Go.Proofs.YtbodppfpmpmadaaGreat

namespace Go.Proofs.YtbodppfpmpmadaaGreat
open Go.RowKit

set_option maxHeartbeats 2000000 in
theorem look_nat (w : World) (g : Nat) (cs : List Value) (c : Int) (pw l n : List UInt8) (vb : Value) (A : Option Addr) (k cp : Nat) (B : BoxF w g cs) (hl : cs.length = 19) (h3 : cs[3]? = some (.slice A k cp)) (h10 : cs[10]? = some (.int .u32 c)) (h13 : cs[13]? = some (.string (strL pw))) (h14 : cs[14]? = some (.string (strL natL)))
    (hn : Rd w (.slice A k cp) n) (hr : Rd w vb l) (hp : pw.length ≤ 1000000) :
    Calls Tryz.prog 87 #[.pointer (some ⟨g, 0, none⟩), vb] w fun e w' => ∃ v, e = .returned v ∧
      ListsN w' w.heap.size v [if l == respP 1 pw n then okL c else refusedL] ∧ BoxF w' g (cs.set 9 (.int .i64 (if l == respP 1 pw n then 2 else 3))) ∧ On g w w' := by
  have HB := Lib.hid B
  have HL := Lib.hid hl
  have H10 := Lib.hid h10
  have H14 := Lib.hid h14
  have HR := Lib.hid hr
  have HN := Lib.hid hn
  have HP := Lib.hid hp
  obtain ⟨Ab, cb, rfl, _⟩ := hr
  have c3 := B.at h3
  have c13 := B.at h13
  have c14 := B.at h14
  obtain ⟨q, hq⟩ : ∃ q, q = (l == respP 1 pw n) := ⟨_, rfl⟩
  rw [← hq]
  have HQ := Lib.hid (show (l == respPl natL pw n) = q by rw [hq]; rfl)
  have g4 : ((strL natL).toList == [109, 121, 115, 113, 108, 95, 110, 97, 116, 105, 118, 101, 95, 112, 97, 115, 115, 119, 111, 114, 100]) = true := by rw [strL_tl]; rfl
  clear B hl h3 h10 h13 h14 hn hp hq
  have HG := Lib.hid g4
  obtain ⟨t, ht⟩ : ∃ t, t = strL natL := ⟨_, rfl⟩
  rw [← ht] at c14 g4
  have HT := Lib.hid ht
  clear ht
  go_enter Tryz.func87, Tryz.ntmps87
  go_wp2_with fail
  have hY := Ext.refl w
  go_region_held3 (fun W' => W'.cell? ⟨g, 3, none⟩ = some (.slice A k cp) ∧ W'.cell? ⟨g, 13, none⟩ = some (.string (strL pw)) ∧ W'.cell? ⟨g, 14, none⟩ = some (.string t) ∧ Ext w W')
    ((refine (fun h => ⟨Ext.cell h c3, Ext.cell h c13, Ext.cell h c14, h⟩) ?_; repeat' (first | with_reducible exact hY | (with_reducible refine Ext.drew ?_) | (with_reducible refine Ext.alloc ?_ _))))
    (first
      | (go_at_call 123; go_must (rw [HT.out]; refine (dresponse_c _ natL pw _ n HP.out (HN.out.ext (Ext.refl _).drew)).mono ?_; rintro e w1 ⟨v1, rfl, hr1, hx1⟩; replace hY : Ext w w1 := (Ext.refl _).drew.trans hx1))
      | (go_at_call 139; go_must (refine (equalS_c _ _ _ l _ (HR.out.ext hY) hr1).mono ?_; rintro e w2 ⟨rfl, hx2⟩; rw [HQ.out]; replace hY := hY.trans hx2))
      | fail)
  all_goals
    have HY := Lib.hid hY
    have HB2 := Lib.hid (HB.out.ext hY)
    have d14 := Ext.cell hY c14
    clear c3 c13 c14 hY hr1 hx1 hx2
    cases q with
    | true =>
      go_wp2_with (first
        | (go_at_call 140; refine (in_nil_c _ g cs c HB2.out HL.out H10.out).mono ?_; rintro e w3 ⟨v3, rfl, hl3, B3, O3⟩)
        | fail)
      go_ret
      exact ⟨_, rfl, hl3.more (Ext.size HY.out), B3, (On.of HY.out).trans O3⟩
    | false =>
      go_wp2_with (first
        | (go_at_call 89; refine (refused_c _).mono ?_; rintro e w3 ⟨v3, rfl, hl3, hx3⟩; have B3 := HB2.out.ext hx3)
        | (go_at_call 41; refine (dfail_c _ g cs _ B3 HL.out).mono ?_; rintro e w4 ⟨rfl, B4, O4⟩)
        | fail)
      go_ret
      exact ⟨_, rfl, (hl3.on O4 HB2.out.lt).more (Ext.size HY.out), B4, ((On.of HY.out).ext hx3).trans O4⟩
end Go.Proofs.YtbodppfpmpmadaaGreat

namespace Go.Proofs.YtbodppfpmpmadaaGreat
open Go.RowKit

def setAll (cs : List Value) (o : Nat) : List Value → List Value
  | [] => cs
  | v :: r => setAll (cs.set o v) (o + 1) r
theorem setAll_length : ∀ (vs cs : List Value) (o : Nat), (setAll cs o vs).length = cs.length
  | [], _, _ => rfl
  | v :: r, cs, o => by rw [setAll, setAll_length r, List.length_set]
theorem BoxF.setsAt : ∀ (vs : List Value) {W : World} {g : Nat} {cs : List Value} (_ : BoxF W g cs) (o : Nat), BoxF (W.setCells g o vs) g (setAll cs o vs)
  | [], _, _, _, h, _ => h
  | v :: r, _, _, _, h, o => BoxF.setsAt r (h.set o v) (o + 1)
theorem BoxF.thereAt {W : World} {g : Nat} {cs : List Value} (h : BoxF W g cs) (o n : Nat) (hn : o + n ≤ cs.length) : W.there g o n := fun j hj =>
  ⟨by rw [h.box (o + j) (by omega)]; rfl, h.free (o + j) (by omega)⟩
section
variable {P : Program} {ops : Array Oper} {rest : List Oper} {o : Oper} {a : Act} {w : World} {Q : Exit → Act → World → Prop}
theorem wpl_store_at (hgd : o.guard = none) (ty : TypeId) (x y : Operand) (ho : o.op = .store ty x y) (g k : Nat) (ds : List Value) (hx : a.eval x = .pointer (some ⟨g, k, none⟩)) (hy : a.eval y = .agg ds.toArray)
    {cs : List Value} (B : BoxF w g cs) (hl : k + ds.length ≤ cs.length) (hi : (P.info? ty).map (·.size) = some ds.length) (h1 : ds.all (·.oneCell') = true)
    (h : ∀ w', BoxF w' g (setAll cs k ds) → On g w w' → wpList P ops Q rest (a.put o.dst undef) w') : wpList P ops Q (o :: rest) a w :=
  wpList_store_mid hgd ty x y ho g k ds.toArray hx hy (by have := B.thereAt k ds.length hl; simpa using this) (by simpa using hi) (by simpa using h1) (h _ (by simpa using BoxF.setsAt ds B k) (by simpa using On.sets w k ds))
end
end Go.Proofs.YtbodppfpmpmadaaGreat

namespace Go.Proofs.YtbodppfpmpmadaaGreat
open Go.RowKit

def whoC (cs : List Value) (u : UserV) (kn : Bool) (sc : List UInt8) : List Value :=
  ((setAll cs 12 (userC u)).set 17 (.bool kn)).set 18 (.string (strL (if sc.isEmpty then u.sc else sc)))
theorem who_15 (cs : List Value) (a b c d e : Value) (hl : cs.length = 19) : (setAll cs 12 [a, b, c, d, e])[15]? = some d := by
  simp [setAll, hl]
set_option maxHeartbeats 1000000 in
theorem who_c (w : World) (g b : Nat) (cs : List Value) (nm : ByteArray) (sc u1 u2 u3 u4 : List UInt8) (ad kn : Bool) (B : BoxF w g cs) (hl : cs.length = 19) (h0 : cs[0]? = some (.map (some b)))
    (hlk : (Instr.lookup 24 (.map (some b)) (.string nm) true).run Tryz.prog w = .ok (.tuple #[.agg #[.string (strL u1), .string (strL u2), .string (strL u3), .string (strL u4), .bool ad], .bool kn]) w) :
    Calls Tryz.prog 44 #[.pointer (some ⟨g, 0, none⟩), .string nm, .string (strL sc)] w fun e w' => e = .returned (.tuple #[]) ∧ BoxF w' g (whoC cs ⟨u1, u2, u3, u4, ad⟩ kn sc) ∧ On g w w' := by
  have HB := Lib.hid B
  have HL := Lib.hid hl
  have c0 := B.at h0
  obtain ⟨q, hq⟩ : ∃ q, sc.isEmpty = q := ⟨_, rfl⟩
  have e4 : (strL sc).toList.isEmpty = q := by rw [strL_tl]; exact hq
  unfold whoC
  rw [hq]
  clear B hl h0 hq
  cases q
  all_goals
    go_enter Tryz.func44, Tryz.ntmps44
    go_wp2_with (first
      | ((with_reducible show AtW 32); refine wpl_store_at rfl _ _ _ rfl g 12 [.string (strL u1), .string (strL u2), .string (strL u3), .string (strL u4), .bool ad] rfl rfl HB.out (by have := HL.out; simp; omega) (by kernel_rfl) (by rfl) ?_; intro w1 B1 O1; clear c0 hlk)
      | ((with_reducible show AtW 4); refine wpl_store_cell rfl _ _ _ rfl g 17 (.bool kn) rfl rfl rfl rfl (by kernel_rfl) B1 (by rw [setAll_length]; have := HL.out; omega) ?_; intro w2 B2 O2)
      | ((with_reducible show AtW 9); have _t := B1; refine wpl_store_cell rfl _ _ _ rfl g 18 (.string (strL sc)) rfl rfl rfl rfl (by kernel_rfl) B2 (by rw [List.length_set, setAll_length]; have := HL.out; omega) ?_; intro w3 B3 O3; clear B1; have c15 := B3.at (j := 15) (v := .string (strL u4)) (by rw [List.getElem?_set_ne (by decide), List.getElem?_set_ne (by decide)]; exact who_15 cs _ _ _ _ _ HL.out))
      | ((with_reducible show AtW 9); refine wpl_store_cell rfl _ _ _ rfl g 18 (.string (strL u4)) rfl rfl rfl rfl (by kernel_rfl) B3 (by rw [List.length_set, List.length_set, setAll_length]; have := HL.out; omega) ?_; intro w4 B4 O4; rw [List.set_set] at B4)
      | fail)
  · refine bodyPost_end (results_none rfl _ _ _) rfl ?_
    exact ⟨rfl, B3, (O1.trans O2).trans O3⟩
  · refine bodyPost_end (results_none rfl _ _ _) rfl ?_
    exact ⟨rfl, B4, ((O1.trans O2).trans O3).trans O4⟩
end Go.Proofs.YtbodppfpmpmadaaGreat

namespace Go.Proofs.YtbodppfpmpmadaaGreat
open Go.RowKit

def user0 : List Value := [.string ⟨#[]⟩, .string ⟨#[]⟩, .string ⟨#[]⟩, .string ⟨#[]⟩, .bool false]
set_option maxHeartbeats 1000000 in
theorem duser_c (w : World) (g : Nat) (cs : List Value) (st : Int) (n p l s : List UInt8) (ad : Bool) (B : BoxF w g cs) (h9 : cs[9]? = some (.int .i64 st)) (hu : (cs.drop 12).take 5 = [.string (strL n), .string (strL p), .string (strL l), .string (strL s), .bool ad]) :
    Calls Tryz.prog 12 #[.pointer (some ⟨g, 0, none⟩)] w fun e w' => e = .returned (.agg (if st = 2 then [.string (strL n), .string (strL p), .string (strL l), .string (strL s), .bool ad] else user0).toArray) ∧ Ext w w' := by
  have HB := Lib.hid B
  have HU := Lib.hid hu
  have c9 := B.at h9
  clear B h9 hu
  by_cases hq : st = 2
  · subst hq
    rw [if_pos rfl]
    go_enter Tryz.func12, Tryz.ntmps12
    go_wp2_with (first
      | ((with_reducible show AtS 2); refine wpl_alloc rfl _ rfl user0 (by kernel_rfl) ?_; intro w1 B1 hx1; have d9 := Ext.cell hx1 c9; clear c9)
      | (go_at_call 47; refine (ddone_c _ g 2 d9).mono ?_; rintro e wx ⟨rfl, rfl⟩)
      | ((with_reducible show AtS 10); refine wpl_load_p rfl _ _ rfl g 12 rfl [.string (strL n), .string (strL p), .string (strL l), .string (strL s), .bool ad] _ ((HB.out.ext hx1).box.part 5 HU.out) Tryz.underlying32 rfl (by kernel_rfl) ?_)
      | ((with_reducible show AtW 32); refine wpl_store_box rfl _ _ _ rfl _ [.string (strL n), .string (strL p), .string (strL l), .string (strL s), .bool ad] rfl rfl B1 rfl (by kernel_rfl) (by rfl) ?_; intro w2 B2 O2)
      | fail)
    try simp only [Exit.inBlock, Exit.then]
    refine ret_box1 rfl rfl rfl B2 Tryz.underlying32 rfl (by kernel_rfl) ?_
    exact ⟨rfl, hx1.on O2 (Nat.le_refl _)⟩
  · rw [if_neg hq]
    have HQ := Lib.hid (show (st == 2) = false by simp [hq])
    clear hq
    go_enter Tryz.func12, Tryz.ntmps12
    go_wp2_with (first
      | ((with_reducible show AtS 2); refine wpl_alloc rfl _ rfl user0 (by kernel_rfl) ?_; intro w1 B1 hx1; have d9 := Ext.cell hx1 c9; clear c9)
      | (go_at_call 47; refine (ddone_c _ g st d9).mono ?_; rintro e wx ⟨rfl, rfl⟩; rw [HQ.out])
      | ((with_reducible show AtW 32); refine wpl_store_box rfl _ _ _ rfl _ user0 rfl rfl B1 rfl (by kernel_rfl) (by rfl) ?_; intro w2 B2 O2)
      | fail)
    try simp only [Exit.inBlock, Exit.then]
    refine ret_box1 rfl rfl rfl B2 Tryz.underlying32 rfl (by kernel_rfl) ?_
    exact ⟨rfl, hx1.on O2 (Nat.le_refl _)⟩
end Go.Proofs.YtbodppfpmpmadaaGreat

namespace Go.Proofs.YtbodppfpmpmadaaGreat
open Go.RowKit
open Go.Maps (Keyed)

structure DoorV where
  us : List UserV
  gc : Int
  n : List UInt8
  hello : List UInt8
  st : Int
  c : Int
  nx : Nat
  u : UserV
  kn : Bool
  sc : List UInt8
def userZ : UserV := ⟨[], [], [], [], false⟩
def findU (us : List UserV) (nm : List UInt8) : Option UserV := us.foldl (fun a u => if u.name == nm then some u else a) none
def lookP (D : DoorV) (l : List UInt8) : List (List UInt8) × DoorV :=
  if l == respPl D.u.pl D.u.pw D.n then
    (if D.u.pl == natL then ([okL D.c], { D with st := 2 }) else if l.isEmpty then ([okL D.c], { D with st := 2 }) else ([[1, 3], okL D.c], { D with st := 2 }))
  else if D.u.pl == natL then ([refusedL], { D with st := 3 }) else ([[1, 4]], { D with nx := 2 })
def changeP (D : DoorV) : List (List UInt8) × DoorV :=
  if D.kn then ([switchB (D.u.pl, D.n)], { D with nx := 1 }) else ([switchB (natL, D.n)], { D with nx := 3 })
def whoP (D : DoorV) (nm sc : List UInt8) : DoorV :=
  { D with u := (findU D.us nm).getD userZ, kn := (findU D.us nm).isSome, sc := if sc.isEmpty then ((findU D.us nm).getD userZ).sc else sc }
def answerP (D : DoorV) (l : List UInt8) : List (List UInt8) × DoorV :=
  if (overP answerM ans0 l).2 = 0 then
    (if checkC (bothC D.gc (overP answerM ans0 l).1.caps) = 0 then
      (if (whoP { D with c := bothC D.gc (overP answerM ans0 l).1.caps } (overP answerM ans0 l).1.user (overP answerM ans0 l).1.db).kn && (overP answerM ans0 l).1.pl == (whoP { D with c := bothC D.gc (overP answerM ans0 l).1.caps } (overP answerM ans0 l).1.user (overP answerM ans0 l).1.db).u.pl then
        lookP (whoP { D with c := bothC D.gc (overP answerM ans0 l).1.caps } (overP answerM ans0 l).1.user (overP answerM ans0 l).1.db) (overP answerM ans0 l).1.resp
      else changeP (whoP { D with c := bothC D.gc (overP answerM ans0 l).1.caps } (overP answerM ans0 l).1.user (overP answerM ans0 l).1.db))
    else ([oddL], { D with st := 3 }))
  else ([oddL], { D with st := 3 })
def fullP (D : DoorV) (l : List UInt8) : List (List UInt8) × DoorV :=
  if l == D.u.pw ++ [0] then ([okL D.c], { D with st := 2 }) else ([refusedL], { D with st := 3 })
def nextP (D : DoorV) (l : List UInt8) : List (List UInt8) × DoorV :=
  match D.nx with
  | 0 => answerP D l
  | 1 => lookP D l
  | 2 => fullP D l
  | _ => ([refusedL], { D with st := 3 })
def feedP (D : DoorV) (l : List UInt8) : List (List UInt8) × Int × DoorV :=
  if D.st = 0 then ([], 1, D) else if D.st = 1 then ((nextP D l).1, 0, (nextP D l).2) else ([], 9, D)

theorem findU_snoc (us : List UserV) (u : UserV) (nm : List UInt8) : findU (us ++ [u]) nm = if u.name == nm then some u else findU us nm := by
  unfold findU
  rw [List.foldl_append]
  rfl

abbrev TM : TypeId := 24
abbrev TS : TypeId := 9
theorem lawS : Keyed Tryz.prog TS := Go.Maps.string_keyed Tryz.underlying9
def userR (v : Value) : Option (DataW Unit × List MemPlace) :=
  match v with
  | .agg cs => match cs.toList with
    | [.string n, .string p, .string l, .string s, .bool a] => some (.agg [.lit (.string n.data.toList), .lit (.string p.data.toList), .lit (.string l.data.toList), .lit (.string s.data.toList), .lit (.bool a)], [])
    | _ => none
  | _ => none
def userD (u : UserV) : DataW Unit := .agg [.lit (.string u.name), .lit (.string u.pw), .lit (.string u.pl), .lit (.string u.sc), .lit (.bool u.adm)]
theorem userR_mk (u : UserV) : userR (.agg #[.string (strL u.name), .string (strL u.pw), .string (strL u.pl), .string (strL u.sc), .bool u.adm]) = some (userD u, []) := rfl
theorem userR_inv {v : Value} {u : UserV} {ps : List MemPlace} (h : userR v = some (userD u, ps)) : v = .agg #[.string (strL u.name), .string (strL u.pw), .string (strL u.pl), .string (strL u.sc), .bool u.adm] := by
  unfold userR at h
  split at h
  · rename_i cs
    split at h
    · rename_i n p l s a hc
      simp only [userD, Option.some.injEq, Prod.mk.injEq, DataW.agg.injEq, List.cons.injEq, DataW.lit.injEq, Lit.string.injEq, Lit.bool.injEq] at h
      obtain ⟨⟨h1, h2, h3, h4, h5, _⟩, _⟩ := h
      have e : cs = #[.string n, .string p, .string l, .string s, .bool a] := by
        apply Array.toList_inj.1
        rw [hc]
      rw [e, ← h1, ← h2, ← h3, ← h4, ← h5, strL_of, strL_of, strL_of, strL_of]
    · cases h
  · cases h
def usD (us : List UserV) : DataW Unit := us.foldl (fun D u => D.put (.string u.name) (userD u)) (.map [])
theorem usD_snoc (us : List UserV) (u : UserV) : usD (us ++ [u]) = (usD us).put (.string u.name) (userD u) := by
  unfold usD
  rw [List.foldl_append]
  rfl
theorem list_snoc_induct {α : Type} {p : List α → Prop} (h0 : p []) (h1 : ∀ l a, p l → p (l ++ [a])) (l : List α) : p l := by
  have : ∀ k : List α, p k.reverse := by
    intro k
    induction k with
    | nil => exact h0
    | cons a k ih =>
      rw [List.reverse_cons]
      exact h1 _ _ ih
  have h := this l.reverse
  rwa [List.reverse_reverse] at h
theorem usD_isMap (us : List UserV) : Maps.IsMap (usD us) := by
  induction us using list_snoc_induct with
  | h0 => exact Maps.isMap_empty
  | h1 us u ih => rw [usD_snoc]; exact ih.put _ _
theorem usD_has (us : List UserV) (nm : List UInt8) : Maps.has (usD us) (.string nm) = (findU us nm).isSome := by
  induction us using list_snoc_induct with
  | h0 => rfl
  | h1 us u ih =>
    rw [usD_snoc, findU_snoc]
    by_cases e : u.name = nm
    · subst e
      rw [Maps.has_put_same (usD_isMap us) (k := .string u.name) trivial]
      simp
    · rw [Maps.has_put_other (by intro h; injection h with h; exact e h.symm)]
      have : (u.name == nm) = false := by simpa using e
      rw [this, ih]
      rfl
theorem usD_at (us : List UserV) (nm : List UInt8) : (usD us).atKey (.string nm) (userD userZ) = userD ((findU us nm).getD userZ) := by
  induction us using list_snoc_induct with
  | h0 => rfl
  | h1 us u ih =>
    rw [usD_snoc, findU_snoc]
    by_cases e : u.name = nm
    · subst e
      rw [Maps.atKey_put_same (usD_isMap us) (k := .string u.name) trivial]
      simp
    · rw [Maps.atKey_put_other (by intro h; injection h with h; exact e h.symm)]
      have : (u.name == nm) = false := by simpa using e
      rw [this, ih]
      rfl
theorem zeroU (w : World) : (zeroValue 32).run Tryz.prog w = .ok (.agg #[.string ⟨#[]⟩, .string ⟨#[]⟩, .string ⟨#[]⟩, .string ⟨#[]⟩, .bool false]) w := by kernel_rfl
def MapU (w : World) (b : Nat) (us : List UserV) : Prop := ∃ n, w.ownsMap Tryz.prog TS userR b n (usD us)
theorem MapU.on {g : Nat} {w w' : World} {b : Nat} {us : List UserV} (h : MapU w b us) (k : On g w w') (hne : b ≠ g) : MapU w' b us := by
  obtain ⟨n, h⟩ := h
  exact ⟨n, h.kept k (by intro e; injection e with e; exact hne e)⟩
theorem MapU.ext {w w' : World} {b : Nat} {us : List UserV} (h : MapU w b us) (k : Ext w w') : MapU w' b us := by
  obtain ⟨n, h⟩ := h
  exact ⟨n, h.kept (row := none) ⟨k.os, k.tape, k.output, Ext.size k, fun i hi _ => k.block i hi⟩ (by simp)⟩
theorem MapU.lt {w : World} {b : Nat} {us : List UserV} (h : MapU w b us) : b < w.heap.size := by
  obtain ⟨n, h⟩ := h
  exact h.lt
theorem MapU.look {w : World} {b : Nat} {us : List UserV} (h : MapU w b us) (nm : List UInt8) (hn : nm.length ≤ maxLen) {u : UserV} {kn : Bool} (hu : (findU us nm).getD userZ = u) (hk : (findU us nm).isSome = kn) :
    (Instr.lookup TM (.map (some b)) (.string (strL nm)) true).run Tryz.prog w = .ok (.tuple #[.agg #[.string (strL u.name), .string (strL u.pw), .string (strL u.pl), .string (strL u.sc), .bool u.adm], .bool kn]) w := by
  obtain ⟨n, h⟩ := h
  obtain ⟨v, ps, hr, hv⟩ := h.look_ok (zd := userD userZ) (zp := []) lawS Tryz.underlying24 (zeroU w) rfl (Go.WideMaps.keyOf_string_mk Tryz.underlying9 (s := strL nm) (by rw [strL_size]; exact hn))
  rw [strL_toList] at hr hv
  rw [usD_has, hk] at hr
  rw [usD_at, hu] at hv
  rw [userR_inv hv] at hr
  exact hr
end Go.Proofs.YtbodppfpmpmadaaGreat

namespace Go.Proofs.YtbodppfpmpmadaaGreat
open Go.RowKit

theorem On.belowOf {g : Nat} {w0 w w' : World} (h : On g w0 w) (k : Below w0.heap.size w w') : On g w0 w' :=
  ⟨k.os.trans h.os, k.tape.trans h.tape, k.output.trans h.output, Nat.le_trans h.size k.size, fun i hi hne => (k.block i hi).trans (h.block i hi hne)⟩
theorem ownR_one (w : World) (u : Value) (t : TypeId) {base : Nat} (hb : base ≤ w.heap.size) : OwnR t 1 (w.alloc (.cells #[u] t)) base (.slice (some ⟨w.heap.size, 0, none⟩) 1 1) [[u]] := by
  refine ⟨⟨rfl, .inr ⟨w.heap.size, 1, #[u], rfl, hb, heap_alloc_new w _, Nat.le_refl _, by unfold maxLen; simp, rfl, rfl⟩⟩, fun r h => ?_⟩
  have : r = [u] := by simpa using h
  subst this
  rfl
section
variable {P : Program} {ops : Array Oper} {rest : List Oper} {o : Oper} {a : Act} {w : World} {Q : Exit → Act → World → Prop}
theorem wpl_append_one2 {t sl : TypeId} {sz bytes : Nat} {z : Value} (hsl : P.underlying sl = some (.slice t)) (hinfo : (P.info? t).map (fun i => (i.zero, i.size, i.bytes)) = some (some z, sz, bytes)) (hzs : z.cells.size = sz) (hsz : 0 < sz) (hby : bytes ≤ 100)
    {base : Nat} {v : Value} {rs : List (List Value)} (hown : OwnR t sz w base v rs) (row : List Value) (hrow : row.length = sz) (h1 : row.all (·.oneCell') = true)
    (hgd : o.guard = none) (s x : Operand) (ho : o.op = .call { callee := .builtin .append, args := #[s, x], argTypes := #[sl, sl] })
    (hs : a.eval s = v) (C : Array Value) (hC : C = row.toArray) (hx : a.eval x = .slice (some ⟨w.heap.size, 0, none⟩) 1 1) (hlen : rs.length + 1 ≤ 1000000000) (hbase : base ≤ w.heap.size)
    (h : ∀ v' w', OwnR t sz w' base v' (rs ++ [row]) → Below base w w' → (w.alloc (.cells C t)).grownBy w' v.ownBlock → wpList P ops Q rest (a.put o.dst v') w') : wpList P ops Q (o :: rest) a (w.alloc (.cells C t)) := by
  subst hC
  refine wpList_plain hgd fun K hK => ?_
  obtain ⟨i, hi, hz, hs1, hb1⟩ := info_parts hinfo
  have hown' := (hown.ext ((Ext.refl w).alloc (.cells row.toArray t))).1
  obtain ⟨v', w', hrun, h2, h3, _⟩ := run_append_own (P := P) (w.alloc (.cells row.toArray t)) base sl o.type t i z sz bytes hsl hi hz hs1 hb1 hzs hsz v rs.length rs.flatten hown' ⟨w.heap.size, 0, none⟩ 1 1 row
    (by rw [hrow, Nat.one_mul]) (fun j u hj => by
      have hjl : j < row.length := by
        rcases Nat.lt_or_ge j row.length with h | h
        · exact h
        · rw [List.getElem?_eq_none h] at hj; cases hj
      rw [addr0, (Box.new w row t) j hjl, List.getD_eq_getElem?_getD, hj]
      rfl) (fun u hu => by rw [List.all_eq_true] at h1; exact h1 u hu) (by unfold maxLen; omega) (by
        have : (rs.length + 1) * bytes ≤ 1000000000 * 100 := Nat.mul_le_mul hlen hby
        omega) (Nat.le_trans hbase (by simp))
  have hb := (Below.refl base (w.alloc (.cells row.toArray t))).grown h3 (Nat.le_trans hbase (by simp)) (fun g hg => (World.ownsRow.lt hown' g hg).1)
  have hb' : Below base w w' := ((Below.refl base w).alloc hbase _).trans hb
  unfold Oper.wp execOp
  simp only [ho, resolve, invoke, builtin, Sem.run_bind, Sem.run_pure, Result.andThen_ok, List.map_toArray, List.map_cons, List.map_nil, hs, hx, hrun]
  refine hK _ _ (h v' w' ⟨?_, ?_⟩ hb' h3)
  · rw [List.length_append, List.flatten_append, List.flatten_cons, List.flatten_nil, List.append_nil]
    exact h2
  · intro r hr
    rcases List.mem_append.1 hr with h | h
    · exact hown.2 r h
    · simp at h; rw [h]; exact hrow
end
set_option maxHeartbeats 1000000 in
theorem in_more_c (w0 w : World) (g h : Nat) (cs : List Value) (c : Int) (u : Value) (l : List UInt8) (B : BoxF w g cs) (hl : cs.length = 19) (hc : cs[10]? = some (.int .u32 c)) (hx0 : Ext w0 w) (hg : g < w0.heap.size)
    (HR : OwnR 22 1 w w0.heap.size (.slice (some ⟨h, 0, none⟩) 1 1) [[u]]) (ho : Own w w0.heap.size u l) (hne : u.ownBlock ≠ some h) :
    Calls Tryz.prog 140 #[.pointer (some ⟨g, 0, none⟩), .slice (some ⟨h, 0, none⟩) 1 1] w fun e w' => ∃ v, e = .returned v ∧ ListsN w' w0.heap.size v [l, okL c] ∧ BoxF w' g (cs.set 9 (.int .i64 2)) ∧ On g w0 w' := by
  have hgh : w0.heap.size ≤ h := (World.ownsRow.lt HR.1 h rfl).1
  have HB := Lib.hid B
  have HL := Lib.hid hl
  have HX0 := Lib.hid hx0
  have HRR := Lib.hid HR
  have HO := Lib.hid ho
  have HNE := Lib.hid hne
  have HC := Lib.hid (show (cs.set 9 (.int .i64 2))[10]? = some (.int .u32 c) by rw [List.getElem?_set_ne (by decide)]; exact hc)
  obtain ⟨F, hF⟩ : ∃ F, F = okL c := ⟨_, rfl⟩
  have HF := Lib.hid hF
  clear B hl hc hF hx0 HR ho hne
  go_enter Tryz.func140, Tryz.ntmps140
  go_wp2_with (first
    | ((with_reducible show wpList _ _ _ (⟨none, Op.store _ _ _, _, _, _, _⟩ :: _) _ _); refine wpl_store_cell rfl _ _ _ rfl g 9 (.int .i64 2) rfl rfl rfl rfl (by kernel_rfl) HB.out (by have := HL.out; omega) ?_; intro w1 B1 O1; have c10 := B1.at (j := 10) HC.out)
    | (go_at_call 177; refine (appendOk_good _ _ _ [] [] c 0 0 2 0 ByteArray.empty false (Rd.nil _) (Rd.nil _) (by simp) (by decide) (by simp) (by omega) (by omega) (by omega) (by omega) (.inl rfl)).mono ?_; rintro e w2 ⟨v2, rfl, ho2, hx2⟩; replace ho2 : Own w2 w1.heap.size v2 F := (by rw [HF.out]; exact ho2); obtain ⟨A2, c2, hv2, _⟩ := id ho2.rd; subst hv2)
    | ((with_reducible show AtS 22); go_loud (refine wpl_append_one2 (sz := 1) (z := .slice none 0 0) (bytes := 24) Tryz.underlying41 (by kernel_rfl) (by kernel_rfl) (by omega) (by omega) ((HRR.out.on O1 hg).ext hx2) [.slice A2 F.length c2] rfl (by kernel_rfl) rfl _ _ rfl rfl _ rfl rfl (by simp) (Nat.le_trans (Ext.size HX0.out) (Nat.le_trans O1.size (Ext.size hx2))) ?_; intro v3 w3 ho3 hb3 hg3))
    | fail)
  go_ret
  rw [← HF.out]
  have hO2 : On g w0 w2 := ((On.of HX0.out).trans O1).ext hx2
  have hO3 : On h (w2.alloc (.cells #[.slice A2 F.length c2] 22)) w3 := hg3
  have hw2 : w1.heap.size ≤ w2.heap.size := Ext.size hx2
  have hh1 : h < w1.heap.size := Nat.lt_of_lt_of_le (World.ownsRow.lt HRR.out.1 h rfl).2 O1.size
  refine ⟨_, rfl, lists_of (us := [u, .slice A2 F.length c2]) ho3 rfl (fun j hj => ?_), (((B1.ext hx2).ext ((Ext.refl _).alloc _)).on hO3 (by omega)), hO2.belowOf hb3⟩
  have ou : Own w3 w0.heap.size u l := World.ownsRow.kept (((HO.out.on O1 hg).ext hx2).ext ((Ext.refl _).alloc _)) hO3 (.inr (fun e => HNE.out e))
  have o2 : Own w3 w1.heap.size (.slice A2 F.length c2) F := World.ownsRow.kept (ho2.ext ((Ext.refl _).alloc _)) hO3 (.inr (fun e => by have := (World.ownsRow.lt ho2 h e).1; omega))
  rcases j with _ | _ | j
  · exact ou
  · exact o2.more (Nat.le_trans (Ext.size HX0.out) O1.size)
  · simp at hj; omega
theorem appendMore_b (w : World) (v : Value) (m : List UInt8) (hr : Rd w v m) (hm : m.length ≤ 1000) : Calls Tryz.prog 141 #[.slice none 0 0, v] w (RetB w (1 :: m)) := by
  have HR := Lib.hid hr
  have HM := Lib.hid hm
  obtain ⟨A, c, rfl, _⟩ := hr
  clear hm
  go_enter Tryz.func141, Tryz.ntmps141
  go_wp2_with (first
    | (go_at_call 97; refine (cloneN_c _).mono ?_; rintro e wx ⟨rfl, rfl⟩)
    | ((with_reducible show AtS 8); refine wpl_append_rd bt (Own.nil _ w.heap.size) (rd_lit _ _ [1] (by rfl) (by simp) 1 _ (by rfl) (by rfl)) rfl _ _ rfl rfl rfl (by simp) (Ext.size ((Ext.refl w).alloc _)) ?_; intro v1 w1 ho1 hb1; have hE1 := ((Ext.refl w).alloc _).below hb1 (Nat.le_refl _))
    | ((with_reducible show AtS 10); refine wpl_append_rd bt ho1 (HR.out.ext hE1) rfl _ _ rfl rfl rfl (by have := HM.out; simp; omega) (Ext.size hE1) ?_; intro v2 w2 ho2 hb2; have hE2 := hE1.below hb2 (Nat.le_refl _))
    | fail)
  go_ret
  exact ⟨_, rfl, ho2, hE2⟩
end Go.Proofs.YtbodppfpmpmadaaGreat

namespace Go.Proofs.YtbodppfpmpmadaaGreat
open Go.RowKit

def fnFull (g : Nat) : Value := .func (.func 142) #[.pointer (some ⟨g, 0, none⟩)] #[]
set_option maxHeartbeats 2000000 in
theorem look_ask (w : World) (g : Nat) (cs : List Value) (pl pw l n : List UInt8) (vb : Value) (A : Option Addr) (k cp : Nat) (B : BoxF w g cs) (hl : cs.length = 19) (h3 : cs[3]? = some (.slice A k cp)) (h13 : cs[13]? = some (.string (strL pw))) (h14 : cs[14]? = some (.string (strL pl)))
    (hpl : (pl == natL) = false) (hn : Rd w (.slice A k cp) n) (hr : Rd w vb l) (hp : pw.length ≤ 1000000) (hq : (l == respPl pl pw n) = false) :
    Calls Tryz.prog 87 #[.pointer (some ⟨g, 0, none⟩), vb] w fun e w' => ∃ v, e = .returned v ∧
      ListsN w' w.heap.size v [[1, 4]] ∧ BoxF w' g (cs.set 11 (fnFull g)) ∧ On g w w' := by
  have HB := Lib.hid B
  have HL := Lib.hid hl
  have H14 := Lib.hid h14
  have HR := Lib.hid hr
  have HN := Lib.hid hn
  have HP := Lib.hid hp
  obtain ⟨Ab, cb, rfl, _⟩ := hr
  have c3 := B.at h3
  have c13 := B.at h13
  have c14 := B.at h14
  have HQ := Lib.hid hq
  have g4 : ((strL pl).toList == [109, 121, 115, 113, 108, 95, 110, 97, 116, 105, 118, 101, 95, 112, 97, 115, 115, 119, 111, 114, 100]) = false := by rw [strL_tl]; exact hpl
  clear B hl h3 h13 h14 hn hp hq hpl
  obtain ⟨t, ht⟩ : ∃ t, t = strL pl := ⟨_, rfl⟩
  rw [← ht] at c14 g4
  have HT := Lib.hid ht
  clear ht
  go_enter Tryz.func87, Tryz.ntmps87
  go_wp2_with fail
  have hY := Ext.refl w
  go_region_held3 (fun W' => W'.cell? ⟨g, 3, none⟩ = some (.slice A k cp) ∧ W'.cell? ⟨g, 13, none⟩ = some (.string (strL pw)) ∧ W'.cell? ⟨g, 14, none⟩ = some (.string t) ∧ Ext w W')
    ((refine (fun h => ⟨Ext.cell h c3, Ext.cell h c13, Ext.cell h c14, h⟩) ?_; repeat' (first | with_reducible exact hY | (with_reducible refine Ext.drew ?_) | (with_reducible refine Ext.alloc ?_ _))))
    (first
      | (go_at_call 123; go_must (rw [HT.out]; refine (dresponse_c _ pl pw _ n HP.out (HN.out.ext (Ext.refl _).drew)).mono ?_; rintro e w1 ⟨v1, rfl, hr1, hx1⟩; replace hY : Ext w w1 := (Ext.refl _).drew.trans hx1))
      | (go_at_call 139; go_must (refine (equalS_c _ _ _ l _ (HR.out.ext hY) hr1).mono ?_; rintro e w2 ⟨rfl, hx2⟩; rw [HQ.out]; replace hY := hY.trans hx2))
      | fail)
  all_goals
    have HY := Lib.hid hY
    have HB2 := Lib.hid (HB.out.ext hY)
    have d14 := Ext.cell hY c14
    clear c3 c13 c14 hY hr1 hx1 hx2
    go_wp2_with (first
      | ((with_reducible show AtW 30); refine wpl_store_cell rfl _ _ _ rfl g 11 (fnFull g) rfl rfl rfl rfl (by kernel_rfl) HB2.out (by have := HL.out; omega) ?_; intro w3 B3 O3)
      | (go_at_call 141; refine (appendMore_b _ _ [4] (rd_lit _ _ [4] (by rfl) (by simp) 1 _ (by rfl) (by first | rfl | (simp; done))) (by simp)).mono ?_; rintro e w4 ⟨v4, rfl, ho4, hx4⟩; obtain ⟨A4, c4, hv4, _⟩ := id ho4.rd; subst hv4)
      | fail)
    go_ret
    have hO3 : On g w w3 := (On.of HY.out).trans O3
    have hx5 : Ext w3 w4 := ((Ext.refl _).alloc _).trans hx4
    refine ⟨_, rfl, ?_, (B3.ext hx5).ext ((Ext.refl _).alloc _), (hO3.ext hx5).ext ((Ext.refl _).alloc _)⟩
    exact lists_one (u := _) (Nat.le_trans (On.size hO3) (Ext.size hx5)) (Box.new w4 [_] _ 0 (by simp)) ((ho4.more (Nat.le_trans (On.size hO3) (Ext.size ((Ext.refl _).alloc _)))).ext ((Ext.refl _).alloc _))
set_option maxHeartbeats 1000000 in
theorem look_right (w : World) (g : Nat) (cs : List Value) (c : Int) (pl pw l n : List UInt8) (vb : Value) (A : Option Addr) (k cp : Nat) (B : BoxF w g cs) (hl : cs.length = 19) (h3 : cs[3]? = some (.slice A k cp)) (h10 : cs[10]? = some (.int .u32 c)) (h13 : cs[13]? = some (.string (strL pw))) (h14 : cs[14]? = some (.string (strL pl)))
    (hpl : (pl == natL) = false) (hn : Rd w (.slice A k cp) n) (hr : Rd w vb l) (hp : pw.length ≤ 1000000) (hq : (l == respPl pl pw n) = true) :
    Calls Tryz.prog 87 #[.pointer (some ⟨g, 0, none⟩), vb] w fun e w' => ∃ v, e = .returned v ∧
      ListsN w' w.heap.size v (if l.isEmpty then [okL c] else [[1, 3], okL c]) ∧ BoxF w' g (cs.set 9 (.int .i64 2)) ∧ On g w w' := by
  have HB := Lib.hid B
  have hgl := B.lt
  have HL := Lib.hid hl
  have H10 := Lib.hid h10
  have H14 := Lib.hid h14
  have HN := Lib.hid hn
  have HP := Lib.hid hp
  obtain ⟨Ab, cb, rfl, _⟩ := id hr
  have c3 := B.at h3
  have c13 := B.at h13
  have c14 := B.at h14
  have HQ := Lib.hid hq
  have g4 : ((strL pl).toList == [109, 121, 115, 113, 108, 95, 110, 97, 116, 105, 118, 101, 95, 112, 97, 115, 115, 119, 111, 114, 100]) = false := by rw [strL_tl]; exact hpl
  clear B hl h3 h10 h13 h14 hn hp hq hpl
  obtain ⟨t, ht⟩ : ∃ t, t = strL pl := ⟨_, rfl⟩
  rw [← ht] at c14 g4
  have HT := Lib.hid ht
  obtain ⟨N, hN⟩ : ∃ N, N = l.length := ⟨_, rfl⟩
  rw [← hN] at hr ⊢
  have HR := Lib.hid hr
  obtain ⟨q6, hq6⟩ : ∃ q, q = l.isEmpty := ⟨_, rfl⟩
  rw [← hq6]
  have HN0 : if q6 then N = 0 else 0 < N := by
    rw [hq6, hN]
    cases l <;> simp
  clear ht hN hq6 hr
  have HGL := Lib.hid hgl
  clear hgl
  cases q6 with
  | true =>
    have hN0 : ¬ ((N : Int) > 0) := by simp at HN0; omega
    clear HN0
    go_enter Tryz.func87, Tryz.ntmps87
    go_wp2_with fail
    have hY := Ext.refl w
    go_region_held3 (fun W' => W'.cell? ⟨g, 3, none⟩ = some (.slice A k cp) ∧ W'.cell? ⟨g, 13, none⟩ = some (.string (strL pw)) ∧ W'.cell? ⟨g, 14, none⟩ = some (.string t) ∧ Ext w W')
      ((refine (fun h => ⟨Ext.cell h c3, Ext.cell h c13, Ext.cell h c14, h⟩) ?_; repeat' (first | with_reducible exact hY | (with_reducible refine Ext.drew ?_) | (with_reducible refine Ext.alloc ?_ _))))
      (first
        | (go_at_call 123; go_must (rw [HT.out]; refine (dresponse_c _ pl pw _ n HP.out (HN.out.ext (Ext.refl _).drew)).mono ?_; rintro e w1 ⟨v1, rfl, hr1, hx1⟩; replace hY : Ext w w1 := (Ext.refl _).drew.trans hx1))
        | (go_at_call 139; go_must (refine (equalS_c _ _ _ l _ (HR.out.ext hY) hr1).mono ?_; rintro e w2 ⟨rfl, hx2⟩; rw [HQ.out]; replace hY := hY.trans hx2))
        | fail)
    all_goals
      have HY := Lib.hid hY
      have HB2 := Lib.hid (HB.out.ext hY)
      have d14 := Ext.cell hY c14
      clear c3 c13 c14 hY hr1 hx1 hx2
      go_wp2_with (first
        | (go_at_call 140; refine (in_nil_c _ g cs c HB2.out HL.out H10.out).mono ?_; rintro e w3 ⟨v3, rfl, hl3, B3, O3⟩)
        | fail)
      go_ret
      exact ⟨_, rfl, hl3.more (Ext.size HY.out), B3, (On.of HY.out).trans O3⟩
  | false =>
    have hN0 : (N : Int) > 0 := by simp at HN0; omega
    clear HN0
    go_enter Tryz.func87, Tryz.ntmps87
    go_wp2_with fail
    have hY := Ext.refl w
    go_region_held3 (fun W' => W'.cell? ⟨g, 3, none⟩ = some (.slice A k cp) ∧ W'.cell? ⟨g, 13, none⟩ = some (.string (strL pw)) ∧ W'.cell? ⟨g, 14, none⟩ = some (.string t) ∧ Ext w W')
      ((refine (fun h => ⟨Ext.cell h c3, Ext.cell h c13, Ext.cell h c14, h⟩) ?_; repeat' (first | with_reducible exact hY | (with_reducible refine Ext.drew ?_) | (with_reducible refine Ext.alloc ?_ _))))
      (first
        | (go_at_call 123; go_must (rw [HT.out]; refine (dresponse_c _ pl pw _ n HP.out (HN.out.ext (Ext.refl _).drew)).mono ?_; rintro e w1 ⟨v1, rfl, hr1, hx1⟩; replace hY : Ext w w1 := (Ext.refl _).drew.trans hx1))
        | (go_at_call 139; go_must (refine (equalS_c _ _ _ l _ (HR.out.ext hY) hr1).mono ?_; rintro e w2 ⟨rfl, hx2⟩; rw [HQ.out]; replace hY := hY.trans hx2))
        | fail)
    all_goals
      have HY := Lib.hid hY
      have HB2 := Lib.hid (HB.out.ext hY)
      have d14 := Ext.cell hY c14
      clear c3 c13 c14 hY hr1 hx1 hx2
      go_wp2_with (first
        | (go_at_call 141; refine (appendMore_b _ _ [3] (rd_lit _ _ [3] (by rfl) (by simp) 1 _ (by rfl) (by first | rfl | (simp; done))) (by simp)).mono ?_; rintro e w4 ⟨v4, rfl, ho4, hx4⟩; obtain ⟨A4, c4, hv4, _⟩ := id ho4.rd; subst hv4)
        | (go_at_call 140; refine (in_more_c w _ g _ cs c _ [1, 3] (((HB2.out.ext ((Ext.refl _).alloc _)).ext hx4).ext ((Ext.refl _).alloc _)) HL.out H10.out (((HY.out.alloc _).trans hx4).alloc _) HGL.out (ownR_one w4 _ _ (Nat.le_trans (Ext.size (HY.out.alloc _)) (Ext.size hx4))) ((ho4.more (Ext.size (HY.out.alloc _))).ext ((Ext.refl _).alloc _)) (fun e => by have := (World.ownsRow.lt ho4 _ e).2; omega)).mono ?_; rintro e w5 ⟨v5, rfl, hl5, B5, O5⟩)
        | fail)
      go_ret
      exact ⟨_, rfl, hl5, B5, O5⟩
end Go.Proofs.YtbodppfpmpmadaaGreat

namespace Go.Proofs.YtbodppfpmpmadaaGreat
open Go.RowKit

structure GreV where
  ver : List UInt8
  thr : Int
  nonce : List UInt8
  caps : Int
  ch : Int
  st : Int
  pl : List UInt8
def greetB (g : GreV) : List UInt8 := greetBs g.ver g.thr g.nonce g.caps g.ch g.st g.pl
structure GreOk (g : GreV) : Prop where
  ver : g.ver.contains 0 = false
  pl : g.pl.contains 0 = false
  n20 : g.nonce.length = 20
  nonce : nonceOk g.nonce = true
  core : hasC g.caps 33280 = true
  plF : g.pl = [] ∨ hasC g.caps 524288 = true
  thr : 0 ≤ g.thr ∧ g.thr < 4294967296
  caps : 0 ≤ g.caps ∧ g.caps < 4294967296
  ch : 0 ≤ g.ch ∧ g.ch < 256
  st : 0 ≤ g.st ∧ g.st < 65536
end Go.Proofs.YtbodppfpmpmadaaGreat

namespace Go.Proofs.YtbodppfpmpmadaaGreat
open Go.RowKit

theorem boxF_below {W W' : World} {g B : Nat} {cs : List Value} (h : BoxF W g cs) (k : Below B W W') (hg : g < B) : BoxF W' g cs :=
  ⟨h.box.below k hg, fun j hj => (k.frozen hg).trans (h.free j hj), Nat.lt_of_lt_of_le h.lt (Below.size k)⟩
theorem Rdr.below {a w w' : World} {g B : Nat} {s : List UInt8 × Int} (h : Rdr a w g s) (k : Below B w w') (hg : g < B) : Rdr a w' g s :=
  ⟨h.lo, h.ext.below k (Nat.le_trans h.lo (Nat.le_of_lt hg)), (k.frozen hg).trans h.f0, (k.frozen hg).trans h.f1, (k.cell hg).trans h.c1, by obtain ⟨v, h0, hr⟩ := h.c0; exact ⟨v, (k.cell hg).trans h0, hr⟩⟩
theorem St.below {a w w' : World} {gv B : Nat} {s : List UInt8 × Int} {Z cs : List Value} (h : St a w gv s Z cs) (k : Below B w w') (hg : gv < B) : St a w' gv s Z cs :=
  ⟨boxF_below h.b0 k (by have := h.lo; omega), h.r.below k (by have := h.lo; omega), boxF_below h.b k hg, h.lo⟩
end Go.Proofs.YtbodppfpmpmadaaGreat

namespace Go.Proofs.YtbodppfpmpmadaaGreat
open Go.RowKit

theorem readChange_g (w : World) (c : Int) (v : Value) (l : List UInt8) (hr : Rd w v l) (hl : l.length ≤ 900000) :
    Calls Tryz.prog 40 #[v, .int .u32 c] w (RetChg w (overP (changeM c) chgV0 l)) := by
  by_cases he : (overP (changeM c) chgV0 l).2 = 0
  · exact readChange_a w c v l hr hl he
  · exact readChange_z w c v l hr hl he
end Go.Proofs.YtbodppfpmpmadaaGreat

namespace Go.Proofs.YtbodppfpmpmadaaGreat
open Go.RowKit

def nonceT : List UInt8 := (List.range 20).map fun i => UInt8.ofNat (i + 1)
theorem nonceT_take (k : Nat) (h : k < 20) : nonceT.take (k + 1) = nonceT.take k ++ [UInt8.ofNat (((k : Int) + 1).toNat)] := by
  have e : ((k : Int) + 1).toNat = k + 1 := by omega
  rw [e]
  unfold nonceT
  rw [List.take_add_one, List.getElem?_map, List.getElem?_range h]
  rfl
end Go.Proofs.YtbodppfpmpmadaaGreat

