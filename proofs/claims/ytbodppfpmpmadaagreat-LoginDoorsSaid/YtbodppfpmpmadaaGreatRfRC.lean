import Derived.Test.YtbodppfpmpmadaaGreatL14C
import Derived.Test.YtbodppfpmpmadaaGreatRfGC
namespace Go.Proofs.YtbodppfpmpmadaaGreat
open Go.RowKit

set_option maxHeartbeats 1000000 in
theorem askR_c (w : World) (g : Nat) (cs : List Value) (pl n : List UInt8) (aw : Int) (A : Option Addr) (k cp : Nat) (B : BoxF w g cs) (hl : cs.length = 19) (h18 : cs[18]? = some (.slice A k cp)) (hn : Rd w (.slice A k cp) n) (hok : switchOk (pl, n)) (hp : pl.length ≤ 10000) :
    Calls Tryz.prog 115 #[.pointer (some ⟨g, 0, none⟩), .string (strL pl), .int .i64 aw] w fun e w' => ∃ v, e = .returned v ∧ ListsN w' w.heap.size v [switchB (pl, n)] ∧ BoxF w' g (cs.set 9 (.int .i64 aw)) ∧ On g w w' := by
  have hlt := B.lt
  have c18 := B.at (j := 18) h18
  have HB := Lib.hid B
  have HL := Lib.hid hl
  have HN := Lib.hid hn
  have HOK := Lib.hid hok
  have HP := Lib.hid hp
  obtain ⟨F, hF⟩ : ∃ F, F = switchB (pl, n) := ⟨_, rfl⟩
  have HF := Lib.hid hF
  clear B hl hF hn hok hp h18
  go_enter Tryz.func115, Tryz.ntmps115
  go_wp2_with (first
    | (go_at_call 162; refine (appendSwitchR_g _ pl n _ HN.out HOK.out HP.out).mono ?_; rintro e w1 ⟨v1, rfl, ho1, hx1⟩; replace ho1 : Own w1 w.heap.size v1 F := (by rw [HF.out]; exact ho1); obtain ⟨A1, c1, hv1, _⟩ := id ho1.rd; subst hv1; have B1 := HB.out.ext hx1; clear c18)
    | ((with_reducible show wpList _ _ _ (⟨none, Op.store _ _ _, _, _, _, _⟩ :: _) _ _); refine wpl_store_cell rfl _ _ _ rfl g 9 (.int .i64 aw) rfl rfl rfl rfl (by kernel_rfl) B1 (by have := HL.out; omega) ?_; intro w2 B2 O2)
    | fail)
  go_ret
  rw [← HF.out]
  have hO : On g w w2 := (On.of hx1).trans O2
  have o2 := own_far ho1 O2 hlt
  exact ⟨_, rfl, lists_one (u := _) hO.size (Box.new w2 [_] _ 0 (by simp)) (o2.ext ((Ext.refl _).alloc _)), B2.ext ((Ext.refl _).alloc _), hO.ext ((Ext.refl _).alloc _)⟩

def lookRL (q f e : Bool) (c : Int) : List (List UInt8) := if q then (if f then (if e then [okL c] else [[1, 3], okL c]) else [okL c]) else (if f then [[1, 4]] else [refusedL])
def failC (cs : List Value) : List Value := (cs.set 10 (.int .i64 3)).set 9 (.int .i64 4)
def lookRC (q f : Bool) (cs : List Value) : List Value := if q then inC cs else if f then cs.set 9 (.int .i64 3) else failC cs

theorem ownR_oneG (w : World) (u : Value) (t : TypeId) (g : Nat) (hg : g = w.heap.size) {base : Nat} (hb : base ≤ w.heap.size) : OwnR t 1 (w.alloc (.cells #[u] t)) base (.slice (some ⟨g, 0, none⟩) 1 1) [[u]] := by
  subst hg
  exact ownR_one w u t hb
theorem lists_lit (w : World) (g : Nat) (hg : g = w.heap.size + 1) {base : Nat} (hb : base ≤ w.heap.size) :
    ListsN ((w.alloc (.cells #[.int .u8 1, .int .u8 4] 5)).alloc (.cells #[.slice (some ⟨w.heap.size, 0, none⟩) 2 2] 22)) base (.slice (some ⟨g, 0, none⟩) 1 1) [[1, 4]] := by
  subst hg
  have h := Box.new (w.alloc (.cells #[.int .u8 1, .int .u8 4] 5)) [Value.slice (some ⟨w.heap.size, 0, none⟩) 2 2] 22 0 (by simp)
  have hs : (w.alloc (.cells #[.int .u8 1, .int .u8 4] 5)).heap.size = w.heap.size + 1 := by simp
  rw [hs] at h
  exact lists_one (Nat.le_succ_of_le hb) h ((own_new _ _ [1, 4] (by rfl) 2 rfl (by unfold maxLen; simp) hb).ext ((Ext.refl _).alloc _))

set_option maxHeartbeats 4000000 in
theorem lookR_c (w : World) (g : Nat) (cs : List Value) (c : Int) (pl pw l n : List UInt8) (vb : Value) (A : Option Addr) (k cp : Nat) (q f e6 : Bool) (B : BoxF w g cs) (hl : cs.length = 19) (h18 : cs[18]? = some (.slice A k cp)) (h11 : cs[11]? = some (.int .u32 c)) (h13 : cs[13]? = some (.string (strL pw))) (h14 : cs[14]? = some (.string (strL pl)))
    (hn : Rd w (.slice A k cp) n) (hr : Rd w vb l) (hp : pw.length ≤ 1000000) (hq : (l == respPl pl pw n) = q) (hf : (pl == fastL) = f) (he : l.isEmpty = e6) :
    Calls Tryz.prog 67 #[.pointer (some ⟨g, 0, none⟩), vb] w fun e w' => ∃ v, e = .returned v ∧
      ListsN w' w.heap.size v (lookRL q f e6 c) ∧ BoxF w' g (lookRC q f cs) ∧ On g w w' := by
  have HB := Lib.hid B
  have hgl := B.lt
  have HL := Lib.hid hl
  have H11 := Lib.hid h11
  have HN := Lib.hid hn
  have HP := Lib.hid hp
  obtain ⟨Ab, cb, rfl, _⟩ := id hr
  have c18 := B.at (j := 18) h18
  have c13 := B.at (j := 13) h13
  have c14 := B.at (j := 14) h14
  have H14 := Lib.hid h14
  have HQ := Lib.hid hq
  have g4 : ((strL pl).toList == [99, 97, 99, 104, 105, 110, 103, 95, 115, 104, 97, 50, 95, 112, 97, 115, 115, 119, 111, 114, 100]) = f := by rw [strL_tl]; exact hf
  clear B hl h18 h11 h13 h14 hn hp hq hf
  obtain ⟨t, ht⟩ : ∃ t, t = strL pl := ⟨_, rfl⟩
  rw [← ht] at c14 g4
  have HT := Lib.hid ht
  obtain ⟨N, hN⟩ : ∃ N, N = l.length := ⟨_, rfl⟩
  rw [← hN] at hr ⊢
  have HR := Lib.hid hr
  have hN0 : decide ((N : Int) > 0) = !e6 := by
    rw [hN, ← he]
    cases l
    · rfl
    · simp
  clear ht hN he hr
  have HGL := Lib.hid hgl
  clear hgl
  cases q <;> cases f <;> cases e6
  all_goals
    have hN1 := hN0
    simp only [Bool.not_true, Bool.not_false, decide_eq_true_eq, decide_eq_false_iff_not] at hN1
    clear hN0
    go_enter Tryz.func67, Tryz.ntmps67
    go_wp2_with fail
    have hY := Ext.refl w
    go_region_held3 (fun W' => W'.cell? ⟨g, 18, none⟩ = some (.slice A k cp) ∧ W'.cell? ⟨g, 13, none⟩ = some (.string (strL pw)) ∧ W'.cell? ⟨g, 14, none⟩ = some (.string t) ∧ Ext w W')
      ((refine (fun h => ⟨Ext.cell h c18, Ext.cell h c13, Ext.cell h c14, h⟩) ?_; repeat' (first | with_reducible exact hY | (with_reducible refine Ext.drew ?_) | (with_reducible refine Ext.alloc ?_ _))))
      (first
        | (go_at_call 76; go_must (rw [HT.out]; refine (responseR_c _ pl pw n _ HP.out (HN.out.ext (Ext.refl _).drew)).mono ?_; rintro e w1 ⟨v1, rfl, hr1, hx1⟩; replace hY : Ext w w1 := (Ext.refl _).drew.trans hx1))
        | (go_at_call 68; go_must (refine (same27R_c _ _ _ l _ (HR.out.ext hY) hr1).mono ?_; rw [HQ.out]; rintro e w2 ⟨rfl, hw2⟩; subst hw2))
        | fail)
    all_goals
      have HY := Lib.hid hY
      have HB2 := Lib.hid (HB.out.ext hY)
      have d14 := Ext.cell hY c14
      clear c18 c13 c14 hY hr1 hx1
      go_wp2_with (first
        | ((with_reducible show Calls _ _ #[_, .slice none 0 0] _ _); go_at_call 69; refine (inR_nil _ g cs c HB2.out HL.out H11.out).mono ?_; rintro e w3 ⟨v3, rfl, hl3, B3, O3⟩)
        | (go_at_call 69; go_loud (refine (inR_more w _ g _ cs c _ [1, 3] ((HB2.out.ext ((Ext.refl _).alloc _)).ext ((Ext.refl _).alloc _)) HL.out H11.out ((HY.out.alloc _).alloc _) HGL.out (ownR_oneG _ _ _ _ (by simp) (Ext.size (HY.out.alloc _))) ((own_new _ _ [1, 3] (by rfl) 2 rfl (by unfold maxLen; simp) (Ext.size HY.out)).ext ((Ext.refl _).alloc _)) (by simp [Value.ownBlock])).mono ?_; rintro e w5 ⟨v5, rfl, hl5, B5, O5⟩))
        | (go_at_call 70; refine (refusedR_c _ g cs HB2.out HL.out).mono ?_; rintro e w3 ⟨v3, rfl, hl3, B3, O3⟩)
        | ((with_reducible show wpList _ _ _ (⟨none, Op.store _ _ _, _, _, _, _⟩ :: _) _ _); refine wpl_store_cell rfl _ _ _ rfl g 9 (.int .i64 3) rfl rfl rfl rfl (by kernel_rfl) HB2.out (by have := HL.out; omega) ?_; intro w6 B6 O6)
        | fail)
      go_ret
      first
        | exact ⟨_, rfl, hl3.more (Ext.size HY.out), B3, (On.of HY.out).trans O3⟩
        | exact ⟨_, rfl, hl5, B5, O5⟩
        | (have hO6 : On g w w6 := (On.of HY.out).trans O6
           exact ⟨_, rfl, lists_lit w6 _ rfl hO6.size, (B6.ext ((Ext.refl _).alloc _)).ext ((Ext.refl _).alloc _), (hO6.ext ((Ext.refl _).alloc _)).ext ((Ext.refl _).alloc _)⟩)
        | fail
end Go.Proofs.YtbodppfpmpmadaaGreat

