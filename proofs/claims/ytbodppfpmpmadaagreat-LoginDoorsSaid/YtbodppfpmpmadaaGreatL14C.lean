import Derived.Test.YtbodppfpmpmadaaGreatRfAC
import Derived.Test.YtbodppfpmpmadaaGreatRepGC
import Derived.Test.YtbodppfpmpmadaaGreatL11C
import Derived.Test.YtbodppfpmpmadaaGreatL1C
import Derived.Test.YtbodppfpmpmadaaGreatL7C
import Derived.Test.YtbodppfpmpmadaaGreatL8C
namespace Go.Proofs.YtbodppfpmpmadaaGreat
open Go.RowKit

set_option maxHeartbeats 1000000 in
theorem failsR_c (w : World) (g : Nat) (cs : List Value) (c : Int) (s t : ByteArray) (B : BoxF w g cs) (hl : cs.length = 19) (hs : s.size = 5) (ht : t.size ≤ 1000000) (hc : 0 ≤ c ∧ c < 65536) :
    Calls Tryz.prog 113 #[.pointer (some ⟨g, 0, none⟩), .int .u16 c, .string s, .string t] w fun e w' =>
      ∃ v, e = .returned v ∧ ListsN w' w.heap.size v [errB c s.data.toList t.data.toList] ∧ BoxF w' g ((cs.set 10 (.int .i64 3)).set 9 (.int .i64 4)) ∧ On g w w' := by
  have hlt := B.lt
  have HB := Lib.hid B
  have HL := Lib.hid hl
  have HS := Lib.hid hs
  have HT := Lib.hid ht
  have HC := Lib.hid hc
  obtain ⟨F, hF⟩ : ∃ F, F = errB c s.data.toList t.data.toList := ⟨_, rfl⟩
  have HF := Lib.hid hF
  clear hs ht hc B hl hF
  go_enter Tryz.func113, Tryz.ntmps113
  go_wp2_with (first
    | (go_at_call 161; refine (appendErrR_good _ _ [] c s t (Rd.nil _) (by simp) HS.out HT.out HC.out).mono ?_; rintro e w1 ⟨v1, rfl, ho1, hx1⟩; replace ho1 : Own w1 w.heap.size v1 F := (by rw [HF.out]; exact ho1); obtain ⟨A1, c1, hv1, _⟩ := id ho1.rd; subst hv1; have B1 := HB.out.ext hx1)
    | ((with_reducible show wpList _ _ _ (⟨none, Op.store _ _ (.const (.int .i64 3)), _, _, _, _⟩ :: _) _ _); refine wpl_store_cell rfl _ _ _ rfl g 10 (.int .i64 3) rfl rfl rfl rfl (by kernel_rfl) B1 (by have := HL.out; omega) ?_; intro w2 B2 O2)
    | ((with_reducible show wpList _ _ _ (⟨none, Op.store _ _ (.const (.int .i64 4)), _, _, _, _⟩ :: _) _ _); refine wpl_store_cell rfl _ _ _ rfl g 9 (.int .i64 4) rfl rfl rfl rfl (by kernel_rfl) B2 (by have := HL.out; simp; omega) ?_; intro w3 B3 O3)
    | fail)
  go_ret
  rw [← HF.out]
  have hO : On g w w3 := ((On.of hx1).trans O2).trans O3
  have o3 := own_far (own_far ho1 O2 hlt) O3 hlt
  exact ⟨_, rfl, lists_one (u := _) hO.size (Box.new w3 [_] _ 0 (by simp)) (o3.ext ((Ext.refl _).alloc _)), B3.ext ((Ext.refl _).alloc _), hO.ext ((Ext.refl _).alloc _)⟩
theorem oddR_c (w : World) (g : Nat) (cs : List Value) (B : BoxF w g cs) (hl : cs.length = 19) :
    Calls Tryz.prog 63 #[.pointer (some ⟨g, 0, none⟩)] w fun e w' =>
      ∃ v, e = .returned v ∧ ListsN w' w.heap.size v [oddL] ∧ BoxF w' g ((cs.set 10 (.int .i64 3)).set 9 (.int .i64 4)) ∧ On g w w' := by
  have HB := Lib.hid B
  have HL := Lib.hid hl
  clear B hl
  go_enter Tryz.func63, Tryz.ntmps63
  go_wp2_with (go_at_call 113; refine (failsR_c _ g cs 1043 _ _ HB.out HL.out rfl (by decide) (by omega)).mono ?_; rintro e w1 ⟨v1, rfl, hl1, hb1, hx1⟩)
  go_ret
  exact ⟨_, rfl, hl1, hb1, hx1⟩
theorem refusedR_c (w : World) (g : Nat) (cs : List Value) (B : BoxF w g cs) (hl : cs.length = 19) :
    Calls Tryz.prog 70 #[.pointer (some ⟨g, 0, none⟩)] w fun e w' =>
      ∃ v, e = .returned v ∧ ListsN w' w.heap.size v [refusedL] ∧ BoxF w' g ((cs.set 10 (.int .i64 3)).set 9 (.int .i64 4)) ∧ On g w w' := by
  have HB := Lib.hid B
  have HL := Lib.hid hl
  clear B hl
  go_enter Tryz.func70, Tryz.ntmps70
  go_wp2_with (go_at_call 113; refine (failsR_c _ g cs 1045 _ _ HB.out HL.out rfl (by decide) (by omega)).mono ?_; rintro e w1 ⟨v1, rfl, hl1, hb1, hx1⟩)
  go_ret
  exact ⟨_, rfl, hl1, hb1, hx1⟩
def inC (cs : List Value) : List Value := (cs.set 10 (.int .i64 2)).set 9 (.int .i64 4)
set_option maxHeartbeats 1000000 in
theorem inR_nil (w : World) (g : Nat) (cs : List Value) (c : Int) (B : BoxF w g cs) (hl : cs.length = 19) (hc : cs[11]? = some (.int .u32 c)) :
    Calls Tryz.prog 69 #[.pointer (some ⟨g, 0, none⟩), .slice none 0 0] w fun e w' => ∃ v, e = .returned v ∧ ListsN w' w.heap.size v [okL c] ∧ BoxF w' g (inC cs) ∧ On g w w' := by
  have hlt := B.lt
  have c11 := B.at (j := 11) hc
  have HB := Lib.hid B
  have HL := Lib.hid hl
  obtain ⟨F, hF⟩ : ∃ F, F = okL c := ⟨_, rfl⟩
  have HF := Lib.hid hF
  clear B hl hc hF
  unfold inC
  go_enter Tryz.func69, Tryz.ntmps69
  go_wp2_with (first
    | (go_at_call 120; refine (appendOkR_good _ _ _ [] [] c 0 0 2 0 ByteArray.empty false (Rd.nil _) (Rd.nil _) (by simp) (by decide) (by simp) (by omega) (by omega) (by omega) (by omega) (.inl rfl)).mono ?_; rintro e w1 ⟨v1, rfl, ho1, hx1⟩; replace ho1 : Own w1 w.heap.size v1 F := (by rw [HF.out]; exact ho1); obtain ⟨A1, c1, hv1, _⟩ := id ho1.rd; subst hv1; have B1 := HB.out.ext hx1; clear c11)
    | ((with_reducible show wpList _ _ _ (⟨none, Op.store _ _ (.const (.int .i64 2)), _, _, _, _⟩ :: _) _ _); refine wpl_store_cell rfl _ _ _ rfl g 10 (.int .i64 2) rfl rfl rfl rfl (by kernel_rfl) B1 (by have := HL.out; omega) ?_; intro w2 B2 O2)
    | ((with_reducible show wpList _ _ _ (⟨none, Op.store _ _ (.const (.int .i64 4)), _, _, _, _⟩ :: _) _ _); refine wpl_store_cell rfl _ _ _ rfl g 9 (.int .i64 4) rfl rfl rfl rfl (by kernel_rfl) B2 (by have := HL.out; simp; omega) ?_; intro w3 B3 O3)
    | ((with_reducible show AtS 25); go_loud (refine wpl_append_rec (sz := 1) (z := .slice none 0 0) (bytes := 24) Tryz.underlying41 (by kernel_rfl) (by kernel_rfl) (by omega) (by omega) (OwnR.nil 22 1 _ w3.heap.size) [.slice A1 F.length c1] rfl (by kernel_rfl) rfl _ _ rfl rfl _ rfl rfl (by simp) (Nat.le_refl _) ?_; intro v4 w4 ho4 hb4))
    | fail)
  go_ret
  rw [← HF.out]
  have hO : On g w w3 := ((On.of hx1).trans O2).trans O3
  have o3 := own_far (own_far ho1 O2 hlt) O3 hlt
  refine ⟨_, rfl, lists_of (us := [.slice A1 F.length c1]) (ho4.more hO.size) rfl (fun j hj => ?_), B3.ext hb4, hO.ext hb4⟩
  have e : j = 0 := by simpa using hj
  subst e
  exact o3.ext hb4
set_option maxHeartbeats 1000000 in
theorem inR_more (w0 w : World) (g h : Nat) (cs : List Value) (c : Int) (u : Value) (l : List UInt8) (B : BoxF w g cs) (hl : cs.length = 19) (hc : cs[11]? = some (.int .u32 c)) (hx0 : Ext w0 w) (hg : g < w0.heap.size)
    (HR : OwnR 22 1 w w0.heap.size (.slice (some ⟨h, 0, none⟩) 1 1) [[u]]) (ho : Own w w0.heap.size u l) (hne : u.ownBlock ≠ some h) :
    Calls Tryz.prog 69 #[.pointer (some ⟨g, 0, none⟩), .slice (some ⟨h, 0, none⟩) 1 1] w fun e w' => ∃ v, e = .returned v ∧ ListsN w' w0.heap.size v [l, okL c] ∧ BoxF w' g (inC cs) ∧ On g w0 w' := by
  have hgh : w0.heap.size ≤ h := (World.ownsRow.lt HR.1 h rfl).1
  have c11 := B.at (j := 11) hc
  have HB := Lib.hid B
  have HL := Lib.hid hl
  have HX0 := Lib.hid hx0
  have HRR := Lib.hid HR
  have HO := Lib.hid ho
  have HNE := Lib.hid hne
  obtain ⟨F, hF⟩ : ∃ F, F = okL c := ⟨_, rfl⟩
  have HF := Lib.hid hF
  clear B hl hc hF hx0 HR ho hne
  unfold inC
  go_enter Tryz.func69, Tryz.ntmps69
  go_wp2_with (first
    | (go_at_call 120; refine (appendOkR_good _ _ _ [] [] c 0 0 2 0 ByteArray.empty false (Rd.nil _) (Rd.nil _) (by simp) (by decide) (by simp) (by omega) (by omega) (by omega) (by omega) (.inl rfl)).mono ?_; rintro e w1 ⟨v1, rfl, ho1, hx1⟩; replace ho1 : Own w1 w.heap.size v1 F := (by rw [HF.out]; exact ho1); obtain ⟨A1, c1, hv1, _⟩ := id ho1.rd; subst hv1; have B1 := HB.out.ext hx1; clear c11)
    | ((with_reducible show wpList _ _ _ (⟨none, Op.store _ _ (.const (.int .i64 2)), _, _, _, _⟩ :: _) _ _); refine wpl_store_cell rfl _ _ _ rfl g 10 (.int .i64 2) rfl rfl rfl rfl (by kernel_rfl) B1 (by have := HL.out; omega) ?_; intro w2 B2 O2)
    | ((with_reducible show wpList _ _ _ (⟨none, Op.store _ _ (.const (.int .i64 4)), _, _, _, _⟩ :: _) _ _); refine wpl_store_cell rfl _ _ _ rfl g 9 (.int .i64 4) rfl rfl rfl rfl (by kernel_rfl) B2 (by have := HL.out; simp; omega) ?_; intro w3 B3 O3; have hO3 : On g w w3 := ((On.of hx1).trans O2).trans O3)
    | ((with_reducible show AtS 25); go_loud (refine wpl_append_one2 (sz := 1) (z := .slice none 0 0) (bytes := 24) Tryz.underlying41 (by kernel_rfl) (by kernel_rfl) (by omega) (by omega) (HRR.out.on hO3 hg) [.slice A1 F.length c1] rfl (by kernel_rfl) rfl _ _ rfl rfl _ rfl rfl (by simp) (Nat.le_trans (Ext.size HX0.out) hO3.size) ?_; intro v4 w4 ho4 hb4 hg4))
    | fail)
  go_ret
  rw [← HF.out]
  have hO2 : On g w0 w3 := (On.of HX0.out).trans hO3
  have hO4 : On h (w3.alloc (.cells #[.slice A1 F.length c1] 22)) w4 := hg4
  have hh1 : h < w.heap.size := (World.ownsRow.lt HRR.out.1 h rfl).2
  have hw0 : w0.heap.size ≤ w.heap.size := Ext.size HX0.out
  refine ⟨_, rfl, lists_of (us := [u, .slice A1 F.length c1]) ho4 rfl (fun j hj => ?_), ((B3.ext ((Ext.refl _).alloc _)).on hO4 (by omega)), hO2.belowOf hb4⟩
  have ou : Own w4 w0.heap.size u l := World.ownsRow.kept ((own_far HO.out hO3 hg).ext ((Ext.refl _).alloc _)) hO4 (.inr (fun e => HNE.out e))
  have o2 : Own w4 w.heap.size (.slice A1 F.length c1) F := World.ownsRow.kept ((own_far (own_far ho1 O2 (by omega)) O3 (by omega)).ext ((Ext.refl _).alloc _)) hO4 (.inr (fun e => by have := (World.ownsRow.lt (own_far (own_far ho1 O2 (by omega)) O3 (by omega)) h e).1; omega))
  rcases j with _ | _ | j
  · exact ou
  · exact o2.more hw0
  · simp at hj; omega
end Go.Proofs.YtbodppfpmpmadaaGreat

namespace Go.Proofs.YtbodppfpmpmadaaGreat
open Go.RowKit

theorem plain2 {a b : List UInt8} (h : plainP [a, b] = true) : a.contains 0 = false ∧ b.contains 0 = false := by simpa [plainP] using h
theorem check_ok {n : List UInt8} (h : checkE n = 0) : n.length = 20 ∧ nonceOk n = true := by
  unfold checkE at h
  split at h
  · rename_i hh
    exact ⟨hh.1, by unfold nonceOk; rw [hh.2.1, hh.2.2]; rfl⟩
  · simp at h
theorem check_two {n : List UInt8} (h : ¬ checkE n = 0) : checkE n = 2 := by
  unfold checkE at h ⊢
  split
  · rename_i hh
    rw [if_pos hh] at h
    exact absurd rfl h
  · rfl
theorem empty_or {l : List UInt8} {b : Prop} (h : (strL l).toList.isEmpty = true ∨ b) : l = [] ∨ b := by
  rcases h with h | h
  · left
    simpa [strL_tl] using h
  · exact .inr h
set_option linter.unusedVariables false in
set_option maxRecDepth 100000 in
set_option maxHeartbeats 4000000 in
theorem fineGreeting_z (w : World) (ver n pl : List UInt8) (thr caps ch st : Int) (vn : Value) (hn : Rd w vn n) (ht : 0 ≤ thr ∧ thr < 4294967296) (hcaps : 0 ≤ caps ∧ caps < 4294967296) (hch : 0 ≤ ch ∧ ch < 256) (hst : 0 ≤ st ∧ st < 65536) (h : ¬ GreOk ⟨ver, thr, n, caps, ch, st, pl⟩) :
    Calls Tryz.prog 95 #[.agg #[.string (strL ver), .int .u32 thr, vn, .int .u32 caps, .int .u8 ch, .int .u16 st, .string (strL pl)]] w fun e w' => e = .returned (.bool false) ∧ Ext w w' := by
  have HN := Lib.hid hn
  obtain ⟨An, cn, rfl, _⟩ := hn
  by_cases p1 : plainP [ver, pl] = true
  · have HP := Lib.hid p1
    by_cases hck : checkE n = 0
    · have HK := Lib.hid hck
      by_cases p3 : hasC caps 33280 = true
      · have HC := Lib.hid p3
        by_cases q1 : (strL pl).toList.isEmpty = true
        · skip
          exact absurd ⟨(plain2 p1).1, (plain2 p1).2, (check_ok hck).1, (check_ok hck).2, p3, empty_or (by first | exact .inl q1 | exact .inr q2), ht, hcaps, hch, hst⟩ h
        · have q1 : (strL pl).toList.isEmpty = false := by simpa using q1
          by_cases q2 : hasC caps 524288 = true
          · have HL := Lib.hid q2
            exact absurd ⟨(plain2 p1).1, (plain2 p1).2, (check_ok hck).1, (check_ok hck).2, p3, empty_or (by first | exact .inl q1 | exact .inr q2), ht, hcaps, hch, hst⟩ h
          · have HL := Lib.hid (show hasC caps 524288 = false by simpa using q2)
            clear q2
            go_enter Tryz.func95, Tryz.ntmps95
            go_wp2_with fail
            generalize hW0 : w.alloc _ = wS
            have hb : Box wS w.heap.size [.string (strL ver), .int .u32 thr, .slice An n.length cn, .int .u32 caps, .int .u8 ch, .int .u16 st, .string (strL pl)] := by rw [← hW0]; exact Box.new w _ _
            have hx0 : Ext w wS := by rw [← hW0]; exact (Ext.refl w).alloc _
            have hsz : w.heap.size + 1 = wS.heap.size := by rw [← hW0]; simp
            have HSZ := Lib.hid hsz
            have HX0 := Lib.hid hx0
            clear hW0 hsz hx0
            go_wp2_with (first
              | (go_at_call 143; have hpl9 : plainP [ver, pl] = true := HP.out; refine (plain_g _ _ [ver, pl] true (texts_new _ _ _ (by rfl) _ _ _ HSZ.out (by rfl) (by simp)) hpl9).mono ?_; clear hpl9; rintro e wT ⟨rfl, hq⟩; have hx1 : Ext wS wT := hq ▸ (Ext.refl wS).alloc _; clear hq; have c2 := hb.one' (j := 2) rfl hx1; have c3 := hb.one' (j := 3) rfl hx1; have c6 := hb.one' (j := 6) rfl hx1)
              | (go_at_call 143; have hpl9 : plainP [ver, pl] = false := HP.out; refine (plain_g _ _ [ver, pl] false (texts_new _ _ _ (by rfl) _ _ _ HSZ.out (by rfl) (by simp)) hpl9).mono ?_; clear hpl9; rintro e wT ⟨rfl, hq⟩; have hx1 : Ext wS wT := hq ▸ (Ext.refl wS).alloc _; clear hq; have c2 := hb.one' (j := 2) rfl hx1; have c3 := hb.one' (j := 3) rfl hx1; have c6 := hb.one' (j := 6) rfl hx1)
              | (go_at_call 39; have hck9 : checkE n = 0 := HK.out; refine (check_c _ _ n 0 (HN.out.ext (HX0.out.trans hx1)) hck9).mono ?_; clear hck9; rintro e wy ⟨rfl, rfl⟩)
              | (go_at_call 39; have hck9 : checkE n = 2 := HK.out; refine (check_c _ _ n 2 (HN.out.ext (HX0.out.trans hx1)) hck9).mono ?_; clear hck9; rintro e wy ⟨rfl, rfl⟩)
              | ((with_reducible show Calls _ _ #[_, Value.int .u32 33280] _ _); go_at_call 83; have hh9 : hasC _ 33280 = true := HC.out; refine (has_g _ _ _ true hh9).mono ?_; clear hh9; rintro e wy ⟨rfl, rfl⟩)
              | ((with_reducible show Calls _ _ #[_, Value.int .u32 33280] _ _); go_at_call 83; have hh9 : hasC _ 33280 = false := HC.out; refine (has_g _ _ _ false hh9).mono ?_; clear hh9; rintro e wy ⟨rfl, rfl⟩)
              | ((with_reducible show Calls _ _ #[_, Value.int .u32 8] _ _); go_at_call 83; have hh9 : hasC _ 8 = true := HD.out; refine (has_g _ _ _ true hh9).mono ?_; clear hh9; rintro e wy ⟨rfl, rfl⟩)
              | ((with_reducible show Calls _ _ #[_, Value.int .u32 8] _ _); go_at_call 83; have hh9 : hasC _ 8 = false := HD.out; refine (has_g _ _ _ false hh9).mono ?_; clear hh9; rintro e wy ⟨rfl, rfl⟩)
              | ((with_reducible show Calls _ _ #[_, Value.int .u32 524288] _ _); go_at_call 83; have hh9 : hasC _ 524288 = true := HL.out; refine (has_g _ _ _ true hh9).mono ?_; clear hh9; rintro e wy ⟨rfl, rfl⟩)
              | ((with_reducible show Calls _ _ #[_, Value.int .u32 524288] _ _); go_at_call 83; have hh9 : hasC _ 524288 = false := HL.out; refine (has_g _ _ _ false hh9).mono ?_; clear hh9; rintro e wy ⟨rfl, rfl⟩)
              | ((with_reducible show Calls _ _ #[_, Value.int .u32 1048576] _ _); go_at_call 83; have hh9 : hasC _ 1048576 = true := HA9.out; refine (has_g _ _ _ true hh9).mono ?_; clear hh9; rintro e wy ⟨rfl, rfl⟩)
              | ((with_reducible show Calls _ _ #[_, Value.int .u32 1048576] _ _); go_at_call 83; have hh9 : hasC _ 1048576 = false := HA9.out; refine (has_g _ _ _ false hh9).mono ?_; clear hh9; rintro e wy ⟨rfl, rfl⟩)
              | fail)
            go_ret
            exact ⟨rfl, HX0.out.trans hx1⟩
      · have HC := Lib.hid (show hasC caps 33280 = false by simpa using p3)
        clear p3
        go_enter Tryz.func95, Tryz.ntmps95
        go_wp2_with fail
        generalize hW0 : w.alloc _ = wS
        have hb : Box wS w.heap.size [.string (strL ver), .int .u32 thr, .slice An n.length cn, .int .u32 caps, .int .u8 ch, .int .u16 st, .string (strL pl)] := by rw [← hW0]; exact Box.new w _ _
        have hx0 : Ext w wS := by rw [← hW0]; exact (Ext.refl w).alloc _
        have hsz : w.heap.size + 1 = wS.heap.size := by rw [← hW0]; simp
        have HSZ := Lib.hid hsz
        have HX0 := Lib.hid hx0
        clear hW0 hsz hx0
        go_wp2_with (first
          | (go_at_call 143; have hpl9 : plainP [ver, pl] = true := HP.out; refine (plain_g _ _ [ver, pl] true (texts_new _ _ _ (by rfl) _ _ _ HSZ.out (by rfl) (by simp)) hpl9).mono ?_; clear hpl9; rintro e wT ⟨rfl, hq⟩; have hx1 : Ext wS wT := hq ▸ (Ext.refl wS).alloc _; clear hq; have c2 := hb.one' (j := 2) rfl hx1; have c3 := hb.one' (j := 3) rfl hx1; have c6 := hb.one' (j := 6) rfl hx1)
          | (go_at_call 143; have hpl9 : plainP [ver, pl] = false := HP.out; refine (plain_g _ _ [ver, pl] false (texts_new _ _ _ (by rfl) _ _ _ HSZ.out (by rfl) (by simp)) hpl9).mono ?_; clear hpl9; rintro e wT ⟨rfl, hq⟩; have hx1 : Ext wS wT := hq ▸ (Ext.refl wS).alloc _; clear hq; have c2 := hb.one' (j := 2) rfl hx1; have c3 := hb.one' (j := 3) rfl hx1; have c6 := hb.one' (j := 6) rfl hx1)
          | (go_at_call 39; have hck9 : checkE n = 0 := HK.out; refine (check_c _ _ n 0 (HN.out.ext (HX0.out.trans hx1)) hck9).mono ?_; clear hck9; rintro e wy ⟨rfl, rfl⟩)
          | (go_at_call 39; have hck9 : checkE n = 2 := HK.out; refine (check_c _ _ n 2 (HN.out.ext (HX0.out.trans hx1)) hck9).mono ?_; clear hck9; rintro e wy ⟨rfl, rfl⟩)
          | ((with_reducible show Calls _ _ #[_, Value.int .u32 33280] _ _); go_at_call 83; have hh9 : hasC _ 33280 = true := HC.out; refine (has_g _ _ _ true hh9).mono ?_; clear hh9; rintro e wy ⟨rfl, rfl⟩)
          | ((with_reducible show Calls _ _ #[_, Value.int .u32 33280] _ _); go_at_call 83; have hh9 : hasC _ 33280 = false := HC.out; refine (has_g _ _ _ false hh9).mono ?_; clear hh9; rintro e wy ⟨rfl, rfl⟩)
          | ((with_reducible show Calls _ _ #[_, Value.int .u32 8] _ _); go_at_call 83; have hh9 : hasC _ 8 = true := HD.out; refine (has_g _ _ _ true hh9).mono ?_; clear hh9; rintro e wy ⟨rfl, rfl⟩)
          | ((with_reducible show Calls _ _ #[_, Value.int .u32 8] _ _); go_at_call 83; have hh9 : hasC _ 8 = false := HD.out; refine (has_g _ _ _ false hh9).mono ?_; clear hh9; rintro e wy ⟨rfl, rfl⟩)
          | ((with_reducible show Calls _ _ #[_, Value.int .u32 524288] _ _); go_at_call 83; have hh9 : hasC _ 524288 = true := HL.out; refine (has_g _ _ _ true hh9).mono ?_; clear hh9; rintro e wy ⟨rfl, rfl⟩)
          | ((with_reducible show Calls _ _ #[_, Value.int .u32 524288] _ _); go_at_call 83; have hh9 : hasC _ 524288 = false := HL.out; refine (has_g _ _ _ false hh9).mono ?_; clear hh9; rintro e wy ⟨rfl, rfl⟩)
          | ((with_reducible show Calls _ _ #[_, Value.int .u32 1048576] _ _); go_at_call 83; have hh9 : hasC _ 1048576 = true := HA9.out; refine (has_g _ _ _ true hh9).mono ?_; clear hh9; rintro e wy ⟨rfl, rfl⟩)
          | ((with_reducible show Calls _ _ #[_, Value.int .u32 1048576] _ _); go_at_call 83; have hh9 : hasC _ 1048576 = false := HA9.out; refine (has_g _ _ _ false hh9).mono ?_; clear hh9; rintro e wy ⟨rfl, rfl⟩)
          | fail)
        go_ret
        exact ⟨rfl, HX0.out.trans hx1⟩
    · have HK := Lib.hid (check_two hck)
      clear hck
      go_enter Tryz.func95, Tryz.ntmps95
      go_wp2_with fail
      generalize hW0 : w.alloc _ = wS
      have hb : Box wS w.heap.size [.string (strL ver), .int .u32 thr, .slice An n.length cn, .int .u32 caps, .int .u8 ch, .int .u16 st, .string (strL pl)] := by rw [← hW0]; exact Box.new w _ _
      have hx0 : Ext w wS := by rw [← hW0]; exact (Ext.refl w).alloc _
      have hsz : w.heap.size + 1 = wS.heap.size := by rw [← hW0]; simp
      have HSZ := Lib.hid hsz
      have HX0 := Lib.hid hx0
      clear hW0 hsz hx0
      go_wp2_with (first
        | (go_at_call 143; have hpl9 : plainP [ver, pl] = true := HP.out; refine (plain_g _ _ [ver, pl] true (texts_new _ _ _ (by rfl) _ _ _ HSZ.out (by rfl) (by simp)) hpl9).mono ?_; clear hpl9; rintro e wT ⟨rfl, hq⟩; have hx1 : Ext wS wT := hq ▸ (Ext.refl wS).alloc _; clear hq; have c2 := hb.one' (j := 2) rfl hx1; have c3 := hb.one' (j := 3) rfl hx1; have c6 := hb.one' (j := 6) rfl hx1)
        | (go_at_call 143; have hpl9 : plainP [ver, pl] = false := HP.out; refine (plain_g _ _ [ver, pl] false (texts_new _ _ _ (by rfl) _ _ _ HSZ.out (by rfl) (by simp)) hpl9).mono ?_; clear hpl9; rintro e wT ⟨rfl, hq⟩; have hx1 : Ext wS wT := hq ▸ (Ext.refl wS).alloc _; clear hq; have c2 := hb.one' (j := 2) rfl hx1; have c3 := hb.one' (j := 3) rfl hx1; have c6 := hb.one' (j := 6) rfl hx1)
        | (go_at_call 39; have hck9 : checkE n = 0 := HK.out; refine (check_c _ _ n 0 (HN.out.ext (HX0.out.trans hx1)) hck9).mono ?_; clear hck9; rintro e wy ⟨rfl, rfl⟩)
        | (go_at_call 39; have hck9 : checkE n = 2 := HK.out; refine (check_c _ _ n 2 (HN.out.ext (HX0.out.trans hx1)) hck9).mono ?_; clear hck9; rintro e wy ⟨rfl, rfl⟩)
        | ((with_reducible show Calls _ _ #[_, Value.int .u32 33280] _ _); go_at_call 83; have hh9 : hasC _ 33280 = true := HC.out; refine (has_g _ _ _ true hh9).mono ?_; clear hh9; rintro e wy ⟨rfl, rfl⟩)
        | ((with_reducible show Calls _ _ #[_, Value.int .u32 33280] _ _); go_at_call 83; have hh9 : hasC _ 33280 = false := HC.out; refine (has_g _ _ _ false hh9).mono ?_; clear hh9; rintro e wy ⟨rfl, rfl⟩)
        | ((with_reducible show Calls _ _ #[_, Value.int .u32 8] _ _); go_at_call 83; have hh9 : hasC _ 8 = true := HD.out; refine (has_g _ _ _ true hh9).mono ?_; clear hh9; rintro e wy ⟨rfl, rfl⟩)
        | ((with_reducible show Calls _ _ #[_, Value.int .u32 8] _ _); go_at_call 83; have hh9 : hasC _ 8 = false := HD.out; refine (has_g _ _ _ false hh9).mono ?_; clear hh9; rintro e wy ⟨rfl, rfl⟩)
        | ((with_reducible show Calls _ _ #[_, Value.int .u32 524288] _ _); go_at_call 83; have hh9 : hasC _ 524288 = true := HL.out; refine (has_g _ _ _ true hh9).mono ?_; clear hh9; rintro e wy ⟨rfl, rfl⟩)
        | ((with_reducible show Calls _ _ #[_, Value.int .u32 524288] _ _); go_at_call 83; have hh9 : hasC _ 524288 = false := HL.out; refine (has_g _ _ _ false hh9).mono ?_; clear hh9; rintro e wy ⟨rfl, rfl⟩)
        | ((with_reducible show Calls _ _ #[_, Value.int .u32 1048576] _ _); go_at_call 83; have hh9 : hasC _ 1048576 = true := HA9.out; refine (has_g _ _ _ true hh9).mono ?_; clear hh9; rintro e wy ⟨rfl, rfl⟩)
        | ((with_reducible show Calls _ _ #[_, Value.int .u32 1048576] _ _); go_at_call 83; have hh9 : hasC _ 1048576 = false := HA9.out; refine (has_g _ _ _ false hh9).mono ?_; clear hh9; rintro e wy ⟨rfl, rfl⟩)
        | fail)
      go_ret
      exact ⟨rfl, HX0.out.trans hx1⟩
  · have HP := Lib.hid (show plainP [ver, pl] = false by simpa using p1)
    clear p1
    go_enter Tryz.func95, Tryz.ntmps95
    go_wp2_with fail
    generalize hW0 : w.alloc _ = wS
    have hb : Box wS w.heap.size [.string (strL ver), .int .u32 thr, .slice An n.length cn, .int .u32 caps, .int .u8 ch, .int .u16 st, .string (strL pl)] := by rw [← hW0]; exact Box.new w _ _
    have hx0 : Ext w wS := by rw [← hW0]; exact (Ext.refl w).alloc _
    have hsz : w.heap.size + 1 = wS.heap.size := by rw [← hW0]; simp
    have HSZ := Lib.hid hsz
    have HX0 := Lib.hid hx0
    clear hW0 hsz hx0
    go_wp2_with (first
      | (go_at_call 143; have hpl9 : plainP [ver, pl] = true := HP.out; refine (plain_g _ _ [ver, pl] true (texts_new _ _ _ (by rfl) _ _ _ HSZ.out (by rfl) (by simp)) hpl9).mono ?_; clear hpl9; rintro e wT ⟨rfl, hq⟩; have hx1 : Ext wS wT := hq ▸ (Ext.refl wS).alloc _; clear hq; have c2 := hb.one' (j := 2) rfl hx1; have c3 := hb.one' (j := 3) rfl hx1; have c6 := hb.one' (j := 6) rfl hx1)
      | (go_at_call 143; have hpl9 : plainP [ver, pl] = false := HP.out; refine (plain_g _ _ [ver, pl] false (texts_new _ _ _ (by rfl) _ _ _ HSZ.out (by rfl) (by simp)) hpl9).mono ?_; clear hpl9; rintro e wT ⟨rfl, hq⟩; have hx1 : Ext wS wT := hq ▸ (Ext.refl wS).alloc _; clear hq; have c2 := hb.one' (j := 2) rfl hx1; have c3 := hb.one' (j := 3) rfl hx1; have c6 := hb.one' (j := 6) rfl hx1)
      | (go_at_call 39; have hck9 : checkE n = 0 := HK.out; refine (check_c _ _ n 0 (HN.out.ext (HX0.out.trans hx1)) hck9).mono ?_; clear hck9; rintro e wy ⟨rfl, rfl⟩)
      | (go_at_call 39; have hck9 : checkE n = 2 := HK.out; refine (check_c _ _ n 2 (HN.out.ext (HX0.out.trans hx1)) hck9).mono ?_; clear hck9; rintro e wy ⟨rfl, rfl⟩)
      | ((with_reducible show Calls _ _ #[_, Value.int .u32 33280] _ _); go_at_call 83; have hh9 : hasC _ 33280 = true := HC.out; refine (has_g _ _ _ true hh9).mono ?_; clear hh9; rintro e wy ⟨rfl, rfl⟩)
      | ((with_reducible show Calls _ _ #[_, Value.int .u32 33280] _ _); go_at_call 83; have hh9 : hasC _ 33280 = false := HC.out; refine (has_g _ _ _ false hh9).mono ?_; clear hh9; rintro e wy ⟨rfl, rfl⟩)
      | ((with_reducible show Calls _ _ #[_, Value.int .u32 8] _ _); go_at_call 83; have hh9 : hasC _ 8 = true := HD.out; refine (has_g _ _ _ true hh9).mono ?_; clear hh9; rintro e wy ⟨rfl, rfl⟩)
      | ((with_reducible show Calls _ _ #[_, Value.int .u32 8] _ _); go_at_call 83; have hh9 : hasC _ 8 = false := HD.out; refine (has_g _ _ _ false hh9).mono ?_; clear hh9; rintro e wy ⟨rfl, rfl⟩)
      | ((with_reducible show Calls _ _ #[_, Value.int .u32 524288] _ _); go_at_call 83; have hh9 : hasC _ 524288 = true := HL.out; refine (has_g _ _ _ true hh9).mono ?_; clear hh9; rintro e wy ⟨rfl, rfl⟩)
      | ((with_reducible show Calls _ _ #[_, Value.int .u32 524288] _ _); go_at_call 83; have hh9 : hasC _ 524288 = false := HL.out; refine (has_g _ _ _ false hh9).mono ?_; clear hh9; rintro e wy ⟨rfl, rfl⟩)
      | ((with_reducible show Calls _ _ #[_, Value.int .u32 1048576] _ _); go_at_call 83; have hh9 : hasC _ 1048576 = true := HA9.out; refine (has_g _ _ _ true hh9).mono ?_; clear hh9; rintro e wy ⟨rfl, rfl⟩)
      | ((with_reducible show Calls _ _ #[_, Value.int .u32 1048576] _ _); go_at_call 83; have hh9 : hasC _ 1048576 = false := HA9.out; refine (has_g _ _ _ false hh9).mono ?_; clear hh9; rintro e wy ⟨rfl, rfl⟩)
      | fail)
    go_ret
    exact ⟨rfl, HX0.out.trans hx1⟩
set_option maxHeartbeats 1000000 in
theorem appendGreeting_z (w : World) (ver n pl : List UInt8) (thr caps ch st : Int) (vn : Value) (hn : Rd w vn n) (ht : 0 ≤ thr ∧ thr < 4294967296) (hcaps : 0 ≤ caps ∧ caps < 4294967296) (hch : 0 ≤ ch ∧ ch < 256) (hst : 0 ≤ st ∧ st < 65536) (h : ¬ GreOk ⟨ver, thr, n, caps, ch, st, pl⟩) :
    Calls Tryz.prog 55 #[.slice none 0 0, .agg #[.string (strL ver), .int .u32 thr, vn, .int .u32 caps, .int .u8 ch, .int .u16 st, .string (strL pl)]] w (RetBE w [] 2) := by
  have HN := Lib.hid hn
  obtain ⟨An, cn, rfl, _⟩ := hn
  have HF := Lib.hid (fun w1 hr => fineGreeting_z w1 ver n pl thr caps ch st (.slice An n.length cn) hr ht hcaps hch hst h)
  clear ht hcaps hch hst h
  go_enter Tryz.func55, Tryz.ntmps55
  go_wp2_with (first
    | (go_at_call 95; refine (HF.out _ (HN.out.ext ((Ext.refl _).alloc _))).mono ?_; rintro e w1 ⟨rfl, hx1⟩)
    | fail)
  go_ret2
  exact ⟨_, rfl, Own.nil _ _, ((Ext.refl _).alloc _).trans hx1⟩
end Go.Proofs.YtbodppfpmpmadaaGreat

namespace Go.Proofs.YtbodppfpmpmadaaGreat
open Go.RowKit

theorem leN_zeros : ∀ n : Nat, leN (List.replicate n 0) = 0
  | 0 => rfl
  | n + 1 => by rw [List.replicate_succ, leN, leN_zeros n]; rfl

theorem rF_rB (n : Int) (s : List UInt8 × Int) (hn : 1 ≤ n ∧ n ≤ 8) : ∃ L r, rB n.toNat s = (L, (rF n s).2) ∧ readF L n = ((rF n s).1, r) := by
  obtain ⟨l, e⟩ := s
  have h0 : ¬ (n < 1 ∨ 8 < n) := by omega
  have hz : (readF (List.replicate n.toNat 0) n).1 = 0 := by
    unfold readF
    rw [if_neg h0, List.length_replicate, if_neg (by omega), List.take_replicate]
    simp [leN_zeros]
  by_cases he : e = 0
  · subst he
    by_cases hl : (l.length : Int) < n
    · refine ⟨List.replicate n.toNat 0, (readF (List.replicate n.toNat 0) n).2, ?_, ?_⟩
      · simp [rB, rF, readF, h0, hl, show l.length < n.toNat by omega]
      · refine Prod.ext ?_ rfl
        rw [hz]
        simp [rF, readF, h0, hl]
    · refine ⟨l.take n.toNat, 0, ?_, ?_⟩
      · simp [rB, rF, readF, h0, hl, show ¬ l.length < n.toNat by omega]
      · have h1 : ¬ (min (n.toNat : Int) (l.length : Int) < n) := by omega
        have h2 : ¬ ((min n.toNat l.length : Nat) : Int) < n := by omega
        simp only [rF, readF, h0, hl, ↓reduceIte, List.length_take, h2, List.take_take, Nat.min_self]
  · refine ⟨List.replicate n.toNat 0, (readF (List.replicate n.toNat 0) n).2, ?_, ?_⟩
    · simp [rB, rF, he]
    · refine Prod.ext ?_ rfl
      rw [hz]
      simp [rF, he]

set_option maxRecDepth 100000 in
set_option maxHeartbeats 1000000 in
theorem byte_m (a w : World) (g : Nat) (s : List UInt8 × Int) (b : UInt8) (s' : List UInt8 × Int) (h : Rdr a w g s) (hx : rB 1 s = ([b], s')) :
    Calls Tryz.prog 106 #[.pointer (some ⟨g, 0, none⟩)] w (RetR a w g (.int .u8 (b.toNat : Int)) s') := by
  have H := Lib.hid h
  have HX := Lib.hid hx
  clear h hx
  go_enter Tryz.func106, Tryz.ntmps106
  go_wp2_with (go_at_call 109; refine (bytes_m a _ g s 1 _ _ H.out (by omega) HX.out).mono ?_; rintro e w1 ⟨v1, rfl, ho, R1, O1⟩; obtain ⟨A1, q1, rfl, z1, z2, z3, z4⟩ := ho.rd; obtain ⟨b1, o1, rfl, hcs⟩ := z4 (by simp); have hc := hcs 0 (by simp); clear hcs z3 z4; dsimp only [List.getD_cons_zero, Nat.add_zero] at hc)
  go_ret
  exact ⟨rfl, R1, O1⟩

set_option maxRecDepth 100000 in
set_option maxHeartbeats 1000000 in
theorem fixed_r (a w : World) (g : Nat) (s : List UInt8 × Int) (n x : Int) (s' : List UInt8 × Int) (h : Rdr a w g s) (hn : 1 ≤ n ∧ n ≤ 8) (hx : rF n s = (x, s')) :
    Calls Tryz.prog 110 #[.pointer (some ⟨g, 0, none⟩), .int .i64 n] w (RetR a w g (.int .u64 x) s') := by
  have H := Lib.hid h
  obtain ⟨L, r, h1, h2⟩ := rF_rB n s hn
  rw [hx] at h1 h2
  have HX := Lib.hid h1
  have HF := Lib.hid h2
  obtain ⟨m, rfl⟩ : ∃ m : Nat, n = m := ⟨n.toNat, by omega⟩
  clear h hx h1 h2
  go_enter Tryz.func110, Tryz.ntmps110
  go_wp2_with (first
    | (go_at_call 109; refine (bytes_m a _ g s m _ _ H.out (by omega) HX.out).mono ?_; rintro e w1 ⟨v1, rfl, ho, R1, O1⟩)
    | (go_at_call 160; refine (readFixed_at_ref _ _ L m _ _ ho.rd HF.out).mono ?_; rintro e w2 ⟨rfl, rfl⟩))
  go_ret
  exact ⟨rfl, R1, O1⟩

theorem readT_none {l x : List UInt8} {n : Nat} {r : Int} (h : readT l = (x, n, r)) (hr : r ≠ 0) : n = 0 := by
  unfold readT at h
  split at h
  · split at h
    · simp only [Prod.mk.injEq] at h; omega
    · simp only [Prod.mk.injEq] at h; exact absurd h.2.2.symm hr
  · simp only [Prod.mk.injEq] at h; omega
theorem readZr_none {l x : List UInt8} {n : Nat} {r : Int} (h : readZ l = (x, n, r)) (hr : r ≠ 0) : n = 0 := by
  unfold readZ at h
  split at h
  · simp only [Prod.mk.injEq] at h; exact absurd h.2.2.symm hr
  · simp only [Prod.mk.injEq] at h; omega
theorem readZr_le {l x : List UInt8} {n : Nat} (h : readZ l = (x, n, 0)) : n ≤ l.length := by
  unfold readZ at h
  split at h
  · rename_i hc
    have := upZ_lt l hc
    simp only [Prod.mk.injEq] at h
    omega
  · simp at h
theorem readT_at_ref (w : World) (v : Value) (l x : List UInt8) (n : Nat) (r : Int) (hr : Rd w v l) (h : readT l = (x, n, r)) :
    Calls Tryz.prog 163 #[v] w fun e w' => e = .returned (.tuple #[.string (strL x), .int .i64 n, .int .i64 r]) ∧ w = w' := by
  have := readText_ref w v l hr
  rw [h] at this
  exact this
theorem readZ_at_ref (w : World) (v : Value) (l x : List UInt8) (n : Nat) (r : Int) (hr : Rd w v l) (h : readZ l = (x, n, r)) :
    Calls Tryz.prog 159 #[v] w fun e w' => e = .returned (.tuple #[.string (strL x), .int .i64 n, .int .i64 r]) ∧ w = w' := by
  have := readEnded_ref w v l hr
  rw [h] at this
  exact this
def rZr (s : List UInt8 × Int) : List UInt8 × (List UInt8 × Int) := if s.2 = 0 then (if (readZ s.1).2.2 = 0 then ((readZ s.1).1, (s.1.drop (readZ s.1).2.1, 0)) else ((readZ s.1).1, (s.1, (readZ s.1).2.2))) else ([], s)

set_option maxRecDepth 100000 in
set_option maxHeartbeats 1000000 in
theorem text_r (a w : World) (g : Nat) (s : List UInt8 × Int) (x : List UInt8) (s' : List UInt8 × Int) (h : Rdr a w g s) (hx : rT s = (x, s')) :
    Calls Tryz.prog 118 #[.pointer (some ⟨g, 0, none⟩)] w (RetR a w g (.string (strL x)) s') := by
  obtain ⟨l, e⟩ := s
  obtain ⟨v, c0, hr⟩ := h.c0
  have c1 := h.c1
  have f0 := h.f0
  have f1 := h.f1
  try dsimp only at hr c1
  have HR := Lib.hid hr
  have H := Lib.hid h
  clear h hr
  by_cases he : e = 0
  · subst he
    obtain ⟨x1, n1, r1, hq⟩ : ∃ x1 n1 r1, readT l = (x1, n1, r1) := ⟨_, _, _, rfl⟩
    have HQ := Lib.hid hq
    have hs : x = x1 ∧ s' = (l.drop n1, r1) ∧ n1 ≤ l.length := by
      by_cases h1 : r1 = 0
      · subst h1
        simp only [rT, hq, ↓reduceIte, Prod.mk.injEq] at hx
        exact ⟨hx.1.symm, hx.2.symm, readT_le hq⟩
      · have := readT_none hq h1
        subst this
        simp only [rT, hq, ↓reduceIte, h1, Prod.mk.injEq] at hx
        exact ⟨hx.1.symm, hx.2.symm, Nat.zero_le _⟩
    obtain ⟨rfl, rfl, hm⟩ := hs
    clear hq hx
    have c0' : (w.setCell ⟨g, 1, none⟩ (.int .i64 r1)).cell? ⟨g, 0, none⟩ = some v := (World.cell?_setCell_other _ _ _ _ (by simp)).trans c0
    go_enter Tryz.func118, Tryz.ntmps118
    go_wp2_with (first
      | (go_at_call 163; refine (readT_at_ref _ _ l _ _ _ (HR.out.ext H.out.ext) HQ.out).mono ?_; rintro e w1 ⟨rfl, rfl⟩)
      | ((with_reducible show AtS 30); refine wpl_cut_lo bt HR.out (n1 : Int) (by omega) (by omega) rfl _ _ _ rfl rfl rfl ?_; intro A2 m2 cap2 hr2))
    go_ret
    exact ⟨rfl, by simpa using (H.out.set1 r1).set0 hr2, ((On.refl g w).set 1 _).set 0 _⟩
  · have hb : (e == 0) = false := by simpa using he
    simp only [rT, he, ↓reduceIte, Prod.mk.injEq] at hx
    obtain ⟨rfl, rfl⟩ := hx
    go_enter Tryz.func118, Tryz.ntmps118
    go_wp2_with fail
    go_ret
    exact ⟨rfl, H.out, On.refl g w⟩

set_option maxRecDepth 100000 in
set_option maxHeartbeats 1000000 in
theorem ended_r (a w : World) (g : Nat) (s : List UInt8 × Int) (x : List UInt8) (s' : List UInt8 × Int) (h : Rdr a w g s) (hx : rZr s = (x, s')) :
    Calls Tryz.prog 108 #[.pointer (some ⟨g, 0, none⟩)] w (RetR a w g (.string (strL x)) s') := by
  obtain ⟨l, e⟩ := s
  obtain ⟨v, c0, hr⟩ := h.c0
  have c1 := h.c1
  have f0 := h.f0
  have f1 := h.f1
  try dsimp only at hr c1
  have HR := Lib.hid hr
  have H := Lib.hid h
  clear h hr
  by_cases he : e = 0
  · subst he
    obtain ⟨x1, n1, r1, hq⟩ : ∃ x1 n1 r1, readZ l = (x1, n1, r1) := ⟨_, _, _, rfl⟩
    have HQ := Lib.hid hq
    have hs : x = x1 ∧ s' = (l.drop n1, r1) ∧ n1 ≤ l.length := by
      by_cases h1 : r1 = 0
      · subst h1
        simp only [rZr, hq, ↓reduceIte, Prod.mk.injEq] at hx
        exact ⟨hx.1.symm, hx.2.symm, readZr_le hq⟩
      · have := readZr_none hq h1
        subst this
        simp only [rZr, hq, ↓reduceIte, h1, Prod.mk.injEq] at hx
        exact ⟨hx.1.symm, hx.2.symm, Nat.zero_le _⟩
    obtain ⟨rfl, rfl, hm⟩ := hs
    clear hq hx
    have c0' : (w.setCell ⟨g, 1, none⟩ (.int .i64 r1)).cell? ⟨g, 0, none⟩ = some v := (World.cell?_setCell_other _ _ _ _ (by simp)).trans c0
    go_enter Tryz.func108, Tryz.ntmps108
    go_wp2_with (first
      | (go_at_call 159; refine (readZ_at_ref _ _ l _ _ _ (HR.out.ext H.out.ext) HQ.out).mono ?_; rintro e w1 ⟨rfl, rfl⟩)
      | ((with_reducible show AtS 30); refine wpl_cut_lo bt HR.out (n1 : Int) (by omega) (by omega) rfl _ _ _ rfl rfl rfl ?_; intro A2 m2 cap2 hr2))
    go_ret
    exact ⟨rfl, by simpa using (H.out.set1 r1).set0 hr2, ((On.refl g w).set 1 _).set 0 _⟩
  · have hb : (e == 0) = false := by simpa using he
    simp only [rZr, he, ↓reduceIte, Prod.mk.injEq] at hx
    obtain ⟨rfl, rfl⟩ := hx
    go_enter Tryz.func108, Tryz.ntmps108
    go_wp2_with fail
    go_ret
    exact ⟨rfl, H.out, On.refl g w⟩

set_option maxRecDepth 100000 in
set_option maxHeartbeats 1000000 in
theorem done_r (a w : World) (g : Nat) (s s' : List UInt8 × Int) (h : Rdr a w g s) (hx : rO s = s') :
    Calls Tryz.prog 112 #[.pointer (some ⟨g, 0, none⟩)] w (RetR a w g (.int .i64 s'.2) s') := by
  obtain ⟨l, e⟩ := s
  obtain ⟨v, c0, hr⟩ := h.c0
  have c1 := h.c1
  have f0 := h.f0
  have f1 := h.f1
  try dsimp only at hr c1
  have HR := Lib.hid hr
  have H := Lib.hid h
  clear h hr
  obtain ⟨A, cap, rfl, hle, hm, hA, hc⟩ := id HR.out
  unfold maxLen at hm
  clear hA hc
  unfold rO at hx
  dsimp only at hx
  by_cases hl : 0 < l.length
  · rw [decide_eq_true hl] at hx
    have HX := Lib.hid hx
    clear hx
    go_enter Tryz.func112, Tryz.ntmps112
    go_wp2_with (go_at_call 107; refine (wrong_m a _ g _ _ true H.out HX.out).mono ?_; rintro e w1 ⟨rfl, R1, O1⟩; have c1' := R1.c1)
    go_ret
    exact ⟨rfl, R1, O1⟩
  · rw [decide_eq_false hl] at hx
    have HX := Lib.hid hx
    clear hx
    go_enter Tryz.func112, Tryz.ntmps112
    go_wp2_with (go_at_call 107; refine (wrong_m a _ g _ _ false H.out HX.out).mono ?_; rintro e w1 ⟨rfl, R1, O1⟩; have c1' := R1.c1)
    go_ret
    exact ⟨rfl, R1, O1⟩

theorem u8_nz {c : UInt8} (h : c ≠ 0) : ((c.toNat : Int) == 0) = false := by
  rw [beq_eq_false_iff_ne]
  intro e
  exact h (byte_zero (by rw [e]; rfl))

theorem any_take_succ (L : List UInt8) (k : Nat) (h : k < L.length) : (L.take (k + 1)).any (· != 0) = ((L.take k).any (· != 0) || (L.getD k 0 != 0)) := by
  rw [take_succ_getD L k h, List.any_append]
  simp

def rN (n : Nat) (s : List UInt8 × Int) : List UInt8 × Int := rW ((rB n s).1.any (· != 0)) (rB n s).2

set_option maxRecDepth 100000 in
set_option maxHeartbeats 2000000 in
theorem zeros_r (a w : World) (g : Nat) (s : List UInt8 × Int) (n : Nat) (s' : List UInt8 × Int) (h : Rdr a w g s) (hn : n ≤ 100000) (hx : rN n s = s') :
    Calls Tryz.prog 117 #[.pointer (some ⟨g, 0, none⟩), .int .i64 (n : Int)] w (RetR a w g (.tuple #[]) s') := by
  have H := Lib.hid h
  obtain ⟨L, s1, hq⟩ : ∃ L s1, rB n s = (L, s1) := ⟨_, _, rfl⟩
  have hL : L.length = n := by have := rB_length n s; rw [hq] at this; exact this
  unfold rN at hx
  rw [hq] at hx
  dsimp only at hx
  have HQ := Lib.hid hq
  have HX := Lib.hid hx
  clear h hq hx
  subst hL
  go_enter Tryz.func117, Tryz.ntmps117
  go_wp2_with (go_at_call 109; refine (bytes_m a _ g s L.length _ _ H.out hn HQ.out).mono ?_; rintro e w1 ⟨v1, rfl, ho, R1, O1⟩; obtain ⟨A1, q1, rfl, z1, z2, z3, z4⟩ := ho.rd; have HC := Lib.hid z4; clear z3 z4; have O1' := Lib.hid O1; clear O1)
  go_loop [5, 6] (fun b i => ∃ k : Nat, k ≤ L.length ∧ b = .bool ((L.take k).any (· != 0)) ∧ i = .int .i64 k) (fun _ i => L.length - (intOf i).toNat)
  case atStart => exact ⟨0, Nat.zero_le _, rfl, rfl⟩
  case round =>
    obtain ⟨k, hk, rfl, rfl⟩ := hrel
    obtain ⟨q, hq⟩ : ∃ q, (L.take k).any (· != 0) = q := ⟨_, rfl⟩
    rw [hq]
    have HK := Lib.hid hq
    clear hq
    by_cases hlt : k < L.length
    · obtain ⟨b, o, rfl, hc2⟩ := HC.out (by intro h; subst h; simp at hlt)
      have hcell := hc2 k hlt
      clear hc2
      obtain ⟨c, hcv⟩ : ∃ c, c = L.getD k 0 := ⟨_, rfl⟩
      rw [← hcv] at hcell
      have HV := Lib.hid hcv
      clear hcv
      cases q
      · by_cases hc0 : c = 0
        · subst hc0
          have hz : (((0 : UInt8).toNat : Int) == 0) = true := rfl
          go_wp2_with fail
          go_round
          case rel => exact ⟨k + 1, by omega, by rw [any_take_succ L k hlt, HK.out, ← HV.out]; rfl, by go_num⟩
          case measure => simp [intOf]; omega
        · have hz : ((c.toNat : Int) == 0) = false := u8_nz hc0
          go_wp2_with fail
          go_round
          case rel => exact ⟨k + 1, by omega, by rw [any_take_succ L k hlt, HK.out, ← HV.out]; show Value.bool ((c.toNat : Int) != 0) = Value.bool (false || c != 0); rw [bne, hz]; simp [hc0], by go_num⟩
          case measure => simp [intOf]; omega
      · go_wp2_with fail
        go_round
        case rel => exact ⟨k + 1, by omega, by rw [any_take_succ L k hlt, HK.out]; rfl, by go_num⟩
        case measure => simp [intOf]; omega
    · obtain rfl : k = L.length := by omega
      rw [List.take_length] at HK
      rw [HK.out] at HX
      go_wp2_with (go_at_call 107; refine (wrong_m a _ g _ _ q R1 HX.out).mono ?_; rintro e w2 ⟨rfl, R2, O2⟩)
      refine bodyPost_end (results_none rfl _ _ _) rfl ?_
      exact ⟨rfl, R2, O1'.out.trans O2⟩
end Go.Proofs.YtbodppfpmpmadaaGreat

namespace Go.Proofs.YtbodppfpmpmadaaGreat
open Go.RowKit

theorem rF_rX (n : Nat) (s : List UInt8 × Int) (h1 : 1 ≤ n) (h8 : n ≤ 8) : rF (n : Int) s = rX n s := by
  obtain ⟨L, r, e1, e2⟩ := rF_rB (n : Int) s (by omega)
  have e3 : ((n : Int)).toNat = n := by omega
  rw [e3] at e1
  have hl := rB_length n s
  rw [e1] at hl
  have e4 := readF_all L n hl h1 h8
  rw [e2] at e4
  unfold rX
  rw [e1]
  have e5 : (rF (n : Int) s).1 = ((leN L : Nat) : Int) := by
    have := congrArg Prod.fst e4
    exact this
  exact Prod.ext e5 rfl
theorem rT_rU (s : List UInt8 × Int) : rT s = rU s := by
  unfold rT rU
  by_cases h : s.2 = 0
  · rw [if_pos h, if_pos h]
    by_cases h2 : (readT s.1).2.2 = 0
    · rw [if_pos h2, if_pos h2]
    · rw [if_neg h2, if_neg h2]
      have : (readT s.1).1 = [] := by
        unfold readT at h2 ⊢
        split
        · split
          · rfl
          · rename_i a b
            rw [if_pos a, if_neg b] at h2
            exact absurd rfl h2
        · rfl
      rw [this]
  · rw [if_neg h, if_neg h]
theorem any_zeros : ∀ (L : List UInt8) (n : Nat), L.length = n → L.any (· != 0) = (L != List.replicate n 0)
  | [], 0, _ => rfl
  | x :: L, n + 1, h => by
    have ih := any_zeros L n (by simpa using h)
    rw [List.any_cons, ih, List.replicate_succ]
    by_cases e : x = 0
    · subst e
      simp [bne]
    · have e1 : (x != 0) = true := by simpa using e
      rw [e1]
      symm
      simp [e]
  | [], n + 1, h => by simp at h
  | x :: L, 0, h => by simp at h
theorem rN_r0 (n : Nat) (s : List UInt8 × Int) : rN n s = r0 n s := by
  unfold rN r0
  rw [any_zeros _ n (rB_length n s)]
theorem fixed_q (a w : World) (g : Nat) (s : List UInt8 × Int) (n : Nat) (x : Int) (s' : List UInt8 × Int) (h : Rdr a w g s) (h1 : 1 ≤ n) (h8 : n ≤ 8) (hx : rX n s = (x, s')) :
    Calls Tryz.prog 110 #[.pointer (some ⟨g, 0, none⟩), .int .i64 (n : Int)] w (RetR a w g (.int .u64 x) s') :=
  fixed_r a w g s n x s' h (by omega) (by rw [rF_rX n s h1 h8]; exact hx)
theorem counted_q (a w : World) (g : Nat) (s : List UInt8 × Int) (x : List UInt8) (s' : List UInt8 × Int) (h : Rdr a w g s) (hx : rU s = (x, s')) :
    Calls Tryz.prog 118 #[.pointer (some ⟨g, 0, none⟩)] w (RetR a w g (.string (strL x)) s') :=
  text_r a w g s x s' h (by rw [rT_rU]; exact hx)
theorem zeros_q (n : Nat) (hn : n ≤ 100000) (a w : World) (g : Nat) (s s' : List UInt8 × Int) (h : Rdr a w g s) (hx : r0 n s = s') :
    Calls Tryz.prog 117 #[.pointer (some ⟨g, 0, none⟩), .int .i64 (n : Int)] w (RetR a w g (.tuple #[]) s') :=
  zeros_r a w g s n s' h hn (by rw [rN_r0]; exact hx)
theorem rZ_rZr (s : List UInt8 × Int) : rZr s = rZ s := by
  unfold rZr rZ
  by_cases h : s.2 = 0
  · rw [if_pos h, if_pos h]
    by_cases h2 : (readZ s.1).2.2 = 0
    · rw [if_pos h2, if_pos h2]
    · rw [if_neg h2, if_neg h2]
      have : (readZ s.1).1 = [] := by
        unfold readZ at h2 ⊢
        split
        · rename_i a
          rw [if_pos a] at h2
          exact absurd rfl h2
        · rfl
      rw [this]
  · rw [if_neg h, if_neg h]
theorem ended_q (a w : World) (g : Nat) (s : List UInt8 × Int) (x : List UInt8) (s' : List UInt8 × Int) (h : Rdr a w g s) (hx : rZ s = (x, s')) :
    Calls Tryz.prog 108 #[.pointer (some ⟨g, 0, none⟩)] w (RetR a w g (.string (strL x)) s') :=
  ended_r a w g s x s' h (by rw [rZ_rZr]; exact hx)
end Go.Proofs.YtbodppfpmpmadaaGreat

