import Derived.Test.YtbodppfpmpmadaaGreatGrJlC
import Derived.Test.YtbodppfpmpmadaaGreatGrJrC
/- The law's nonce; the chapter's first examples; more. -/
namespace Go.Proofs.YtbodppfpmpmadaaGreat
open Go.RowKit

theorem appendAnswer_g (w : World) (caps most ch : Int) (user resp db pl : List UInt8) (ps : Pairs) (vr va : Value) (hr : Rd w vr resp) (ha : Attrs w va ps) (h : AnsOk ⟨caps, most, ch, user, resp, db, pl, ps⟩)
    (hul : user.length ≤ 10000) (hdl : db.length ≤ 10000) (hpl : pl.length ≤ 10000) (hal : (attrsB ps).length ≤ 900000) :
    Calls Tryz.prog 93 #[.slice none 0 0, .agg #[.int .u32 caps, .int .u32 most, .int .u8 ch, .string (strL user), vr, .string (strL db), .string (strL pl), va]] w (RetBE w (answerB ⟨caps, most, ch, user, resp, db, pl, ps⟩) 0) := by
  cases hk : hasC caps 2097152 with
  | true => exact appendAnswer_l w caps most ch user resp db pl ps vr va hr ha h hul hdl hpl hal hk
  | false => exact appendAnswer_r w caps most ch user resp db pl ps vr va hr ha h hul hdl hpl hal hk

def nonceT : List UInt8 := (List.range 20).map fun i => UInt8.ofNat (i + 1)
theorem nonceT_take (k : Nat) (h : k < 20) : nonceT.take (k + 1) = nonceT.take k ++ [UInt8.ofNat (((k : Int) + 1).toNat)] := by
  have e : ((k : Int) + 1).toNat = k + 1 := by omega
  rw [e]
  unfold nonceT
  rw [List.take_add_one, List.getElem?_map, List.getElem?_range h]
  rfl
set_option maxRecDepth 100000 in
theorem appendMore_c (w : World) (v : Value) (hr : Rd w v [3]) : Calls Tryz.prog 141 #[.slice none 0 0, v] w (RetB w [1, 3]) := by
  have HR := Lib.hid hr
  obtain ⟨A, c, rfl, _⟩ := hr
  go_enter Tryz.func141, Tryz.ntmps141
  go_wp2_with (first
    | (go_at_call 97; refine (cloneN_c _).mono ?_; rintro e wx ⟨rfl, rfl⟩)
    | ((with_reducible show wpList _ _ _ (⟨some 8, _, _, _, _, _⟩ :: _) _ _); refine wpl_append_rd bt (Own.nil _ w.heap.size) (rd_lit _ _ [1] (by rfl) (by simp) 1 _ (by rfl) (by rfl)) rfl _ _ rfl rfl rfl (by simp) (Ext.size ((Ext.refl w).alloc _)) ?_; intro v1 w1 ho1 hb1; have hE1 := ((Ext.refl w).alloc _).below hb1 (Nat.le_refl _))
    | ((with_reducible show wpList _ _ _ (⟨some 10, _, _, _, _, _⟩ :: _) _ _); refine wpl_append_rd bt ho1 (HR.out.ext hE1) rfl _ _ rfl rfl rfl (by simp) (Ext.size hE1) ?_; intro v2 w2 ho2 hb2; have hE2 := hE1.below hb2 (Nat.le_refl _))
    | fail)
  go_ret
  exact ⟨_, rfl, ho2, hE2⟩
set_option maxRecDepth 100000 in
set_option maxHeartbeats 1000000 in
theorem fineAnswer_0 (w : World) : Calls Tryz.prog 148 #[.agg #[.int .u32 0, .int .u32 0, .int .u8 0, .string ⟨#[]⟩, .slice none 0 0, .string ⟨#[]⟩, .string ⟨#[]⟩, .slice none 0 0]] w fun e w' => e = .returned (.bool false) ∧ Ext w w' := by
  have H1 := Lib.hid (show plainP [[], [], []] = true by decide)
  have H2 := Lib.hid (show hasC 0 33280 = false by decide)
  go_enter Tryz.func148, Tryz.ntmps148
  go_wp2_with fail
  generalize hW0 : w.alloc _ = wS
  have hb : Box wS w.heap.size [.int .u32 0, .int .u32 0, .int .u8 0, .string ⟨#[]⟩, .slice none 0 0, .string ⟨#[]⟩, .string ⟨#[]⟩, .slice none 0 0] := by rw [← hW0]; exact Box.new w _ _
  have hx0 : Ext w wS := by rw [← hW0]; exact (Ext.refl w).alloc _
  have hsz : w.heap.size + 1 = wS.heap.size := by rw [← hW0]; simp
  have HSZ := Lib.hid hsz
  have HX0 := Lib.hid hx0
  clear hW0 hsz hx0
  go_wp2_with (first
    | (go_at_call 143; refine (plain_g _ _ [[], [], []] true (texts_new _ _ _ (by rfl) _ _ _ HSZ.out (by rfl) (by simp)) H1.out).mono ?_; rintro e wT ⟨rfl, hq⟩; have hx1 : Ext wS wT := hq ▸ (Ext.refl wS).alloc _; clear hq; have c0 := hb.one' (j := 0) rfl hx1; have c5 := hb.one' (j := 5) rfl hx1; have c6 := hb.one' (j := 6) rfl hx1)
    | (go_at_call 83; refine (has_g _ _ _ false H2.out).mono ?_; rintro e wy ⟨rfl, rfl⟩)
    | fail)
  go_ret
  exact ⟨rfl, HX0.out.trans hx1⟩
set_option maxRecDepth 100000 in
theorem appendAnswer_0 (w : World) : Calls Tryz.prog 93 #[.slice none 0 0, .agg #[.int .u32 0, .int .u32 0, .int .u8 0, .string ⟨#[]⟩, .slice none 0 0, .string ⟨#[]⟩, .string ⟨#[]⟩, .slice none 0 0]] w (RetBE w [] 2) := by
  go_enter Tryz.func93, Tryz.ntmps93
  go_wp2_with (first
    | (go_at_call 148; refine (fineAnswer_0 _).mono ?_; rintro e w1 ⟨rfl, hx1⟩)
    | fail)
  go_ret2
  exact ⟨_, rfl, Own.nil _ _, ((Ext.refl _).alloc _).trans hx1⟩
end Go.Proofs.YtbodppfpmpmadaaGreat
