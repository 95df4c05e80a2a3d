import Derived.Test.YtaiakkifefedoaaGrJlC
import Derived.Test.YtaiakkifefedoaaGrJrC
/- The law's nonce; the chapter's first examples; more. -/
namespace Go.Proofs.Ytaiakkifefedoaa
open Go.RowKit

theorem appendAnswer_g (w : World) (caps most ch : Int) (user resp db pl : List UInt8) (ps : Pairs) (vr va : Value) (hr : Rd w vr resp) (ha : Attrs w va ps) (h : AnsOk ⟨caps, most, ch, user, resp, db, pl, ps⟩)
    (hul : user.length ≤ 10000) (hdl : db.length ≤ 10000) (hpl : pl.length ≤ 10000) (hal : (attrsB ps).length ≤ 900000) :
    Calls Try.prog 13 #[.slice none 0 0, .agg #[.int .u32 caps, .int .u32 most, .int .u8 ch, .string (strL user), vr, .string (strL db), .string (strL pl), va]] w (RetBE w (answerB ⟨caps, most, ch, user, resp, db, pl, ps⟩) 0) := by
  cases hk : hasC caps 2097152 with
  | true => exact appendAnswer_l w caps most ch user resp db pl ps vr va hr ha h hul hdl hpl hal hk
  | false => exact appendAnswer_r w caps most ch user resp db pl ps vr va hr ha h hul hdl hpl hal hk

def nonceT : List UInt8 := (List.range 20).map fun i => UInt8.ofNat (i + 1)
theorem nonceT_take (k : Nat) (h : k < 20) : nonceT.take (k + 1) = nonceT.take k ++ [UInt8.ofNat (((k : Int) + 1).toNat)] := by
  have e : ((k : Int) + 1).toNat = k + 1 := by omega
  rw [e]
  unfold nonceT
  rw [List.take_add_one, List.getElem?_map, List.getElem?_range h]
  rfl
set_option maxRecDepth 100000 in
set_option maxHeartbeats 1000000 in
theorem nonce12_c (w : World) : Calls Try.prog 7 #[] w (RetB w nonceT) := by
  go_enter Try.func7, Try.ntmps7
  go_wp2_with fail
  have OW0 : Own w w.heap.size (.slice none 0 0) (nonceT.take 0) := Own.nil _ _
  go_loopw [1, 2] (fun b i W => ∃ k : Nat, k ≤ 20 ∧ i = .int .i64 ((k : Int) + 1) ∧ Own W w.heap.size b (nonceT.take k) ∧ Ext w W) (fun _ i _ => 20 - ((intOf i).toNat - 1))
  case atStart => exact ⟨0, Nat.zero_le _, rfl, OW0, Ext.refl _⟩
  case round =>
    clear OW0
    obtain ⟨k, hk, rfl, ho, hx⟩ := hrel
    have HO := Lib.hid ho
    have HX := Lib.hid hx
    clear ho hx
    by_cases hkN : k < 20
    · have hb : (k : Int) + 1 ≤ 20 := by omega
      have HL := Lib.hid (show (nonceT.take k).length ≤ 20 by rw [List.length_take]; omega)
      go_wp2_with ((with_reducible show wpList _ _ _ (⟨some 11, _, _, _, _, _⟩ :: _) _ _); refine wpl_append_rd bt (HO.out.ext ((Ext.refl _).alloc _)) (rd_byte _ ((k : Int) + 1) (by omega) _ rfl) rfl _ _ rfl rfl rfl (by have := HL.out; simp only [List.length_cons, List.length_nil]; omega) (Ext.size (HX.out.alloc _)) ?_; intro v1 w1 ho1 hb1)
      rw [← nonceT_take k hkN] at ho1
      go_roundw
      case rel => exact ⟨k + 1, by omega, by go_num, ho1, (HX.out.alloc _).below hb1 (Nat.le_refl _)⟩
      case measure => simp [intOf]; omega
    · obtain rfl : k = 20 := by omega
      have hb : ¬ ((20 : Nat) : Int) + 1 ≤ 20 := by omega
      have e : nonceT.take 20 = nonceT := by decide
      have E := Lib.hid e
      clear e
      go_wp2_with fail
      go_ret
      exact ⟨_, rfl, E.out ▸ HO.out, HX.out⟩

set_option maxRecDepth 100000 in
theorem readMore_ok (w : World) (v : Value) (hr : Rd w v [1, 3]) : Calls Try.prog 9 #[v] w (RetBE w [3] 0) := by
  have HR := Lib.hid hr
  obtain ⟨A, c, rfl, hc, _, _, hz⟩ := hr
  obtain ⟨b, o, rfl, hcell⟩ := hz (by simp)
  have p := hcell 0 (by simp)
  rw [Nat.add_zero] at p
  have p0 : w.cell? ⟨b, o, none⟩ = some (.int .u8 1) := p
  clear p hcell hz
  go_enter Try.func9, Try.ntmps9
  go_wp2_with (first
    | ((with_reducible show wpList _ _ _ (⟨some 14, _, _, _, _, _⟩ :: _) _ _); refine wpl_cut_lo bt HR.out 1 (by omega) (by simp) rfl _ _ _ rfl rfl rfl ?_; intro A5 m5 k5 hr5)
    | (go_at_call 28; refine (clone_c _ _ [3] hr5 (by simp)).mono ?_; rintro e w1 ⟨v1, rfl, ho1, hx1⟩)
    | fail)
  go_ret2
  exact ⟨_, rfl, ho1, hx1⟩
set_option maxRecDepth 100000 in
theorem readMore_bad (w : World) (v : Value) (hr : Rd w v [2]) : Calls Try.prog 9 #[v] w (RetBE w [] 5) := by
  obtain ⟨A, c, rfl, hc, _, _, hz⟩ := hr
  obtain ⟨b, o, rfl, hcell⟩ := hz (by simp)
  have p := hcell 0 (by simp)
  rw [Nat.add_zero] at p
  have p0 : w.cell? ⟨b, o, none⟩ = some (.int .u8 2) := p
  clear p hcell hz
  go_enter Try.func9, Try.ntmps9
  go_wp2_with fail
  go_ret2
  exact ⟨_, rfl, Own.nil _ _, Ext.refl _⟩
set_option maxRecDepth 100000 in
theorem appendMore_c (w : World) (v : Value) (hr : Rd w v [3]) : Calls Try.prog 11 #[.slice none 0 0, v] w (RetB w [1, 3]) := by
  have HR := Lib.hid hr
  obtain ⟨A, c, rfl, _⟩ := hr
  go_enter Try.func11, Try.ntmps11
  go_wp2_with (first
    | (go_at_call 28; refine (cloneN_c _).mono ?_; rintro e wx ⟨rfl, rfl⟩)
    | ((with_reducible show wpList _ _ _ (⟨some 8, _, _, _, _, _⟩ :: _) _ _); refine wpl_append_rd bt (Own.nil _ w.heap.size) (rd_lit _ _ [1] (by rfl) (by simp) 1 _ (by rfl) (by rfl)) rfl _ _ rfl rfl rfl (by simp) (Ext.size ((Ext.refl w).alloc _)) ?_; intro v1 w1 ho1 hb1; have hE1 := ((Ext.refl w).alloc _).below hb1 (Nat.le_refl _))
    | ((with_reducible show wpList _ _ _ (⟨some 10, _, _, _, _, _⟩ :: _) _ _); refine wpl_append_rd bt ho1 (HR.out.ext hE1) rfl _ _ rfl rfl rfl (by simp) (Ext.size hE1) ?_; intro v2 w2 ho2 hb2; have hE2 := hE1.below hb2 (Nat.le_refl _))
    | fail)
  go_ret
  exact ⟨_, rfl, ho2, hE2⟩
set_option maxRecDepth 100000 in
set_option maxHeartbeats 1000000 in
theorem fineAnswer_0 (w : World) : Calls Try.prog 39 #[.agg #[.int .u32 0, .int .u32 0, .int .u8 0, .string ⟨#[]⟩, .slice none 0 0, .string ⟨#[]⟩, .string ⟨#[]⟩, .slice none 0 0]] w fun e w' => e = .returned (.bool false) ∧ Ext w w' := by
  have H1 := Lib.hid (show plainP [[], [], []] = true by decide)
  have H2 := Lib.hid (show hasC 0 33280 = false by decide)
  go_enter Try.func39, Try.ntmps39
  go_wp2_with fail
  generalize hW0 : w.alloc _ = wS
  have hb : Box wS w.heap.size [.int .u32 0, .int .u32 0, .int .u8 0, .string ⟨#[]⟩, .slice none 0 0, .string ⟨#[]⟩, .string ⟨#[]⟩, .slice none 0 0] := by rw [← hW0]; exact Box.new w _ _
  have hx0 : Ext w wS := by rw [← hW0]; exact (Ext.refl w).alloc _
  have hsz : w.heap.size + 1 = wS.heap.size := by rw [← hW0]; simp
  have HSZ := Lib.hid hsz
  have HX0 := Lib.hid hx0
  clear hW0 hsz hx0
  go_wp2_with (first
    | (go_at_call 25; refine (plain_g _ _ [[], [], []] true (texts_new _ _ _ (by rfl) _ _ _ HSZ.out (by rfl) (by simp)) H1.out).mono ?_; rintro e wT ⟨rfl, hq⟩; have hx1 : Ext wS wT := hq ▸ (Ext.refl wS).alloc _; clear hq; have c0 := hb.one' (j := 0) rfl hx1; have c5 := hb.one' (j := 5) rfl hx1; have c6 := hb.one' (j := 6) rfl hx1)
    | (go_at_call 36; refine (has_g _ _ _ false H2.out).mono ?_; rintro e wy ⟨rfl, rfl⟩)
    | fail)
  go_ret
  exact ⟨rfl, HX0.out.trans hx1⟩
set_option maxRecDepth 100000 in
theorem appendAnswer_0 (w : World) : Calls Try.prog 13 #[.slice none 0 0, .agg #[.int .u32 0, .int .u32 0, .int .u8 0, .string ⟨#[]⟩, .slice none 0 0, .string ⟨#[]⟩, .string ⟨#[]⟩, .slice none 0 0]] w (RetBE w [] 2) := by
  go_enter Try.func13, Try.ntmps13
  go_wp2_with (first
    | (go_at_call 39; refine (fineAnswer_0 _).mono ?_; rintro e w1 ⟨rfl, hx1⟩)
    | fail)
  go_ret2
  exact ⟨_, rfl, Own.nil _ _, ((Ext.refl _).alloc _).trans hx1⟩
end Go.Proofs.Ytaiakkifefedoaa
