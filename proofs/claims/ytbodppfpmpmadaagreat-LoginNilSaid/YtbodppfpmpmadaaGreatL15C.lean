import Derived.Test.YtbodppfpmpmadaaGreatL14C
/- Logins: the examples, in plain words. -/
namespace Go.Proofs.YtbodppfpmpmadaaGreat
open Go.RowKit

def rN : List UInt8 := respP 1 [112, 119] nonceT
theorem checkE_nonceT : checkE nonceT = 0 := by decide +kernel
theorem rN_len : rN.length = 20 := by
  unfold rN respP
  rw [if_pos ⟨checkE_nonceT, by decide⟩, xorL_length, sumP_len 1 _ (.inl rfl), mixP_len 1 _ _ (.inl rfl)]
  rfl
theorem over_ansL (nm pl r : List UInt8) (h1 : nm.contains 0 = false) (h2 : pl.contains 0 = false) (h3 : r.length ≤ 255) : overP answerM ans0 (ansL nm pl r) = (⟨565760, 16777216, 45, nm, r, [], pl, []⟩, 0) :=
  overP_full (eats_answer _ (ansL_ok nm pl r h1 h2 h3) (fun p hp => by simp at hp) (by simp [attrsB]))
theorem both_all : bothC 565760 565760 = 565760 := by decide +kernel
theorem check_all : checkC 565760 = 0 := by decide +kernel
def d0N (h : List UInt8) : DoorV := door0 [userN] 565760 nonceT h
/-- The user is known. -/
def d1N (h : List UInt8) (st : Int) (nx : Nat) : DoorV := ⟨[userN], 565760, nonceT, h, st, 565760, nx, userN, true, [100]⟩
/-- Nobody is. -/
def d2N (h : List UInt8) (st : Int) : DoorV := ⟨[userN], 565760, nonceT, h, st, 565760, 3, userZ, false, []⟩
theorem d0N_fit (h : List UInt8) : DoorFit (d0N h) := ⟨fun u hu => by
  have : u = userN := by simpa [d0N, door0] using hu
  subst this
  exact ⟨by decide, by decide, by decide⟩, fitU_zero, show nonceT.length = 20 by decide +kernel, show nonceOk nonceT = true by decide +kernel⟩
theorem answerP_of (D : DoorV) (l : List UInt8) (a : AnsV) (h : overP answerM ans0 l = (a, 0)) (c : Int) (hb : bothC D.gc a.caps = c) (hk : checkC c = 0) :
    answerP D l = if (whoP { D with c := c } a.user a.db).kn && a.pl == (whoP { D with c := c } a.user a.db).u.pl then lookP (whoP { D with c := c } a.user a.db) a.resp else changeP (whoP { D with c := c } a.user a.db) := by
  unfold answerP
  simp only [h, hb, hk, ↓reduceIte]
theorem feed0 (h l : List UInt8) : feedP (d0N h) l = ((answerP (d0N h) l).1, 0, (answerP (d0N h) l).2) := rfl
theorem ans_known (h pl r : List UInt8) (h2 : pl.contains 0 = false) (h3 : r.length ≤ 255) : answerP (d0N h) (ansL [117] pl r) = if pl == natL then lookP (d1N h 1 0) r else changeP (d1N h 1 0) := by
  rw [answerP_of (d0N h) _ _ (over_ansL [117] pl r (by decide) h2 h3) 565760 both_all check_all]
  have e : whoP { d0N h with c := 565760 } [117] [] = d1N h 1 0 := rfl
  dsimp only
  rw [e]
  rfl
theorem ans_nobody (h pl r : List UInt8) (h2 : pl.contains 0 = false) (h3 : r.length ≤ 255) : answerP (d0N h) (ansL [120] pl r) = ([switchB (natL, nonceT)], d2N h 1) := by
  rw [answerP_of (d0N h) _ _ (over_ansL [120] pl r (by decide) h2 h3) 565760 both_all check_all]
  have e : whoP { d0N h with c := 565760 } [120] [] = ⟨[userN], 565760, nonceT, h, 1, 565760, 0, userZ, false, []⟩ := rfl
  dsimp only
  rw [e]
  rfl
theorem look_yes (h : List UInt8) (nx : Nat) : lookP (d1N h 1 nx) rN = ([okL 565760], d1N h 2 nx) := by
  unfold lookP
  have e : respPl (d1N h 1 nx).u.pl (d1N h 1 nx).u.pw (d1N h 1 nx).n = rN := rfl
  rw [e]
  have e2 : (rN == rN) = true := by simp
  rw [e2]
  rfl
theorem look_no (h : List UInt8) (nx : Nat) : lookP (d1N h 1 nx) [110, 111] = ([refusedL], d1N h 3 nx) := by
  unfold lookP
  have e : respPl (d1N h 1 nx).u.pl (d1N h 1 nx).u.pw (d1N h 1 nx).n = rN := rfl
  rw [e]
  have e2 : (([110, 111] : List UInt8) == rN) = false := by
    rw [beq_eq_false_iff_ne]
    intro e3
    have := rN_len
    rw [← e3] at this
    cases this
  rw [e2]
  rfl
theorem ex_right (h : List UInt8) : feedP (d0N h) (ansL [117] natL rN) = ([okL 565760], 0, d1N h 2 0) := by
  rw [feed0, ans_known h natL rN (by decide) (by rw [rN_len]; decide), if_pos (by decide), look_yes]
theorem ex_wrong (h : List UInt8) : feedP (d0N h) (ansL [117] natL [110, 111]) = ([refusedL], 0, d1N h 3 0) := by
  rw [feed0, ans_known h natL _ (by decide) (by decide), if_pos (by decide), look_no]
theorem ex_other (h : List UInt8) : feedP (d0N h) (ansL [117] fastL [110, 111]) = ([switchB (natL, nonceT)], 0, d1N h 1 1) := by
  rw [feed0, ans_known h fastL _ (by decide) (by decide), if_neg (by decide)]
  rfl
theorem ex_other2 (h : List UInt8) : feedP (d1N h 1 1) rN = ([okL 565760], 0, d1N h 2 1) := by
  have e : feedP (d1N h 1 1) rN = ((lookP (d1N h 1 1) rN).1, 0, (lookP (d1N h 1 1) rN).2) := rfl
  rw [e, look_yes]
theorem ex_nobody (h : List UInt8) : feedP (d0N h) (ansL [120] natL rN) = ([switchB (natL, nonceT)], 0, d2N h 1) := by
  rw [feed0, ans_nobody h natL rN (by decide) (by rw [rN_len]; decide)]
theorem ex_nobody2 (h l : List UInt8) : feedP (d2N h 1) l = ([refusedL], 0, d2N h 3) := rfl
theorem ex_nil (h : List UInt8) : feedP (d0N h) [] = ([oddL], 0, { d0N h with st := 3 }) := by
  rw [feed0]
  unfold answerP
  rw [if_neg (show ¬ (overP answerM ans0 []).2 = 0 by decide +kernel)]
theorem okL_head : ∃ t, okL 565760 = 0 :: t := ⟨_, rfl⟩
theorem refusedL_head : ∃ t, refusedL = 255 :: t := ⟨_, rfl⟩
theorem oddL_head : ∃ t, oddL = 255 :: t := ⟨_, rfl⟩
theorem switchL_head : ∃ t, switchB (natL, nonceT) = 254 :: t := ⟨_, rfl⟩
theorem goodN : GoodU [userN] := fun k hk => by
  have : k = 0 := by simpa using hk
  subst this
  exact ⟨by decide +kernel, rfl⟩
theorem DoorIs.ext {w w' : World} {S : List Nat} {g : Nat} {D : DoorV} (h : DoorIs w S g D) (k : Ext w w') : DoorIs w' S g D := by
  obtain ⟨K, fv, h⟩ := h
  exact ⟨K, fv, h.ext k⟩
theorem DoorIs.on {w w' : World} {S : List Nat} {g b : Nat} {D : DoorV} (h : DoorIs w S g D) (k : On b w w') (hb : b ∈ S) (hne : g ≠ b) : DoorIs w' S g D := by
  obtain ⟨K, fv, h⟩ := h
  exact ⟨K, fv, h.on k hb hne⟩
/-- A literal of one user. -/
theorem recs_one (w : World) (u : UserV) (t : TypeId) : Recs (w.alloc (.cells #[.string (strL u.name), .string (strL u.pw), .string (strL u.pl), .string (strL u.sc), .bool u.adm] t)) 5 (.slice (some ⟨w.heap.size, 0, none⟩) 1 1) [userC u] := by
  refine ⟨_, 1, rfl, Nat.le_refl _, by unfold maxLen; simp, fun _ => ⟨w.heap.size, 0, rfl, fun j hj => ?_⟩⟩
  have : j = 0 := by simpa using hj
  subst this
  intro i v hv
  have h9 := (Box.new w (userC u) t).range i v hv
  rw [show 0 + 0 * 5 + i = 0 + i by omega]
  exact h9
/-- The first packet's first byte. -/
theorem ListsN.head {w : World} {base : Nat} {v : Value} {x : UInt8} {t : List UInt8} {r : List (List UInt8)} (h : ListsN w base v ((x :: t) :: r)) :
    ∃ b o cap b2 o2 c2 M, v = .slice (some ⟨b, o, none⟩) (r.length + 1) cap ∧ 0 < M ∧ w.cell? ⟨b, o, none⟩ = some (.slice (some ⟨b2, o2, none⟩) M c2) ∧ w.cell? ⟨b2, o2, none⟩ = some (.int .u8 (x.toNat : Int)) := by
  obtain ⟨A, cap, hv, hc1, hc2, hcs⟩ := h
  obtain ⟨b, o, rfl, _, hcell⟩ := hcs (by simp)
  obtain ⟨u, hu, hr⟩ := hcell 0 (by simp)
  obtain ⟨A2, c2, rfl, _, _, _, hz⟩ := hr.rd
  obtain ⟨b2, o2, rfl, hcell2⟩ := hz (by simp)
  have p := hcell2 0 (by simp)
  rw [Nat.add_zero] at hu p
  exact ⟨b, o, cap, b2, o2, c2, _, hv, by simp, hu, p⟩
end Go.Proofs.YtbodppfpmpmadaaGreat
/- Logins: the chapter's first example. -/
namespace Go.Proofs.YtbodppfpmpmadaaGreat
open Go.RowKit

/-- A door is made for the chapter's user. -/
theorem newN_c (w : World) (v : Value) (A : Option Addr) (c : Nat) (hus : Recs w 5 v [userC userN]) (hn : Rd w (.slice A nonceT.length c) nonceT) :
    Calls Tryz.prog 21 #[v, .agg #[.string (strL [56]), .int .u32 1, .slice A nonceT.length c, .int .u32 565760, .int .u8 45, .int .u16 2, .string (strL natL)]] w fun e w' => ∃ g, e = .returned (.tuple #[.pointer (some ⟨g, 0, none⟩), .int .i64 0]) ∧
      w.heap.size ≤ g ∧ g < w'.heap.size ∧ Ext w w' ∧ ∀ S : List Nat, g ∈ S → (∀ x ∈ S, x = g ∨ x < w.heap.size) → DoorIs w' S g (d0N (greetBs [56] 1 nonceT 565760 45 2 natL)) :=
  newDoor_ok w v [userN] [56] nonceT natL 1 565760 45 2 _ hus goodN (by decide) hn (by decide) (by decide) (by decide +kernel) (by decide +kernel) (by decide) (.inr (by decide)) (by omega) (by omega) (by omega) (by omega) (by decide) (by decide) check_all
/-- The response. -/
theorem ntvN_c (w : World) (v : Value) (hn : Rd w v nonceT) : Calls Tryz.prog 50 #[.string ⟨#[112, 119]⟩, v] w fun e w' => ∃ A c, e = .returned (.tuple #[.slice A 20 c, .int .i64 0]) ∧ Rd w' (.slice A 20 c) rN ∧ Ext w w' := by
  refine (ntv_c w ⟨#[112, 119]⟩ v nonceT (by decide) hn).mono ?_
  rw [checkE_nonceT]
  rintro e w' ⟨v', rfl, hr, hx⟩
  have hr2 : Rd w' v' rN := hr
  obtain ⟨A, c, hv, _⟩ := id hr2
  rw [rN_len] at hv
  subst hv
  exact ⟨A, c, rfl, hr2, hx⟩
set_option maxRecDepth 100000 in
set_option maxHeartbeats 2000000 in
theorem lives27_c (w : World) : Calls Tryz.prog 17 #[] w fun e w' => e = .returned (.bool true) ∧ Ext w w' := by
  obtain ⟨H, hH⟩ : ∃ H, H = greetBs [56] 1 nonceT 565760 45 2 natL := ⟨_, rfl⟩
  have HH := Lib.hid hH
  obtain ⟨F, hF⟩ : ∃ F, F = ansL [117] natL rN := ⟨_, rfl⟩
  have HF := Lib.hid hF
  have HE := Lib.hid (show feedP (d0N H) F = ([okL 565760], 0, d1N H 2 0) by rw [hF]; exact ex_right H)
  have HFL := Lib.hid (show F.length ≤ 900000 by rw [hF]; decide +kernel)
  have HRL := Lib.hid rN_len
  clear hH hF
  go_enter Tryz.func17, Tryz.ntmps17
  have tok1 : True := trivial
  go_wp2_with (first
    | (go_at_call 48; have _t := tok1; refine (user27_c _).mono ?_; rintro e w1 ⟨rfl, hx1⟩; clear tok1)
    | (go_at_call 49; refine (greeting27_c _).mono ?_; rintro e w2 ⟨A2, c2, rfl, hr2, hx2⟩)
    | (go_at_call 21; refine (newN_c _ _ A2 c2 ((recs_one w1 userN _).ext hx2) hr2).mono ?_; rw [← HH.out]; rintro e w3 ⟨g, rfl, hg1, hg2, hx3, hd3⟩; have hX3 : Ext w w3 := ((hx1.alloc _).trans hx2).trans hx3)
    | (go_at_call 51; refine (nonce27_c _).mono ?_; rintro e w4 ⟨v4, rfl, ho4, hx4⟩)
    | (go_at_call 50; refine (ntvN_c _ _ ho4.rd).mono ?_; rintro e w5 ⟨A5, c5, rfl, hr5, hx5⟩)
    | (go_at_call 52; refine (answer27_c _ [117] natL rN _ hr5 (by decide) (by decide) (by rw [HRL.out]; decide) (by decide) (by decide)).mono ?_; rw [← HF.out]; rintro e w6 ⟨v6, rfl, ho6, hx6⟩)
    | (go_at_call 6; refine (feed_d _ [g] g (d0N H) F _ ((hd3 [g] (by simp) (by intro x hx; left; simpa using hx)).ext ((hx4.trans hx5).trans hx6)) ho6.rd HFL.out (d0N_fit H)).mono ?_; rw [HE.out]; rintro e w7 ⟨v7, rfl, hl7, ⟨K, fv, hd7⟩, O7⟩; obtain ⟨t7, ht7⟩ := okL_head; rw [ht7] at hl7; obtain ⟨b7, o7, k7, b8, o8, c8, M8, rfl, hM8, p7, p8⟩ := hl7.head; have hM9 : (M8 : Int) > 0 := (by omega); have c9 : w7.cell? ⟨g, 9, none⟩ = some (.int .i64 2) := hd7.box.at (j := 9) rfl; have c18 : w7.cell? ⟨g, 18, none⟩ = some (.string (strL [100])) := hd7.box.at (j := 18) rfl; have hO7 : Ext w w7 := (((hX3.trans hx4).trans hx5).trans hx6).on O7 (by have := Ext.size hx1; have := Ext.size hx2; simp at this; omega))
    | (go_at_call 10; refine (dstate_c _ g 2 c9).mono ?_; rintro e wx ⟨rfl, rfl⟩)
    | (go_at_call 12; refine (duser_c _ g _ 2 [117] [112, 119] natL [100] false hd7.box rfl rfl).mono ?_; rintro e w9 ⟨rfl, hx9⟩)
    | (go_at_call 48; refine (user27_c _).mono ?_; rintro e w10 ⟨rfl, hx10⟩; have d9 := Ext.cell (hx9.trans hx10) c9; have d18 := Ext.cell (hx9.trans hx10) c18)
    | (go_at_call 13; refine (dschema_c _ g 2 (strL [100]) d9 d18).mono ?_; rintro e wx ⟨rfl, rfl⟩)
    | fail)
  go_ret
  exact ⟨congrArg (fun z => Ending.returned (.bool z)) (by rw [strL_tl]; rfl), (hO7.trans hx9).trans hx10⟩
end Go.Proofs.YtbodppfpmpmadaaGreat
/- Logins: a door, a key that is not there, or that nobody made. -/
namespace Go.Proofs.YtbodppfpmpmadaaGreat
open Go.RowKit

/-- It is not there, or nobody made it: its state is 0. -/
def NoneP (w : World) (pv : Value) (j : Nat) : Prop := pv = .pointer none ∨ ∃ g, pv = .pointer (some ⟨g, 0, none⟩) ∧ w.cell? ⟨g, j, none⟩ = some (.int .i64 0)
theorem NoneP.ext {w w' : World} {pv : Value} {j : Nat} (h : NoneP w pv j) (k : Ext w w') : NoneP w' pv j := by
  rcases h with h | ⟨g, h1, h2⟩
  · exact .inl h
  · exact .inr ⟨g, h1, k.cell h2⟩
theorem dnone_n (w : World) (pv : Value) (h : NoneP w pv 9) : Calls Tryz.prog 38 #[pv] w fun e w' => e = .returned (.bool true) ∧ w = w' := by
  rcases h with rfl | ⟨g, rfl, c⟩
  · exact dnone_nil w
  · exact dnone_c w g 0 c
theorem ddone_n (w : World) (pv : Value) (h : NoneP w pv 9) : Calls Tryz.prog 47 #[pv] w fun e w' => e = .returned (.bool false) ∧ w = w' := by
  have H := Lib.hid h
  clear h
  go_enter Tryz.func47, Tryz.ntmps47
  go_wp2_with (go_at_call 38; refine (dnone_n _ pv H.out).mono ?_; rintro e wx ⟨rfl, rfl⟩)
  go_ret
  exact ⟨rfl, rfl⟩
theorem dfeed_n (w : World) (pv vb : Value) (h : NoneP w pv 9) : Calls Tryz.prog 6 #[pv, vb] w fun e w' => e = .returned (.tuple #[.slice none 0 0, .int .i64 1]) ∧ w = w' := by
  have H := Lib.hid h
  clear h
  go_enter Tryz.func6, Tryz.ntmps6
  go_wp2_with (go_at_call 38; refine (dnone_n _ pv H.out).mono ?_; rintro e wx ⟨rfl, rfl⟩)
  go_ret2
  exact ⟨rfl, rfl⟩
theorem dchange_n (w : World) (pv vb vc : Value) (h : NoneP w pv 9) : Calls Tryz.prog 7 #[pv, vb, vc] w fun e w' => e = .returned (.tuple #[.slice none 0 0, .int .i64 1]) ∧ w = w' := by
  have H := Lib.hid h
  clear h
  go_enter Tryz.func7, Tryz.ntmps7
  go_wp2_with (go_at_call 38; refine (dnone_n _ pv H.out).mono ?_; rintro e wx ⟨rfl, rfl⟩)
  go_ret2
  exact ⟨rfl, rfl⟩
theorem dgreeting_n (w : World) (pv : Value) (h : NoneP w pv 9) : Calls Tryz.prog 9 #[pv] w fun e w' => e = .returned (.slice none 0 0) ∧ w = w' := by
  have H := Lib.hid h
  clear h
  go_enter Tryz.func9, Tryz.ntmps9
  go_wp2_with (go_at_call 38; refine (dnone_n _ pv H.out).mono ?_; rintro e wx ⟨rfl, rfl⟩)
  go_ret
  exact ⟨rfl, rfl⟩
theorem dstate_n (w : World) (pv : Value) (h : NoneP w pv 9) : Calls Tryz.prog 10 #[pv] w fun e w' => e = .returned (.int .i64 0) ∧ w = w' := by
  have H := Lib.hid h
  clear h
  go_enter Tryz.func10, Tryz.ntmps10
  go_wp2_with (go_at_call 38; refine (dnone_n _ pv H.out).mono ?_; rintro e wx ⟨rfl, rfl⟩)
  go_ret
  exact ⟨rfl, rfl⟩
theorem dcaps_n (w : World) (pv : Value) (h : NoneP w pv 9) : Calls Tryz.prog 11 #[pv] w fun e w' => e = .returned (.int .u32 0) ∧ w = w' := by
  have H := Lib.hid h
  clear h
  go_enter Tryz.func11, Tryz.ntmps11
  go_wp2_with (go_at_call 38; refine (dnone_n _ pv H.out).mono ?_; rintro e wx ⟨rfl, rfl⟩)
  go_ret
  exact ⟨rfl, rfl⟩
theorem dschema_n (w : World) (pv : Value) (h : NoneP w pv 9) : Calls Tryz.prog 13 #[pv] w fun e w' => e = .returned (.string ⟨#[]⟩) ∧ w = w' := by
  have H := Lib.hid h
  clear h
  go_enter Tryz.func13, Tryz.ntmps13
  go_wp2_with (go_at_call 47; refine (ddone_n _ pv H.out).mono ?_; rintro e wx ⟨rfl, rfl⟩)
  go_ret
  exact ⟨rfl, rfl⟩
set_option maxHeartbeats 1000000 in
theorem duser_n (w : World) (pv : Value) (h : NoneP w pv 9) : Calls Tryz.prog 12 #[pv] w fun e w' => e = .returned (.agg #[.string ⟨#[]⟩, .string ⟨#[]⟩, .string ⟨#[]⟩, .string ⟨#[]⟩, .bool false]) ∧ Ext w w' := by
  have H := Lib.hid h
  clear h
  go_enter Tryz.func12, Tryz.ntmps12
  go_wp2_with (first
    | ((with_reducible show wpList _ _ _ (⟨some 2, _, _, _, _, _⟩ :: _) _ _); refine wpl_alloc rfl _ rfl user0 (by kernel_rfl) ?_; intro w1 B1 hx1)
    | (go_at_call 47; refine (ddone_n _ pv (H.out.ext hx1)).mono ?_; rintro e wx ⟨rfl, rfl⟩)
    | ((with_reducible show wpList _ _ _ (⟨none, Op.store 32 _ _, _, _, _, _⟩ :: _) _ _); refine wpl_store_box rfl _ _ _ rfl _ user0 rfl rfl B1 rfl (by kernel_rfl) (by rfl) ?_; intro w2 B2 O2)
    | fail)
  try simp only [Exit.inBlock, Exit.then]
  refine ret_box1 rfl rfl rfl B2 Tryz.underlying32 rfl (by kernel_rfl) ?_
  exact ⟨rfl, hx1.on O2 (Nat.le_refl _)⟩
/-! ### keys -/
theorem knone_c (w : World) (g : Nat) (st : Int) (c5 : w.cell? ⟨g, 5, none⟩ = some (.int .i64 st)) :
    Calls Tryz.prog 46 #[.pointer (some ⟨g, 0, none⟩)] w fun e w' => e = .returned (.bool (st == 0)) ∧ w = w' := by
  go_enter Tryz.func46, Tryz.ntmps46
  go_wp2_with fail
  go_ret
  exact ⟨rfl, rfl⟩
theorem knone_n (w : World) (pv : Value) (h : NoneP w pv 5) : Calls Tryz.prog 46 #[pv] w fun e w' => e = .returned (.bool true) ∧ w = w' := by
  rcases h with rfl | ⟨g, rfl, c⟩
  · go_enter Tryz.func46, Tryz.ntmps46
    go_wp2_with fail
    go_ret
    exact ⟨rfl, rfl⟩
  · exact knone_c w g 0 c
theorem kfeed_n (w : World) (pv vb : Value) (h : NoneP w pv 5) : Calls Tryz.prog 8 #[pv, vb] w fun e w' => e = .returned (.tuple #[.slice none 0 0, .int .i64 1]) ∧ w = w' := by
  have H := Lib.hid h
  clear h
  go_enter Tryz.func8, Tryz.ntmps8
  go_wp2_with (go_at_call 46; refine (knone_n _ pv H.out).mono ?_; rintro e wx ⟨rfl, rfl⟩)
  go_ret2
  exact ⟨rfl, rfl⟩
theorem kstate_n (w : World) (pv : Value) (h : NoneP w pv 5) : Calls Tryz.prog 14 #[pv] w fun e w' => e = .returned (.int .i64 0) ∧ w = w' := by
  have H := Lib.hid h
  clear h
  go_enter Tryz.func14, Tryz.ntmps14
  go_wp2_with (go_at_call 46; refine (knone_n _ pv H.out).mono ?_; rintro e wx ⟨rfl, rfl⟩)
  go_ret
  exact ⟨rfl, rfl⟩
theorem kcaps_n (w : World) (pv : Value) (h : NoneP w pv 5) : Calls Tryz.prog 15 #[pv] w fun e w' => e = .returned (.int .u32 0) ∧ w = w' := by
  have H := Lib.hid h
  clear h
  go_enter Tryz.func15, Tryz.ntmps15
  go_wp2_with (go_at_call 46; refine (knone_n _ pv H.out).mono ?_; rintro e wx ⟨rfl, rfl⟩)
  go_ret
  exact ⟨rfl, rfl⟩
theorem kthread_n (w : World) (pv : Value) (h : NoneP w pv 5) : Calls Tryz.prog 16 #[pv] w fun e w' => e = .returned (.int .u32 0) ∧ w = w' := by
  have H := Lib.hid h
  clear h
  go_enter Tryz.func16, Tryz.ntmps16
  go_wp2_with (go_at_call 46; refine (knone_n _ pv H.out).mono ?_; rintro e wx ⟨rfl, rfl⟩)
  go_ret
  exact ⟨rfl, rfl⟩
def door0C : List Value := [.map none, .string ⟨#[]⟩, .int .u32 0, .slice none 0 0, .int .u32 0, .int .u8 0, .int .u16 0, .string ⟨#[]⟩, .slice none 0 0, .int .i64 0, .int .u32 0, .nilFunc, .string ⟨#[]⟩, .string ⟨#[]⟩, .string ⟨#[]⟩, .string ⟨#[]⟩, .bool false, .bool false, .string ⟨#[]⟩]
def key0C : List Value := [.string ⟨#[]⟩, .string ⟨#[]⟩, .string ⟨#[]⟩, .int .u32 0, .int .u8 0, .int .i64 0, .int .u32 0, .int .u32 0, .nilFunc]
theorem box_at {w : World} {cs : List Value} {t : TypeId} {g j : Nat} {v : Value} (hg : w.heap.size = g) (hv : cs[j]? = some v) : (w.alloc (.cells cs.toArray t)).cell? ⟨g, j, none⟩ = some v := by
  subst hg
  exact (BoxF.new w cs t).at hv
set_option maxRecDepth 100000 in
set_option maxHeartbeats 4000000 in
theorem loginNil_c (w : World) (v : Value) : Calls Tryz.prog 3 #[v] w fun e w' => e = .returned (.bool true) ∧ Ext w w' := by
  go_enter Tryz.func3, Tryz.ntmps3
  go_wp2_with fail
  generalize hW0 : (((w.alloc _).alloc _).alloc _).alloc _ = wS
  have HX0 := Lib.hid (show Ext w wS by rw [← hW0]; exact ((((Ext.refl w).alloc _).alloc _).alloc _).alloc _)
  have HC9 := Lib.hid (show wS.cell? ⟨w.heap.size, 9, none⟩ = some (.int .i64 0) by
    rw [← hW0]; exact Ext.cell ((((Ext.refl _).alloc _).alloc _).alloc _) (box_at (cs := door0C) rfl rfl))
  have HD0 := Lib.hid (show wS.cell? ⟨w.heap.size + 1, 0, none⟩ = some (.pointer none) by
    rw [← hW0]; exact Ext.cell (((Ext.refl _).alloc _).alloc _) (box_at (cs := [.pointer none, .pointer (some ⟨w.heap.size, 0, none⟩)]) (by simp) rfl))
  have HD1 := Lib.hid (show wS.cell? ⟨w.heap.size + 1, 1, none⟩ = some (.pointer (some ⟨w.heap.size, 0, none⟩)) by
    rw [← hW0]; exact Ext.cell (((Ext.refl _).alloc _).alloc _) (box_at (cs := [.pointer none, .pointer (some ⟨w.heap.size, 0, none⟩)]) (by simp) rfl))
  have HK5 := Lib.hid (show wS.cell? ⟨w.heap.size + 1 + 1, 5, none⟩ = some (.int .i64 0) by
    rw [← hW0]; exact Ext.cell ((Ext.refl _).alloc _) (box_at (cs := key0C) (by simp) rfl))
  have HE0 := Lib.hid (show wS.cell? ⟨w.heap.size + 1 + 1 + 1, 0, none⟩ = some (.pointer none) by
    rw [← hW0]; exact box_at (cs := [.pointer none, .pointer (some ⟨w.heap.size + 1 + 1, 0, none⟩)]) (by simp) rfl)
  have HE1 := Lib.hid (show wS.cell? ⟨w.heap.size + 1 + 1 + 1, 1, none⟩ = some (.pointer (some ⟨w.heap.size + 1 + 1, 0, none⟩)) by
    rw [← hW0]; exact box_at (cs := [.pointer none, .pointer (some ⟨w.heap.size + 1 + 1, 0, none⟩)]) (by simp) rfl)
  clear hW0
  go_loopw [5, 6, 7, 8, 9, 10, 11, 12, 13] (fun i _ _ _ _ _ _ _ _ W => ∃ k : Nat, k ≤ 2 ∧ i = .int .i64 k ∧ Ext wS W) (fun i _ _ _ _ _ _ _ _ _ => 2 - (intOf i).toNat)
  case atStart => exact ⟨0, by omega, rfl, Ext.refl _⟩
  case round =>
    obtain ⟨k, hk, rfl, hx⟩ := hrel
    have hc : k = 0 ∨ k = 1 ∨ k = 2 := by omega
    rcases hc with rfl | rfl | rfl
    · have p0 := Ext.cell hx HD0.out
      have q0 := Ext.cell hx HE0.out
      have p1 : wr.drew.cell? ⟨w.heap.size + 1, 0, none⟩ = some (.pointer none) := p0
      have q1 : wr.drew.cell? ⟨w.heap.size + 1 + 1 + 1, 0, none⟩ = some (.pointer none) := q0
      go_wp2_with fail
      (try dsimp only [Act.put])
      first | go_region | fail
      have hx6 : Ext wS wr.drew := hx.drew
      generalize wr.drew = w6 at hx6 ⊢
      have HX6 := Lib.hid hx6
      have HN := Lib.hid (show NoneP w6 (.pointer none) 9 from .inl rfl)
      have HM := Lib.hid (show NoneP w6 (.pointer none) 5 from .inl rfl)
      clear p0 q0 p1 q1 hx hx6
      go_wp2_with (first
        | (go_at_call 6; refine (dfeed_n _ _ _ HN.out).mono ?_; rintro e wx ⟨rfl, rfl⟩)
        | (go_at_call 7; refine (dchange_n _ _ _ _ HN.out).mono ?_; rintro e wx ⟨rfl, rfl⟩)
        | (go_at_call 8; refine (kfeed_n _ _ _ HM.out).mono ?_; rintro e wx ⟨rfl, rfl⟩)
        | (go_at_call 9; refine (dgreeting_n _ _ HN.out).mono ?_; rintro e wx ⟨rfl, rfl⟩)
        | (go_at_call 10; refine (dstate_n _ _ HN.out).mono ?_; rintro e wx ⟨rfl, rfl⟩)
        | (go_at_call 11; refine (dcaps_n _ _ HN.out).mono ?_; rintro e wx ⟨rfl, rfl⟩)
        | (go_at_call 12; refine (duser_n _ _ HN.out).mono ?_; rintro e w7 ⟨rfl, hx7⟩; have HN7 := Lib.hid (HN.out.ext hx7); have HM7 := Lib.hid (HM.out.ext hx7))
        | (go_at_call 13; refine (dschema_n _ _ HN7.out).mono ?_; rintro e wx ⟨rfl, rfl⟩)
        | (go_at_call 14; refine (kstate_n _ _ HM7.out).mono ?_; rintro e wx ⟨rfl, rfl⟩)
        | (go_at_call 15; refine (kcaps_n _ _ HM7.out).mono ?_; rintro e wx ⟨rfl, rfl⟩)
        | (go_at_call 16; refine (kthread_n _ _ HM7.out).mono ?_; rintro e wx ⟨rfl, rfl⟩)
        | fail)
      go_roundw
      case rel => exact ⟨0 + 1, by omega, by go_num, HX6.out.trans hx7⟩
      case measure => simp [intOf]
    · have p0 := Ext.cell hx HD1.out
      have q0 := Ext.cell hx HE1.out
      have p1 : wr.drew.cell? ⟨w.heap.size + 1, 1, none⟩ = some (.pointer (some ⟨w.heap.size, 0, none⟩)) := p0
      have q1 : wr.drew.cell? ⟨w.heap.size + 1 + 1 + 1, 1, none⟩ = some (.pointer (some ⟨w.heap.size + 1 + 1, 0, none⟩)) := q0
      go_wp2_with fail
      (try dsimp only [Act.put])
      first | go_region | fail
      have hx6 : Ext wS wr.drew := hx.drew
      generalize wr.drew = w6 at hx6 ⊢
      have HX6 := Lib.hid hx6
      have HN := Lib.hid (show NoneP w6 (.pointer (some ⟨w.heap.size, 0, none⟩)) 9 from .inr ⟨_, rfl, Ext.cell HX6.out HC9.out⟩)
      have HM := Lib.hid (show NoneP w6 (.pointer (some ⟨w.heap.size + 1 + 1, 0, none⟩)) 5 from .inr ⟨_, rfl, Ext.cell HX6.out HK5.out⟩)
      clear p0 q0 p1 q1 hx hx6
      go_wp2_with (first
        | (go_at_call 6; refine (dfeed_n _ _ _ HN.out).mono ?_; rintro e wx ⟨rfl, rfl⟩)
        | (go_at_call 7; refine (dchange_n _ _ _ _ HN.out).mono ?_; rintro e wx ⟨rfl, rfl⟩)
        | (go_at_call 8; refine (kfeed_n _ _ _ HM.out).mono ?_; rintro e wx ⟨rfl, rfl⟩)
        | (go_at_call 9; refine (dgreeting_n _ _ HN.out).mono ?_; rintro e wx ⟨rfl, rfl⟩)
        | (go_at_call 10; refine (dstate_n _ _ HN.out).mono ?_; rintro e wx ⟨rfl, rfl⟩)
        | (go_at_call 11; refine (dcaps_n _ _ HN.out).mono ?_; rintro e wx ⟨rfl, rfl⟩)
        | (go_at_call 12; refine (duser_n _ _ HN.out).mono ?_; rintro e w7 ⟨rfl, hx7⟩; have HN7 := Lib.hid (HN.out.ext hx7); have HM7 := Lib.hid (HM.out.ext hx7))
        | (go_at_call 13; refine (dschema_n _ _ HN7.out).mono ?_; rintro e wx ⟨rfl, rfl⟩)
        | (go_at_call 14; refine (kstate_n _ _ HM7.out).mono ?_; rintro e wx ⟨rfl, rfl⟩)
        | (go_at_call 15; refine (kcaps_n _ _ HM7.out).mono ?_; rintro e wx ⟨rfl, rfl⟩)
        | (go_at_call 16; refine (kthread_n _ _ HM7.out).mono ?_; rintro e wx ⟨rfl, rfl⟩)
        | fail)
      go_roundw
      case rel => exact ⟨1 + 1, by omega, by go_num, HX6.out.trans hx7⟩
      case measure => simp [intOf]
    · have HX6 := Lib.hid hx
      clear hx
      go_wp2_with (go_at_call 17; refine (lives27_c _).mono ?_; rintro e w1 ⟨rfl, hx1⟩)
      go_ret
      exact ⟨rfl, (HX0.out.trans HX6.out).trans hx1⟩
end Go.Proofs.YtbodppfpmpmadaaGreat
