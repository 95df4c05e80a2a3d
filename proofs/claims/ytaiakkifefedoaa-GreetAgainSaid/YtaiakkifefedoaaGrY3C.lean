import Derived.Test.YtaiakkifefedoaaGrXbC
import Derived.Test.YtaiakkifefedoaaGrWC
import Derived.Test.YtaiakkifefedoaaGrPlC
/- GreetAgain's walk: no greeting, an answer. (Printed by gen_grX.py.) -/
namespace Go.Proofs.Ytaiakkifefedoaa
open Go.RowKit

set_option linter.unusedVariables false in
set_option maxRecDepth 100000 in
set_option maxHeartbeats 8000000 in
theorem greetAgain_3 (w : World) (c : Int) (vb : Value) (L : List UInt8) (hr : Rd w vb L) (hl : L.length ≤ 2000) (heg : (overP greetM gre0 L).2 ≠ 0) (hea : (overP answerM ans0 L).2 = 0) :
    Calls Try.prog 5 #[vb, .int .u32 c] w (RetTrue w) := by
  have HR := Lib.hid hr
  obtain ⟨Ab, cb, hvb, _⟩ := hr
  subst hvb
  have HL9 := Lib.hid (show L.length ≤ 900000 by omega)
  have hli : ¬ (2000 < (L.length : Int)) := by omega
  obtain ⟨⟨verg, thrg, ng, capsg, chg, stg, plg⟩, erg, hpg⟩ : ∃ v er, overP greetM gre0 L = (v, er) := ⟨_, _, rfl⟩
  rw [hpg] at heg
  dsimp only at heg
  have hbg : (erg == 0) = false := by simpa using heg
  have hng : (erg != 0) = true := by simpa using heg
  have HPg := Lib.hid hpg
  clear hpg heg
  obtain ⟨⟨capsa, mosta, cha, usera, respa, dba, pla, psa⟩, era, hpa⟩ : ∃ v er, overP answerM ans0 L = (v, er) := ⟨_, _, rfl⟩
  rw [hpa] at hea
  dsimp only at hea
  subst hea
  obtain ⟨hXa, hoka, hata⟩ := overP_inv inv_answer hpa
  have hza := ans_sizes hoka (n := 2000) (Nat.le_trans hXa hl)
  dsimp only at hza hata
  have HZa := Lib.hid (show usera.length ≤ 10000 ∧ dba.length ≤ 10000 ∧ pla.length ≤ 10000 ∧ (attrsB psa).length ≤ 900000 by omega)
  obtain ⟨Xa, hXda⟩ : ∃ X, X = answerB ⟨capsa, mosta, cha, usera, respa, dba, pla, psa⟩ := ⟨_, rfl⟩
  have HP2a := Lib.hid (show overP answerM ans0 Xa = (⟨capsa, mosta, cha, usera, respa, dba, pla, psa⟩, 0) by rw [hXda]; exact overP_full (eats_answer ⟨capsa, mosta, cha, usera, respa, dba, pla, psa⟩ hoka (small_of_len _ 2000 (by dsimp only; omega) (by omega)) (by dsimp only; omega)))
  have HXla := Lib.hid (show Xa.length ≤ 900000 by rw [hXda]; omega)
  have hXia : ¬ ((L.length : Int) < (Xa.length : Int)) := by rw [hXda]; omega
  have HXa := Lib.hid hXda
  have HOKa := Lib.hid hoka
  have HPa := Lib.hid hpa
  clear hXa hXda hoka hata hpa hza
  by_cases hec : (overP (changeM c) chgV0 L).2 = 0 <;> by_cases hes : (overP switchM ([], []) L).2 = 0
  · obtain ⟨⟨userc, respc, dbc, chc, plc, psc⟩, erc, hpc⟩ : ∃ v er, overP (changeM c) chgV0 L = (v, er) := ⟨_, _, rfl⟩
    rw [hpc] at hec
    dsimp only at hec
    subst hec
    obtain ⟨hXc, hokc, hatc⟩ := overP_inv (inv_change c) hpc
    have hzc := chg_sizes hokc (n := 2000) (Nat.le_trans hXc hl)
    dsimp only at hzc hatc
    have HZc := Lib.hid (show userc.length ≤ 10000 ∧ dbc.length ≤ 10000 ∧ plc.length ≤ 10000 ∧ (attrsB psc).length ≤ 900000 by omega)
    obtain ⟨Xc, hXdc⟩ : ∃ X, X = changeB c ⟨userc, respc, dbc, chc, plc, psc⟩ := ⟨_, rfl⟩
    have HP2c := Lib.hid (show overP (changeM c) chgV0 Xc = (⟨userc, respc, dbc, chc, plc, psc⟩, 0) by rw [hXdc]; exact overP_full (eats_change c ⟨userc, respc, dbc, chc, plc, psc⟩ hokc (small_of_len _ 2000 (by dsimp only; omega) (by omega)) (by dsimp only; omega)))
    have HXlc := Lib.hid (show Xc.length ≤ 900000 by rw [hXdc]; omega)
    have hXic : ¬ ((L.length : Int) < (Xc.length : Int)) := by rw [hXdc]; omega
    have HXc := Lib.hid hXdc
    have HOKc := Lib.hid hokc
    have HPc := Lib.hid hpc
    clear hXc hXdc hokc hatc hpc hzc
    obtain ⟨⟨pls, ns⟩, ers, hps⟩ : ∃ v er, overP switchM ([], []) L = (v, er) := ⟨_, _, rfl⟩
    rw [hps] at hes
    dsimp only at hes
    subst hes
    obtain ⟨hXs, hoks⟩ := overP_inv inv_switch hps
    obtain ⟨Xs, hXds⟩ : ∃ X, X = switchB (pls, ns) := ⟨_, rfl⟩
    have hXLs : Xs = L := hXds.trans hXs.symm
    have hzs := swi_sizes (s := (pls, ns)) (n := 2000) (by rw [← hXs]; exact hl)
    dsimp only at hzs
    have HZs := Lib.hid (show pls.length ≤ 10000 by omega)
    have HXs := Lib.hid (hXds)
    have HXLs := Lib.hid hXLs
    have HOKs := Lib.hid hoks
    have HPs := Lib.hid hps
    clear hXs hXds hXLs hoks hps hzs
    clear hl
    go_enter Try.func5, Try.ntmps5
    go_wp2_with (first
      | (go_at_call 14; refine (lives12_c _).mono ?_; rintro e wl ⟨rfl, hE⟩; have toks : True := trivial; have tokc : True := trivial; have toka : True := trivial; have tokg : True := trivial)
      | (go_at_call 17; have _t := tokg; refine (readGreeting_s _ _ L verg ng plg thrg capsg chg stg erg (HR.out.ext hE) HPg.out).mono ?_; rintro e w0g ⟨A0g, k0g, c0g, rfl, r0g, hx0g⟩; replace hE := hE.trans hx0g; clear tokg)
      | ((with_reducible show wpList _ _ _ (⟨some 5, _, _, _, _, _⟩ :: _) _ _); refine wpl_alloc rfl _ rfl [.string ⟨#[]⟩, .int .u32 0, .slice none 0 0, .int .u32 0, .int .u8 0, .int .u16 0, .string ⟨#[]⟩] (by kernel_rfl) ?_; intro w1g B1g hx1g)
      | ((with_reducible show wpList _ _ _ (⟨none, Op.store 45 _ _, _, _, _, _⟩ :: _) _ _); have _t := B1g; refine wpl_store_box rfl _ _ _ rfl _ [.string (strL verg), .int .u32 thrg, .slice A0g k0g c0g, .int .u32 capsg, .int .u8 chg, .int .u16 stg, .string (strL plg)] rfl rfl B1g rfl (by kernel_rfl) (by rfl) ?_; intro w2g B2g O2g; have e2g : Ext w0g w2g := hx1g.on O2g (Nat.le_refl _); replace hE := hE.trans e2g; have r2g := r0g.ext e2g; clear B1g O2g hx1g r0g)
      | (go_at_call 12; have _t := toka; refine (readAnswer_s _ _ L usera respa dba pla capsa mosta cha 0 psa (HR.out.ext hE) HL9.out HPa.out).mono ?_; rintro e w0a ⟨A0a, k0a, c0a, B0a, m0a, d0a, rfl, r0a, a0a, hx0a⟩; replace hE := hE.trans hx0a; clear toka)
      | ((with_reducible show wpList _ _ _ (⟨some 9, _, _, _, _, _⟩ :: _) _ _); refine wpl_alloc rfl _ rfl [.int .u32 0, .int .u32 0, .int .u8 0, .string ⟨#[]⟩, .slice none 0 0, .string ⟨#[]⟩, .string ⟨#[]⟩, .slice none 0 0] (by kernel_rfl) ?_; intro w1a B1a hx1a)
      | ((with_reducible show wpList _ _ _ (⟨none, Op.store 38 _ _, _, _, _, _⟩ :: _) _ _); have _t := B1a; refine wpl_store_box rfl _ _ _ rfl _ [.int .u32 capsa, .int .u32 mosta, .int .u8 cha, .string (strL usera), .slice A0a k0a c0a, .string (strL dba), .string (strL pla), .slice B0a m0a d0a] rfl rfl B1a rfl (by kernel_rfl) (by rfl) ?_; intro w2a B2a O2a; have e2a : Ext w0a w2a := hx1a.on O2a (Nat.le_refl _); replace hE := hE.trans e2a; have r2a := r0a.ext e2a; have a2a := a0a.ext e2a; clear a0a; clear B1a O2a hx1a r0a)
      | ((with_reducible show wpList _ _ _ (⟨some 55, _, _, _, _, _⟩ :: _) _ _); refine wpl_load_box rfl _ _ rfl _ rfl B2a Try.underlying38 rfl (by kernel_rfl) ?_)
      | (go_at_call 13; refine (appendAnswer_g _ capsa mosta cha usera respa dba pla psa _ _ r2a a2a HOKa.out HZa.out.1 HZa.out.2.1 HZa.out.2.2.1 HZa.out.2.2.2).mono ?_; intro e w3a hq9; rw [← HXa.out] at hq9; obtain ⟨A3a, c3a, rfl, ho3a, hx3a⟩ := retBE_s hq9; clear hq9; replace hE := hE.trans hx3a; replace B2a := B2a.ext hx3a; replace r2a := r2a.ext hx3a; replace a2a := a2a.ext hx3a)
      | (go_at_call 12; have _t := ho3a; refine (readAnswer_s _ _ Xa usera respa dba pla capsa mosta cha 0 psa (ho3a.rd) HXla.out HP2a.out).mono ?_; rintro e w4a ⟨A4a, k4a, c4a, B4a, m4a, d4a, rfl, r4a, a4a, hx4a⟩; replace hE := hE.trans hx4a; replace B2a := B2a.ext hx4a; replace r2a := r2a.ext hx4a; replace a2a := a2a.ext hx4a; clear ho3a)
      | ((with_reducible show wpList _ _ _ (⟨some 12, _, _, _, _, _⟩ :: _) _ _); refine wpl_alloc rfl _ rfl [.int .u32 0, .int .u32 0, .int .u8 0, .string ⟨#[]⟩, .slice none 0 0, .string ⟨#[]⟩, .string ⟨#[]⟩, .slice none 0 0] (by kernel_rfl) ?_; intro w5a B5a hx5a)
      | ((with_reducible show wpList _ _ _ (⟨none, Op.store 38 _ _, _, _, _, _⟩ :: _) _ _); have _t := B5a; refine wpl_store_box rfl _ _ _ rfl _ [.int .u32 capsa, .int .u32 mosta, .int .u8 cha, .string (strL usera), .slice A4a k4a c4a, .string (strL dba), .string (strL pla), .slice B4a m4a d4a] rfl rfl B5a rfl (by kernel_rfl) (by rfl) ?_; intro w6a B6a O6a; have e6a : Ext w4a w6a := hx5a.on O6a (Nat.le_refl _); replace hE := hE.trans e6a; replace B2a := B2a.ext e6a; replace r2a := r2a.ext e6a; replace a2a := a2a.ext e6a; replace r4a := r4a.ext e6a; replace a4a := a4a.ext e6a; clear B5a O6a hx5a)
      | ((with_reducible show wpList _ _ _ (⟨some 71, _, _, _, _, _⟩ :: _) _ _); refine wpl_load_g (j := 6) rfl rfl rfl _ _ rfl _ _ rfl [.int .u32 capsa, .int .u32 mosta, .int .u8 cha, .string (strL usera), .slice A0a k0a c0a, .string (strL dba), .string (strL pla), .slice B0a m0a d0a] _ B2a.box.range Try.underlying38 rfl (by kernel_rfl) ?_)
      | ((with_reducible show wpList _ _ _ (⟨some 72, _, _, _, _, _⟩ :: _) _ _); refine wpl_load_g (j := 6) rfl rfl rfl _ _ rfl _ _ rfl [.int .u32 capsa, .int .u32 mosta, .int .u8 cha, .string (strL usera), .slice A4a k4a c4a, .string (strL dba), .string (strL pla), .slice B4a m4a d4a] _ B6a.box.range Try.underlying38 rfl (by kernel_rfl) ?_)
      | (go_at_call 20; refine (sameAnswer_c _ capsa mosta cha usera respa dba pla psa _ _ _ _ r2a a2a r4a a4a).mono ?_; rintro e w7a ⟨rfl, hx7a⟩; replace hE := hE.trans hx7a; clear B2a B6a r2a a2a r4a a4a)
      | (go_at_call 23; have _t := tokc; refine (readChange_s _ _ _ L userc respc dbc plc chc 0 psc (HR.out.ext hE) HL9.out HPc.out).mono ?_; rintro e w0c ⟨A0c, k0c, c0c, B0c, m0c, d0c, rfl, r0c, a0c, hx0c⟩; replace hE := hE.trans hx0c; clear tokc)
      | ((with_reducible show wpList _ _ _ (⟨some 14, _, _, _, _, _⟩ :: _) _ _); refine wpl_alloc rfl _ rfl [.string ⟨#[]⟩, .slice none 0 0, .string ⟨#[]⟩, .int .u16 0, .string ⟨#[]⟩, .slice none 0 0] (by kernel_rfl) ?_; intro w1c B1c hx1c)
      | ((with_reducible show wpList _ _ _ (⟨none, Op.store 47 _ _, _, _, _, _⟩ :: _) _ _); have _t := B1c; refine wpl_store_box rfl _ _ _ rfl _ [.string (strL userc), .slice A0c k0c c0c, .string (strL dbc), .int .u16 chc, .string (strL plc), .slice B0c m0c d0c] rfl rfl B1c rfl (by kernel_rfl) (by rfl) ?_; intro w2c B2c O2c; have e2c : Ext w0c w2c := hx1c.on O2c (Nat.le_refl _); replace hE := hE.trans e2c; have r2c := r0c.ext e2c; have a2c := a0c.ext e2c; clear a0c; clear B1c O2c hx1c r0c)
      | ((with_reducible show wpList _ _ _ (⟨some 93, _, _, _, _, _⟩ :: _) _ _); refine wpl_load_box rfl _ _ rfl _ rfl B2c Try.underlying47 rfl (by kernel_rfl) ?_)
      | (go_at_call 22; refine (appendChange_g _ _ userc respc dbc plc chc psc _ _ r2c a2c HOKc.out HZc.out.1 HZc.out.2.1 HZc.out.2.2.1 HZc.out.2.2.2).mono ?_; intro e w3c hq9; rw [← HXc.out] at hq9; obtain ⟨A3c, c3c, rfl, ho3c, hx3c⟩ := retBE_s hq9; clear hq9; replace hE := hE.trans hx3c; replace B2c := B2c.ext hx3c; replace r2c := r2c.ext hx3c; replace a2c := a2c.ext hx3c)
      | (go_at_call 23; have _t := ho3c; refine (readChange_s _ _ _ Xc userc respc dbc plc chc 0 psc (ho3c.rd) HXlc.out HP2c.out).mono ?_; rintro e w4c ⟨A4c, k4c, c4c, B4c, m4c, d4c, rfl, r4c, a4c, hx4c⟩; replace hE := hE.trans hx4c; replace B2c := B2c.ext hx4c; replace r2c := r2c.ext hx4c; replace a2c := a2c.ext hx4c; clear ho3c)
      | ((with_reducible show wpList _ _ _ (⟨some 17, _, _, _, _, _⟩ :: _) _ _); refine wpl_alloc rfl _ rfl [.string ⟨#[]⟩, .slice none 0 0, .string ⟨#[]⟩, .int .u16 0, .string ⟨#[]⟩, .slice none 0 0] (by kernel_rfl) ?_; intro w5c B5c hx5c)
      | ((with_reducible show wpList _ _ _ (⟨none, Op.store 47 _ _, _, _, _, _⟩ :: _) _ _); have _t := B5c; refine wpl_store_box rfl _ _ _ rfl _ [.string (strL userc), .slice A4c k4c c4c, .string (strL dbc), .int .u16 chc, .string (strL plc), .slice B4c m4c d4c] rfl rfl B5c rfl (by kernel_rfl) (by rfl) ?_; intro w6c B6c O6c; have e6c : Ext w4c w6c := hx5c.on O6c (Nat.le_refl _); replace hE := hE.trans e6c; replace B2c := B2c.ext e6c; replace r2c := r2c.ext e6c; replace a2c := a2c.ext e6c; replace r4c := r4c.ext e6c; replace a4c := a4c.ext e6c; clear B5c O6c hx5c)
      | ((with_reducible show wpList _ _ _ (⟨some 110, _, _, _, _, _⟩ :: _) _ _); refine wpl_load_g (j := 6) rfl rfl rfl _ _ rfl _ _ rfl [.string (strL userc), .slice A0c k0c c0c, .string (strL dbc), .int .u16 chc, .string (strL plc), .slice B0c m0c d0c] _ B2c.box.range Try.underlying47 rfl (by kernel_rfl) ?_)
      | ((with_reducible show wpList _ _ _ (⟨some 111, _, _, _, _, _⟩ :: _) _ _); refine wpl_load_g (j := 6) rfl rfl rfl _ _ rfl _ _ rfl [.string (strL userc), .slice A4c k4c c4c, .string (strL dbc), .int .u16 chc, .string (strL plc), .slice B4c m4c d4c] _ B6c.box.range Try.underlying47 rfl (by kernel_rfl) ?_)
      | (go_at_call 24; refine (sameChange_c _ chc userc respc dbc plc psc _ _ _ _ r2c a2c r4c a4c).mono ?_; rintro e w7c ⟨rfl, hx7c⟩; replace hE := hE.trans hx7c; clear B2c B6c r2c a2c r4c a4c)
      | (go_at_call 8; have _t := toks; refine (readSwitch_s _ _ L pls ns 0 (HR.out.ext hE) HPs.out).mono ?_; rintro e w0s ⟨A0s, k0s, c0s, rfl, r0s, hx0s⟩; replace hE := hE.trans hx0s; clear toks)
      | ((with_reducible show wpList _ _ _ (⟨some 19, _, _, _, _, _⟩ :: _) _ _); refine wpl_alloc rfl _ rfl [.string ⟨#[]⟩, .slice none 0 0] (by kernel_rfl) ?_; intro w1s B1s hx1s)
      | ((with_reducible show wpList _ _ _ (⟨none, Op.store 28 _ _, _, _, _, _⟩ :: _) _ _); have _t := B1s; refine wpl_store_box rfl _ _ _ rfl _ [.string (strL pls), .slice A0s k0s c0s] rfl rfl B1s rfl (by kernel_rfl) (by rfl) ?_; intro w2s B2s O2s; have e2s : Ext w0s w2s := hx1s.on O2s (Nat.le_refl _); replace hE := hE.trans e2s; have r2s := r0s.ext e2s; clear B1s O2s hx1s r0s)
      | ((with_reducible show wpList _ _ _ (⟨some 130, _, _, _, _, _⟩ :: _) _ _); refine wpl_load_box rfl _ _ rfl _ rfl B2s Try.underlying28 rfl (by kernel_rfl) ?_)
      | (go_at_call 6; refine (appendSwitch_g _ pls ns _ r2s HOKs.out HZs.out).mono ?_; intro e w3s hq9; rw [← HXs.out] at hq9; obtain ⟨A3s, c3s, rfl, ho3s, hx3s⟩ := retBE_s hq9; clear hq9; replace hE := hE.trans hx3s; replace B2s := B2s.ext hx3s; replace r2s := r2s.ext hx3s)
      | (go_at_call 10; have _t := ho3s; refine (same_c _ _ _ Xs L ho3s.rd (HR.out.ext hE) true (by rw [HXLs.out]; simp)).mono ?_; rintro e w4s ⟨rfl, rfl⟩; clear ho3s B2s r2s)
      | fail)
    go_ret
    exact ⟨rfl, hE⟩
  · obtain ⟨⟨userc, respc, dbc, chc, plc, psc⟩, erc, hpc⟩ : ∃ v er, overP (changeM c) chgV0 L = (v, er) := ⟨_, _, rfl⟩
    rw [hpc] at hec
    dsimp only at hec
    subst hec
    obtain ⟨hXc, hokc, hatc⟩ := overP_inv (inv_change c) hpc
    have hzc := chg_sizes hokc (n := 2000) (Nat.le_trans hXc hl)
    dsimp only at hzc hatc
    have HZc := Lib.hid (show userc.length ≤ 10000 ∧ dbc.length ≤ 10000 ∧ plc.length ≤ 10000 ∧ (attrsB psc).length ≤ 900000 by omega)
    obtain ⟨Xc, hXdc⟩ : ∃ X, X = changeB c ⟨userc, respc, dbc, chc, plc, psc⟩ := ⟨_, rfl⟩
    have HP2c := Lib.hid (show overP (changeM c) chgV0 Xc = (⟨userc, respc, dbc, chc, plc, psc⟩, 0) by rw [hXdc]; exact overP_full (eats_change c ⟨userc, respc, dbc, chc, plc, psc⟩ hokc (small_of_len _ 2000 (by dsimp only; omega) (by omega)) (by dsimp only; omega)))
    have HXlc := Lib.hid (show Xc.length ≤ 900000 by rw [hXdc]; omega)
    have hXic : ¬ ((L.length : Int) < (Xc.length : Int)) := by rw [hXdc]; omega
    have HXc := Lib.hid hXdc
    have HOKc := Lib.hid hokc
    have HPc := Lib.hid hpc
    clear hXc hXdc hokc hatc hpc hzc
    obtain ⟨⟨pls, ns⟩, ers, hps⟩ : ∃ v er, overP switchM ([], []) L = (v, er) := ⟨_, _, rfl⟩
    rw [hps] at hes
    dsimp only at hes
    have hbs : (ers == 0) = false := by simpa using hes
    have hns : (ers != 0) = true := by simpa using hes
    have HPs := Lib.hid hps
    clear hps hes
    clear hl
    go_enter Try.func5, Try.ntmps5
    go_wp2_with (first
      | (go_at_call 14; refine (lives12_c _).mono ?_; rintro e wl ⟨rfl, hE⟩; have toks : True := trivial; have tokc : True := trivial; have toka : True := trivial; have tokg : True := trivial)
      | (go_at_call 17; have _t := tokg; refine (readGreeting_s _ _ L verg ng plg thrg capsg chg stg erg (HR.out.ext hE) HPg.out).mono ?_; rintro e w0g ⟨A0g, k0g, c0g, rfl, r0g, hx0g⟩; replace hE := hE.trans hx0g; clear tokg)
      | ((with_reducible show wpList _ _ _ (⟨some 5, _, _, _, _, _⟩ :: _) _ _); refine wpl_alloc rfl _ rfl [.string ⟨#[]⟩, .int .u32 0, .slice none 0 0, .int .u32 0, .int .u8 0, .int .u16 0, .string ⟨#[]⟩] (by kernel_rfl) ?_; intro w1g B1g hx1g)
      | ((with_reducible show wpList _ _ _ (⟨none, Op.store 45 _ _, _, _, _, _⟩ :: _) _ _); have _t := B1g; refine wpl_store_box rfl _ _ _ rfl _ [.string (strL verg), .int .u32 thrg, .slice A0g k0g c0g, .int .u32 capsg, .int .u8 chg, .int .u16 stg, .string (strL plg)] rfl rfl B1g rfl (by kernel_rfl) (by rfl) ?_; intro w2g B2g O2g; have e2g : Ext w0g w2g := hx1g.on O2g (Nat.le_refl _); replace hE := hE.trans e2g; have r2g := r0g.ext e2g; clear B1g O2g hx1g r0g)
      | (go_at_call 12; have _t := toka; refine (readAnswer_s _ _ L usera respa dba pla capsa mosta cha 0 psa (HR.out.ext hE) HL9.out HPa.out).mono ?_; rintro e w0a ⟨A0a, k0a, c0a, B0a, m0a, d0a, rfl, r0a, a0a, hx0a⟩; replace hE := hE.trans hx0a; clear toka)
      | ((with_reducible show wpList _ _ _ (⟨some 9, _, _, _, _, _⟩ :: _) _ _); refine wpl_alloc rfl _ rfl [.int .u32 0, .int .u32 0, .int .u8 0, .string ⟨#[]⟩, .slice none 0 0, .string ⟨#[]⟩, .string ⟨#[]⟩, .slice none 0 0] (by kernel_rfl) ?_; intro w1a B1a hx1a)
      | ((with_reducible show wpList _ _ _ (⟨none, Op.store 38 _ _, _, _, _, _⟩ :: _) _ _); have _t := B1a; refine wpl_store_box rfl _ _ _ rfl _ [.int .u32 capsa, .int .u32 mosta, .int .u8 cha, .string (strL usera), .slice A0a k0a c0a, .string (strL dba), .string (strL pla), .slice B0a m0a d0a] rfl rfl B1a rfl (by kernel_rfl) (by rfl) ?_; intro w2a B2a O2a; have e2a : Ext w0a w2a := hx1a.on O2a (Nat.le_refl _); replace hE := hE.trans e2a; have r2a := r0a.ext e2a; have a2a := a0a.ext e2a; clear a0a; clear B1a O2a hx1a r0a)
      | ((with_reducible show wpList _ _ _ (⟨some 55, _, _, _, _, _⟩ :: _) _ _); refine wpl_load_box rfl _ _ rfl _ rfl B2a Try.underlying38 rfl (by kernel_rfl) ?_)
      | (go_at_call 13; refine (appendAnswer_g _ capsa mosta cha usera respa dba pla psa _ _ r2a a2a HOKa.out HZa.out.1 HZa.out.2.1 HZa.out.2.2.1 HZa.out.2.2.2).mono ?_; intro e w3a hq9; rw [← HXa.out] at hq9; obtain ⟨A3a, c3a, rfl, ho3a, hx3a⟩ := retBE_s hq9; clear hq9; replace hE := hE.trans hx3a; replace B2a := B2a.ext hx3a; replace r2a := r2a.ext hx3a; replace a2a := a2a.ext hx3a)
      | (go_at_call 12; have _t := ho3a; refine (readAnswer_s _ _ Xa usera respa dba pla capsa mosta cha 0 psa (ho3a.rd) HXla.out HP2a.out).mono ?_; rintro e w4a ⟨A4a, k4a, c4a, B4a, m4a, d4a, rfl, r4a, a4a, hx4a⟩; replace hE := hE.trans hx4a; replace B2a := B2a.ext hx4a; replace r2a := r2a.ext hx4a; replace a2a := a2a.ext hx4a; clear ho3a)
      | ((with_reducible show wpList _ _ _ (⟨some 12, _, _, _, _, _⟩ :: _) _ _); refine wpl_alloc rfl _ rfl [.int .u32 0, .int .u32 0, .int .u8 0, .string ⟨#[]⟩, .slice none 0 0, .string ⟨#[]⟩, .string ⟨#[]⟩, .slice none 0 0] (by kernel_rfl) ?_; intro w5a B5a hx5a)
      | ((with_reducible show wpList _ _ _ (⟨none, Op.store 38 _ _, _, _, _, _⟩ :: _) _ _); have _t := B5a; refine wpl_store_box rfl _ _ _ rfl _ [.int .u32 capsa, .int .u32 mosta, .int .u8 cha, .string (strL usera), .slice A4a k4a c4a, .string (strL dba), .string (strL pla), .slice B4a m4a d4a] rfl rfl B5a rfl (by kernel_rfl) (by rfl) ?_; intro w6a B6a O6a; have e6a : Ext w4a w6a := hx5a.on O6a (Nat.le_refl _); replace hE := hE.trans e6a; replace B2a := B2a.ext e6a; replace r2a := r2a.ext e6a; replace a2a := a2a.ext e6a; replace r4a := r4a.ext e6a; replace a4a := a4a.ext e6a; clear B5a O6a hx5a)
      | ((with_reducible show wpList _ _ _ (⟨some 71, _, _, _, _, _⟩ :: _) _ _); refine wpl_load_g (j := 6) rfl rfl rfl _ _ rfl _ _ rfl [.int .u32 capsa, .int .u32 mosta, .int .u8 cha, .string (strL usera), .slice A0a k0a c0a, .string (strL dba), .string (strL pla), .slice B0a m0a d0a] _ B2a.box.range Try.underlying38 rfl (by kernel_rfl) ?_)
      | ((with_reducible show wpList _ _ _ (⟨some 72, _, _, _, _, _⟩ :: _) _ _); refine wpl_load_g (j := 6) rfl rfl rfl _ _ rfl _ _ rfl [.int .u32 capsa, .int .u32 mosta, .int .u8 cha, .string (strL usera), .slice A4a k4a c4a, .string (strL dba), .string (strL pla), .slice B4a m4a d4a] _ B6a.box.range Try.underlying38 rfl (by kernel_rfl) ?_)
      | (go_at_call 20; refine (sameAnswer_c _ capsa mosta cha usera respa dba pla psa _ _ _ _ r2a a2a r4a a4a).mono ?_; rintro e w7a ⟨rfl, hx7a⟩; replace hE := hE.trans hx7a; clear B2a B6a r2a a2a r4a a4a)
      | (go_at_call 23; have _t := tokc; refine (readChange_s _ _ _ L userc respc dbc plc chc 0 psc (HR.out.ext hE) HL9.out HPc.out).mono ?_; rintro e w0c ⟨A0c, k0c, c0c, B0c, m0c, d0c, rfl, r0c, a0c, hx0c⟩; replace hE := hE.trans hx0c; clear tokc)
      | ((with_reducible show wpList _ _ _ (⟨some 14, _, _, _, _, _⟩ :: _) _ _); refine wpl_alloc rfl _ rfl [.string ⟨#[]⟩, .slice none 0 0, .string ⟨#[]⟩, .int .u16 0, .string ⟨#[]⟩, .slice none 0 0] (by kernel_rfl) ?_; intro w1c B1c hx1c)
      | ((with_reducible show wpList _ _ _ (⟨none, Op.store 47 _ _, _, _, _, _⟩ :: _) _ _); have _t := B1c; refine wpl_store_box rfl _ _ _ rfl _ [.string (strL userc), .slice A0c k0c c0c, .string (strL dbc), .int .u16 chc, .string (strL plc), .slice B0c m0c d0c] rfl rfl B1c rfl (by kernel_rfl) (by rfl) ?_; intro w2c B2c O2c; have e2c : Ext w0c w2c := hx1c.on O2c (Nat.le_refl _); replace hE := hE.trans e2c; have r2c := r0c.ext e2c; have a2c := a0c.ext e2c; clear a0c; clear B1c O2c hx1c r0c)
      | ((with_reducible show wpList _ _ _ (⟨some 93, _, _, _, _, _⟩ :: _) _ _); refine wpl_load_box rfl _ _ rfl _ rfl B2c Try.underlying47 rfl (by kernel_rfl) ?_)
      | (go_at_call 22; refine (appendChange_g _ _ userc respc dbc plc chc psc _ _ r2c a2c HOKc.out HZc.out.1 HZc.out.2.1 HZc.out.2.2.1 HZc.out.2.2.2).mono ?_; intro e w3c hq9; rw [← HXc.out] at hq9; obtain ⟨A3c, c3c, rfl, ho3c, hx3c⟩ := retBE_s hq9; clear hq9; replace hE := hE.trans hx3c; replace B2c := B2c.ext hx3c; replace r2c := r2c.ext hx3c; replace a2c := a2c.ext hx3c)
      | (go_at_call 23; have _t := ho3c; refine (readChange_s _ _ _ Xc userc respc dbc plc chc 0 psc (ho3c.rd) HXlc.out HP2c.out).mono ?_; rintro e w4c ⟨A4c, k4c, c4c, B4c, m4c, d4c, rfl, r4c, a4c, hx4c⟩; replace hE := hE.trans hx4c; replace B2c := B2c.ext hx4c; replace r2c := r2c.ext hx4c; replace a2c := a2c.ext hx4c; clear ho3c)
      | ((with_reducible show wpList _ _ _ (⟨some 17, _, _, _, _, _⟩ :: _) _ _); refine wpl_alloc rfl _ rfl [.string ⟨#[]⟩, .slice none 0 0, .string ⟨#[]⟩, .int .u16 0, .string ⟨#[]⟩, .slice none 0 0] (by kernel_rfl) ?_; intro w5c B5c hx5c)
      | ((with_reducible show wpList _ _ _ (⟨none, Op.store 47 _ _, _, _, _, _⟩ :: _) _ _); have _t := B5c; refine wpl_store_box rfl _ _ _ rfl _ [.string (strL userc), .slice A4c k4c c4c, .string (strL dbc), .int .u16 chc, .string (strL plc), .slice B4c m4c d4c] rfl rfl B5c rfl (by kernel_rfl) (by rfl) ?_; intro w6c B6c O6c; have e6c : Ext w4c w6c := hx5c.on O6c (Nat.le_refl _); replace hE := hE.trans e6c; replace B2c := B2c.ext e6c; replace r2c := r2c.ext e6c; replace a2c := a2c.ext e6c; replace r4c := r4c.ext e6c; replace a4c := a4c.ext e6c; clear B5c O6c hx5c)
      | ((with_reducible show wpList _ _ _ (⟨some 110, _, _, _, _, _⟩ :: _) _ _); refine wpl_load_g (j := 6) rfl rfl rfl _ _ rfl _ _ rfl [.string (strL userc), .slice A0c k0c c0c, .string (strL dbc), .int .u16 chc, .string (strL plc), .slice B0c m0c d0c] _ B2c.box.range Try.underlying47 rfl (by kernel_rfl) ?_)
      | ((with_reducible show wpList _ _ _ (⟨some 111, _, _, _, _, _⟩ :: _) _ _); refine wpl_load_g (j := 6) rfl rfl rfl _ _ rfl _ _ rfl [.string (strL userc), .slice A4c k4c c4c, .string (strL dbc), .int .u16 chc, .string (strL plc), .slice B4c m4c d4c] _ B6c.box.range Try.underlying47 rfl (by kernel_rfl) ?_)
      | (go_at_call 24; refine (sameChange_c _ chc userc respc dbc plc psc _ _ _ _ r2c a2c r4c a4c).mono ?_; rintro e w7c ⟨rfl, hx7c⟩; replace hE := hE.trans hx7c; clear B2c B6c r2c a2c r4c a4c)
      | (go_at_call 8; have _t := toks; refine (readSwitch_s _ _ L pls ns ers (HR.out.ext hE) HPs.out).mono ?_; rintro e w0s ⟨A0s, k0s, c0s, rfl, r0s, hx0s⟩; replace hE := hE.trans hx0s; clear toks)
      | ((with_reducible show wpList _ _ _ (⟨some 19, _, _, _, _, _⟩ :: _) _ _); refine wpl_alloc rfl _ rfl [.string ⟨#[]⟩, .slice none 0 0] (by kernel_rfl) ?_; intro w1s B1s hx1s)
      | ((with_reducible show wpList _ _ _ (⟨none, Op.store 28 _ _, _, _, _, _⟩ :: _) _ _); have _t := B1s; refine wpl_store_box rfl _ _ _ rfl _ [.string (strL pls), .slice A0s k0s c0s] rfl rfl B1s rfl (by kernel_rfl) (by rfl) ?_; intro w2s B2s O2s; have e2s : Ext w0s w2s := hx1s.on O2s (Nat.le_refl _); replace hE := hE.trans e2s; have r2s := r0s.ext e2s; clear B1s O2s hx1s r0s)
      | fail)
    go_ret
    exact ⟨rfl, hE⟩
  · obtain ⟨⟨userc, respc, dbc, chc, plc, psc⟩, erc, hpc⟩ : ∃ v er, overP (changeM c) chgV0 L = (v, er) := ⟨_, _, rfl⟩
    rw [hpc] at hec
    dsimp only at hec
    have hbc : (erc == 0) = false := by simpa using hec
    have hnc : (erc != 0) = true := by simpa using hec
    have HPc := Lib.hid hpc
    clear hpc hec
    obtain ⟨⟨pls, ns⟩, ers, hps⟩ : ∃ v er, overP switchM ([], []) L = (v, er) := ⟨_, _, rfl⟩
    rw [hps] at hes
    dsimp only at hes
    subst hes
    obtain ⟨hXs, hoks⟩ := overP_inv inv_switch hps
    obtain ⟨Xs, hXds⟩ : ∃ X, X = switchB (pls, ns) := ⟨_, rfl⟩
    have hXLs : Xs = L := hXds.trans hXs.symm
    have hzs := swi_sizes (s := (pls, ns)) (n := 2000) (by rw [← hXs]; exact hl)
    dsimp only at hzs
    have HZs := Lib.hid (show pls.length ≤ 10000 by omega)
    have HXs := Lib.hid (hXds)
    have HXLs := Lib.hid hXLs
    have HOKs := Lib.hid hoks
    have HPs := Lib.hid hps
    clear hXs hXds hXLs hoks hps hzs
    clear hl
    go_enter Try.func5, Try.ntmps5
    go_wp2_with (first
      | (go_at_call 14; refine (lives12_c _).mono ?_; rintro e wl ⟨rfl, hE⟩; have toks : True := trivial; have tokc : True := trivial; have toka : True := trivial; have tokg : True := trivial)
      | (go_at_call 17; have _t := tokg; refine (readGreeting_s _ _ L verg ng plg thrg capsg chg stg erg (HR.out.ext hE) HPg.out).mono ?_; rintro e w0g ⟨A0g, k0g, c0g, rfl, r0g, hx0g⟩; replace hE := hE.trans hx0g; clear tokg)
      | ((with_reducible show wpList _ _ _ (⟨some 5, _, _, _, _, _⟩ :: _) _ _); refine wpl_alloc rfl _ rfl [.string ⟨#[]⟩, .int .u32 0, .slice none 0 0, .int .u32 0, .int .u8 0, .int .u16 0, .string ⟨#[]⟩] (by kernel_rfl) ?_; intro w1g B1g hx1g)
      | ((with_reducible show wpList _ _ _ (⟨none, Op.store 45 _ _, _, _, _, _⟩ :: _) _ _); have _t := B1g; refine wpl_store_box rfl _ _ _ rfl _ [.string (strL verg), .int .u32 thrg, .slice A0g k0g c0g, .int .u32 capsg, .int .u8 chg, .int .u16 stg, .string (strL plg)] rfl rfl B1g rfl (by kernel_rfl) (by rfl) ?_; intro w2g B2g O2g; have e2g : Ext w0g w2g := hx1g.on O2g (Nat.le_refl _); replace hE := hE.trans e2g; have r2g := r0g.ext e2g; clear B1g O2g hx1g r0g)
      | (go_at_call 12; have _t := toka; refine (readAnswer_s _ _ L usera respa dba pla capsa mosta cha 0 psa (HR.out.ext hE) HL9.out HPa.out).mono ?_; rintro e w0a ⟨A0a, k0a, c0a, B0a, m0a, d0a, rfl, r0a, a0a, hx0a⟩; replace hE := hE.trans hx0a; clear toka)
      | ((with_reducible show wpList _ _ _ (⟨some 9, _, _, _, _, _⟩ :: _) _ _); refine wpl_alloc rfl _ rfl [.int .u32 0, .int .u32 0, .int .u8 0, .string ⟨#[]⟩, .slice none 0 0, .string ⟨#[]⟩, .string ⟨#[]⟩, .slice none 0 0] (by kernel_rfl) ?_; intro w1a B1a hx1a)
      | ((with_reducible show wpList _ _ _ (⟨none, Op.store 38 _ _, _, _, _, _⟩ :: _) _ _); have _t := B1a; refine wpl_store_box rfl _ _ _ rfl _ [.int .u32 capsa, .int .u32 mosta, .int .u8 cha, .string (strL usera), .slice A0a k0a c0a, .string (strL dba), .string (strL pla), .slice B0a m0a d0a] rfl rfl B1a rfl (by kernel_rfl) (by rfl) ?_; intro w2a B2a O2a; have e2a : Ext w0a w2a := hx1a.on O2a (Nat.le_refl _); replace hE := hE.trans e2a; have r2a := r0a.ext e2a; have a2a := a0a.ext e2a; clear a0a; clear B1a O2a hx1a r0a)
      | ((with_reducible show wpList _ _ _ (⟨some 55, _, _, _, _, _⟩ :: _) _ _); refine wpl_load_box rfl _ _ rfl _ rfl B2a Try.underlying38 rfl (by kernel_rfl) ?_)
      | (go_at_call 13; refine (appendAnswer_g _ capsa mosta cha usera respa dba pla psa _ _ r2a a2a HOKa.out HZa.out.1 HZa.out.2.1 HZa.out.2.2.1 HZa.out.2.2.2).mono ?_; intro e w3a hq9; rw [← HXa.out] at hq9; obtain ⟨A3a, c3a, rfl, ho3a, hx3a⟩ := retBE_s hq9; clear hq9; replace hE := hE.trans hx3a; replace B2a := B2a.ext hx3a; replace r2a := r2a.ext hx3a; replace a2a := a2a.ext hx3a)
      | (go_at_call 12; have _t := ho3a; refine (readAnswer_s _ _ Xa usera respa dba pla capsa mosta cha 0 psa (ho3a.rd) HXla.out HP2a.out).mono ?_; rintro e w4a ⟨A4a, k4a, c4a, B4a, m4a, d4a, rfl, r4a, a4a, hx4a⟩; replace hE := hE.trans hx4a; replace B2a := B2a.ext hx4a; replace r2a := r2a.ext hx4a; replace a2a := a2a.ext hx4a; clear ho3a)
      | ((with_reducible show wpList _ _ _ (⟨some 12, _, _, _, _, _⟩ :: _) _ _); refine wpl_alloc rfl _ rfl [.int .u32 0, .int .u32 0, .int .u8 0, .string ⟨#[]⟩, .slice none 0 0, .string ⟨#[]⟩, .string ⟨#[]⟩, .slice none 0 0] (by kernel_rfl) ?_; intro w5a B5a hx5a)
      | ((with_reducible show wpList _ _ _ (⟨none, Op.store 38 _ _, _, _, _, _⟩ :: _) _ _); have _t := B5a; refine wpl_store_box rfl _ _ _ rfl _ [.int .u32 capsa, .int .u32 mosta, .int .u8 cha, .string (strL usera), .slice A4a k4a c4a, .string (strL dba), .string (strL pla), .slice B4a m4a d4a] rfl rfl B5a rfl (by kernel_rfl) (by rfl) ?_; intro w6a B6a O6a; have e6a : Ext w4a w6a := hx5a.on O6a (Nat.le_refl _); replace hE := hE.trans e6a; replace B2a := B2a.ext e6a; replace r2a := r2a.ext e6a; replace a2a := a2a.ext e6a; replace r4a := r4a.ext e6a; replace a4a := a4a.ext e6a; clear B5a O6a hx5a)
      | ((with_reducible show wpList _ _ _ (⟨some 71, _, _, _, _, _⟩ :: _) _ _); refine wpl_load_g (j := 6) rfl rfl rfl _ _ rfl _ _ rfl [.int .u32 capsa, .int .u32 mosta, .int .u8 cha, .string (strL usera), .slice A0a k0a c0a, .string (strL dba), .string (strL pla), .slice B0a m0a d0a] _ B2a.box.range Try.underlying38 rfl (by kernel_rfl) ?_)
      | ((with_reducible show wpList _ _ _ (⟨some 72, _, _, _, _, _⟩ :: _) _ _); refine wpl_load_g (j := 6) rfl rfl rfl _ _ rfl _ _ rfl [.int .u32 capsa, .int .u32 mosta, .int .u8 cha, .string (strL usera), .slice A4a k4a c4a, .string (strL dba), .string (strL pla), .slice B4a m4a d4a] _ B6a.box.range Try.underlying38 rfl (by kernel_rfl) ?_)
      | (go_at_call 20; refine (sameAnswer_c _ capsa mosta cha usera respa dba pla psa _ _ _ _ r2a a2a r4a a4a).mono ?_; rintro e w7a ⟨rfl, hx7a⟩; replace hE := hE.trans hx7a; clear B2a B6a r2a a2a r4a a4a)
      | (go_at_call 23; have _t := tokc; refine (readChange_s _ _ _ L userc respc dbc plc chc erc psc (HR.out.ext hE) HL9.out HPc.out).mono ?_; rintro e w0c ⟨A0c, k0c, c0c, B0c, m0c, d0c, rfl, r0c, a0c, hx0c⟩; replace hE := hE.trans hx0c; clear tokc)
      | ((with_reducible show wpList _ _ _ (⟨some 14, _, _, _, _, _⟩ :: _) _ _); refine wpl_alloc rfl _ rfl [.string ⟨#[]⟩, .slice none 0 0, .string ⟨#[]⟩, .int .u16 0, .string ⟨#[]⟩, .slice none 0 0] (by kernel_rfl) ?_; intro w1c B1c hx1c)
      | ((with_reducible show wpList _ _ _ (⟨none, Op.store 47 _ _, _, _, _, _⟩ :: _) _ _); have _t := B1c; refine wpl_store_box rfl _ _ _ rfl _ [.string (strL userc), .slice A0c k0c c0c, .string (strL dbc), .int .u16 chc, .string (strL plc), .slice B0c m0c d0c] rfl rfl B1c rfl (by kernel_rfl) (by rfl) ?_; intro w2c B2c O2c; have e2c : Ext w0c w2c := hx1c.on O2c (Nat.le_refl _); replace hE := hE.trans e2c; have r2c := r0c.ext e2c; have a2c := a0c.ext e2c; clear a0c; clear B1c O2c hx1c r0c)
      | (go_at_call 8; have _t := toks; refine (readSwitch_s _ _ L pls ns 0 (HR.out.ext hE) HPs.out).mono ?_; rintro e w0s ⟨A0s, k0s, c0s, rfl, r0s, hx0s⟩; replace hE := hE.trans hx0s; clear toks)
      | ((with_reducible show wpList _ _ _ (⟨some 19, _, _, _, _, _⟩ :: _) _ _); refine wpl_alloc rfl _ rfl [.string ⟨#[]⟩, .slice none 0 0] (by kernel_rfl) ?_; intro w1s B1s hx1s)
      | ((with_reducible show wpList _ _ _ (⟨none, Op.store 28 _ _, _, _, _, _⟩ :: _) _ _); have _t := B1s; refine wpl_store_box rfl _ _ _ rfl _ [.string (strL pls), .slice A0s k0s c0s] rfl rfl B1s rfl (by kernel_rfl) (by rfl) ?_; intro w2s B2s O2s; have e2s : Ext w0s w2s := hx1s.on O2s (Nat.le_refl _); replace hE := hE.trans e2s; have r2s := r0s.ext e2s; clear B1s O2s hx1s r0s)
      | ((with_reducible show wpList _ _ _ (⟨some 130, _, _, _, _, _⟩ :: _) _ _); refine wpl_load_box rfl _ _ rfl _ rfl B2s Try.underlying28 rfl (by kernel_rfl) ?_)
      | (go_at_call 6; refine (appendSwitch_g _ pls ns _ r2s HOKs.out HZs.out).mono ?_; intro e w3s hq9; rw [← HXs.out] at hq9; obtain ⟨A3s, c3s, rfl, ho3s, hx3s⟩ := retBE_s hq9; clear hq9; replace hE := hE.trans hx3s; replace B2s := B2s.ext hx3s; replace r2s := r2s.ext hx3s)
      | (go_at_call 10; have _t := ho3s; refine (same_c _ _ _ Xs L ho3s.rd (HR.out.ext hE) true (by rw [HXLs.out]; simp)).mono ?_; rintro e w4s ⟨rfl, rfl⟩; clear ho3s B2s r2s)
      | fail)
    go_ret
    exact ⟨rfl, hE⟩
  · obtain ⟨⟨userc, respc, dbc, chc, plc, psc⟩, erc, hpc⟩ : ∃ v er, overP (changeM c) chgV0 L = (v, er) := ⟨_, _, rfl⟩
    rw [hpc] at hec
    dsimp only at hec
    have hbc : (erc == 0) = false := by simpa using hec
    have hnc : (erc != 0) = true := by simpa using hec
    have HPc := Lib.hid hpc
    clear hpc hec
    obtain ⟨⟨pls, ns⟩, ers, hps⟩ : ∃ v er, overP switchM ([], []) L = (v, er) := ⟨_, _, rfl⟩
    rw [hps] at hes
    dsimp only at hes
    have hbs : (ers == 0) = false := by simpa using hes
    have hns : (ers != 0) = true := by simpa using hes
    have HPs := Lib.hid hps
    clear hps hes
    clear hl
    go_enter Try.func5, Try.ntmps5
    go_wp2_with (first
      | (go_at_call 14; refine (lives12_c _).mono ?_; rintro e wl ⟨rfl, hE⟩; have toks : True := trivial; have tokc : True := trivial; have toka : True := trivial; have tokg : True := trivial)
      | (go_at_call 17; have _t := tokg; refine (readGreeting_s _ _ L verg ng plg thrg capsg chg stg erg (HR.out.ext hE) HPg.out).mono ?_; rintro e w0g ⟨A0g, k0g, c0g, rfl, r0g, hx0g⟩; replace hE := hE.trans hx0g; clear tokg)
      | ((with_reducible show wpList _ _ _ (⟨some 5, _, _, _, _, _⟩ :: _) _ _); refine wpl_alloc rfl _ rfl [.string ⟨#[]⟩, .int .u32 0, .slice none 0 0, .int .u32 0, .int .u8 0, .int .u16 0, .string ⟨#[]⟩] (by kernel_rfl) ?_; intro w1g B1g hx1g)
      | ((with_reducible show wpList _ _ _ (⟨none, Op.store 45 _ _, _, _, _, _⟩ :: _) _ _); have _t := B1g; refine wpl_store_box rfl _ _ _ rfl _ [.string (strL verg), .int .u32 thrg, .slice A0g k0g c0g, .int .u32 capsg, .int .u8 chg, .int .u16 stg, .string (strL plg)] rfl rfl B1g rfl (by kernel_rfl) (by rfl) ?_; intro w2g B2g O2g; have e2g : Ext w0g w2g := hx1g.on O2g (Nat.le_refl _); replace hE := hE.trans e2g; have r2g := r0g.ext e2g; clear B1g O2g hx1g r0g)
      | (go_at_call 12; have _t := toka; refine (readAnswer_s _ _ L usera respa dba pla capsa mosta cha 0 psa (HR.out.ext hE) HL9.out HPa.out).mono ?_; rintro e w0a ⟨A0a, k0a, c0a, B0a, m0a, d0a, rfl, r0a, a0a, hx0a⟩; replace hE := hE.trans hx0a; clear toka)
      | ((with_reducible show wpList _ _ _ (⟨some 9, _, _, _, _, _⟩ :: _) _ _); refine wpl_alloc rfl _ rfl [.int .u32 0, .int .u32 0, .int .u8 0, .string ⟨#[]⟩, .slice none 0 0, .string ⟨#[]⟩, .string ⟨#[]⟩, .slice none 0 0] (by kernel_rfl) ?_; intro w1a B1a hx1a)
      | ((with_reducible show wpList _ _ _ (⟨none, Op.store 38 _ _, _, _, _, _⟩ :: _) _ _); have _t := B1a; refine wpl_store_box rfl _ _ _ rfl _ [.int .u32 capsa, .int .u32 mosta, .int .u8 cha, .string (strL usera), .slice A0a k0a c0a, .string (strL dba), .string (strL pla), .slice B0a m0a d0a] rfl rfl B1a rfl (by kernel_rfl) (by rfl) ?_; intro w2a B2a O2a; have e2a : Ext w0a w2a := hx1a.on O2a (Nat.le_refl _); replace hE := hE.trans e2a; have r2a := r0a.ext e2a; have a2a := a0a.ext e2a; clear a0a; clear B1a O2a hx1a r0a)
      | ((with_reducible show wpList _ _ _ (⟨some 55, _, _, _, _, _⟩ :: _) _ _); refine wpl_load_box rfl _ _ rfl _ rfl B2a Try.underlying38 rfl (by kernel_rfl) ?_)
      | (go_at_call 13; refine (appendAnswer_g _ capsa mosta cha usera respa dba pla psa _ _ r2a a2a HOKa.out HZa.out.1 HZa.out.2.1 HZa.out.2.2.1 HZa.out.2.2.2).mono ?_; intro e w3a hq9; rw [← HXa.out] at hq9; obtain ⟨A3a, c3a, rfl, ho3a, hx3a⟩ := retBE_s hq9; clear hq9; replace hE := hE.trans hx3a; replace B2a := B2a.ext hx3a; replace r2a := r2a.ext hx3a; replace a2a := a2a.ext hx3a)
      | (go_at_call 12; have _t := ho3a; refine (readAnswer_s _ _ Xa usera respa dba pla capsa mosta cha 0 psa (ho3a.rd) HXla.out HP2a.out).mono ?_; rintro e w4a ⟨A4a, k4a, c4a, B4a, m4a, d4a, rfl, r4a, a4a, hx4a⟩; replace hE := hE.trans hx4a; replace B2a := B2a.ext hx4a; replace r2a := r2a.ext hx4a; replace a2a := a2a.ext hx4a; clear ho3a)
      | ((with_reducible show wpList _ _ _ (⟨some 12, _, _, _, _, _⟩ :: _) _ _); refine wpl_alloc rfl _ rfl [.int .u32 0, .int .u32 0, .int .u8 0, .string ⟨#[]⟩, .slice none 0 0, .string ⟨#[]⟩, .string ⟨#[]⟩, .slice none 0 0] (by kernel_rfl) ?_; intro w5a B5a hx5a)
      | ((with_reducible show wpList _ _ _ (⟨none, Op.store 38 _ _, _, _, _, _⟩ :: _) _ _); have _t := B5a; refine wpl_store_box rfl _ _ _ rfl _ [.int .u32 capsa, .int .u32 mosta, .int .u8 cha, .string (strL usera), .slice A4a k4a c4a, .string (strL dba), .string (strL pla), .slice B4a m4a d4a] rfl rfl B5a rfl (by kernel_rfl) (by rfl) ?_; intro w6a B6a O6a; have e6a : Ext w4a w6a := hx5a.on O6a (Nat.le_refl _); replace hE := hE.trans e6a; replace B2a := B2a.ext e6a; replace r2a := r2a.ext e6a; replace a2a := a2a.ext e6a; replace r4a := r4a.ext e6a; replace a4a := a4a.ext e6a; clear B5a O6a hx5a)
      | ((with_reducible show wpList _ _ _ (⟨some 71, _, _, _, _, _⟩ :: _) _ _); refine wpl_load_g (j := 6) rfl rfl rfl _ _ rfl _ _ rfl [.int .u32 capsa, .int .u32 mosta, .int .u8 cha, .string (strL usera), .slice A0a k0a c0a, .string (strL dba), .string (strL pla), .slice B0a m0a d0a] _ B2a.box.range Try.underlying38 rfl (by kernel_rfl) ?_)
      | ((with_reducible show wpList _ _ _ (⟨some 72, _, _, _, _, _⟩ :: _) _ _); refine wpl_load_g (j := 6) rfl rfl rfl _ _ rfl _ _ rfl [.int .u32 capsa, .int .u32 mosta, .int .u8 cha, .string (strL usera), .slice A4a k4a c4a, .string (strL dba), .string (strL pla), .slice B4a m4a d4a] _ B6a.box.range Try.underlying38 rfl (by kernel_rfl) ?_)
      | (go_at_call 20; refine (sameAnswer_c _ capsa mosta cha usera respa dba pla psa _ _ _ _ r2a a2a r4a a4a).mono ?_; rintro e w7a ⟨rfl, hx7a⟩; replace hE := hE.trans hx7a; clear B2a B6a r2a a2a r4a a4a)
      | (go_at_call 23; have _t := tokc; refine (readChange_s _ _ _ L userc respc dbc plc chc erc psc (HR.out.ext hE) HL9.out HPc.out).mono ?_; rintro e w0c ⟨A0c, k0c, c0c, B0c, m0c, d0c, rfl, r0c, a0c, hx0c⟩; replace hE := hE.trans hx0c; clear tokc)
      | ((with_reducible show wpList _ _ _ (⟨some 14, _, _, _, _, _⟩ :: _) _ _); refine wpl_alloc rfl _ rfl [.string ⟨#[]⟩, .slice none 0 0, .string ⟨#[]⟩, .int .u16 0, .string ⟨#[]⟩, .slice none 0 0] (by kernel_rfl) ?_; intro w1c B1c hx1c)
      | ((with_reducible show wpList _ _ _ (⟨none, Op.store 47 _ _, _, _, _, _⟩ :: _) _ _); have _t := B1c; refine wpl_store_box rfl _ _ _ rfl _ [.string (strL userc), .slice A0c k0c c0c, .string (strL dbc), .int .u16 chc, .string (strL plc), .slice B0c m0c d0c] rfl rfl B1c rfl (by kernel_rfl) (by rfl) ?_; intro w2c B2c O2c; have e2c : Ext w0c w2c := hx1c.on O2c (Nat.le_refl _); replace hE := hE.trans e2c; have r2c := r0c.ext e2c; have a2c := a0c.ext e2c; clear a0c; clear B1c O2c hx1c r0c)
      | (go_at_call 8; have _t := toks; refine (readSwitch_s _ _ L pls ns ers (HR.out.ext hE) HPs.out).mono ?_; rintro e w0s ⟨A0s, k0s, c0s, rfl, r0s, hx0s⟩; replace hE := hE.trans hx0s; clear toks)
      | ((with_reducible show wpList _ _ _ (⟨some 19, _, _, _, _, _⟩ :: _) _ _); refine wpl_alloc rfl _ rfl [.string ⟨#[]⟩, .slice none 0 0] (by kernel_rfl) ?_; intro w1s B1s hx1s)
      | ((with_reducible show wpList _ _ _ (⟨none, Op.store 28 _ _, _, _, _, _⟩ :: _) _ _); have _t := B1s; refine wpl_store_box rfl _ _ _ rfl _ [.string (strL pls), .slice A0s k0s c0s] rfl rfl B1s rfl (by kernel_rfl) (by rfl) ?_; intro w2s B2s O2s; have e2s : Ext w0s w2s := hx1s.on O2s (Nat.le_refl _); replace hE := hE.trans e2s; have r2s := r0s.ext e2s; clear B1s O2s hx1s r0s)
      | fail)
    go_ret
    exact ⟨rfl, hE⟩
end Go.Proofs.Ytaiakkifefedoaa
