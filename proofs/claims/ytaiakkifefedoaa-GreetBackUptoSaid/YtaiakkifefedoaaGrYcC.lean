import Derived.Test.YtaiakkifefedoaaGrYrC
import Derived.Deep.RegionHeld3
import Derived.Deep.CutRange
/- GreetBack's walk: what is gone through. (Printed by gen_grYb.py.) -/
namespace Go.Proofs.Ytaiakkifefedoaa
open Go.RowKit

set_option linter.unusedVariables false in
set_option maxRecDepth 100000 in
set_option maxHeartbeats 64000000 in
theorem greetBack_1 (w : World) (cut more c : Int) (verg ng plg usera respa dba pla pls ns userc respc dbc plc : List UInt8) (psa psc : Pairs) (thrg capsg chg stg capsa mosta cha chc : Int) (Ag Ar Aa As Ac Ad : Option Addr) (cg cr ca cs cc cd : Nat)
    (hrg : Rd w (.slice Ag ng.length cg) ng) (hrr : Rd w (.slice Ar respa.length cr) respa) (haa : Attrs w (.slice Aa psa.length ca) psa) (hrs : Rd w (.slice As ns.length cs) ns) (hrc : Rd w (.slice Ac respc.length cc) respc) (had : Attrs w (.slice Ad psc.length cd) psc)
    (hm : 0 ≤ more ∧ more < 256) (hw : (0 ≤ thrg ∧ thrg < 4294967296) ∧ (0 ≤ capsg ∧ capsg < 4294967296) ∧ (0 ≤ chg ∧ chg < 256) ∧ (0 ≤ stg ∧ stg < 65536) ∧ (0 ≤ capsa ∧ capsa < 4294967296) ∧ (0 ≤ mosta ∧ mosta < 4294967296) ∧ (0 ≤ cha ∧ cha < 256) ∧ (0 ≤ chc ∧ chc < 65536) ∧ True)
    (hb13 : verg.length ≤ 1048576 ∧ ng.length ≤ 1048576 ∧ plg.length ≤ 1048576 ∧ usera.length ≤ 1048576 ∧ respa.length ≤ 1048576 ∧ dba.length ≤ 1048576 ∧ pla.length ≤ 1048576 ∧ pls.length ≤ 1048576 ∧ ns.length ≤ 1048576 ∧ userc.length ≤ 1048576 ∧ respc.length ≤ 1048576 ∧ dbc.length ≤ 1048576 ∧ plc.length ≤ 1048576)
    (hpa : ∀ p ∈ psa, p.1.length ≤ 1048576 ∧ p.2.length ≤ 1048576) (hpc : ∀ p ∈ psc, p.1.length ≤ 1048576 ∧ p.2.length ≤ 1048576) (hK : smallK (verg.length + ng.length + plg.length + usera.length + respa.length + dba.length + pla.length + pls.length + ns.length + userc.length + respc.length + dbc.length + plc.length) psa psc = true) :
    Calls Try.prog 4 #[.agg #[.string (strL verg), .int .u32 thrg, .slice Ag ng.length cg, .int .u32 capsg, .int .u8 chg, .int .u16 stg, .string (strL plg), .int .u32 capsa, .int .u32 mosta, .int .u8 cha, .string (strL usera), .slice Ar respa.length cr, .string (strL dba), .string (strL pla), .slice Aa psa.length ca, .string (strL pls), .slice As ns.length cs, .string (strL userc), .slice Ac respc.length cc, .string (strL dbc), .int .u16 chc, .string (strL plc), .slice Ad psc.length cd, .int .u32 c], .int .i64 cut, .int .u8 more] w (RetTrue w) := by
  have hsm := smallK_true hK
  have hbA := attrsB_bound psa
  have hbC := attrsB_bound psc
  have HZ := Lib.hid (show verg.length ≤ 10000 ∧ plg.length ≤ 10000 ∧ usera.length ≤ 10000 ∧ dba.length ≤ 10000 ∧ pla.length ≤ 10000 ∧ (attrsB psa).length ≤ 900000 ∧ pls.length ≤ 10000 ∧ userc.length ≤ 10000 ∧ dbc.length ≤ 10000 ∧ plc.length ≤ 10000 ∧ (attrsB psc).length ≤ 900000 by omega)
  have hSa : smallA psa := small_of_len psa 100000 (by omega) (by omega)
  have hSc : smallA psc := small_of_len psc 100000 (by omega) (by omega)
  have hLa : (attrsB psa).length ≤ 100000000 := by omega
  have hLc : (attrsB psc).length ≤ 100000000 := by omega
  have hlng := gre_len ⟨verg, thrg, ng, capsg, chg, stg, plg⟩
  dsimp only at hlng
  obtain ⟨Xg, hXg⟩ : ∃ X, X = greetB ⟨verg, thrg, ng, capsg, chg, stg, plg⟩ := ⟨_, rfl⟩
  rw [← hXg] at hlng
  obtain ⟨kg, hkg, hklg⟩ := pick_k cut Xg.length hlng.1
  obtain ⟨bg, hbg⟩ := bool_of (GreOk ⟨verg, thrg, ng, capsg, chg, stg, plg⟩)
  have heag : bg = true → Eats greetM Xg ⟨verg, thrg, ng, capsg, chg, stg, plg⟩ := fun hq9 => by rw [hXg]; exact eats_greet _ (hbg.1 hq9)
  have H0g := Lib.hid (show bg = true → overP greetM gre0 Xg = (⟨verg, thrg, ng, capsg, chg, stg, plg⟩, 0) from fun hq9 => overP_full (heag hq9))
  have H4g := Lib.hid (show bg = true → overP greetM gre0 (Xg.take kg) = (⟨[], 0, [], 0, 0, 0, []⟩, 4) from fun hq9 => overP_cut (heag hq9) kg hklg)
  have H5g := Lib.hid (show bg = true → overP greetM gre0 (Xg ++ [UInt8.ofNat more.toNat]) = (⟨[], 0, [], 0, 0, 0, []⟩, 5) from fun hq9 => overP_long (heag hq9) _)
  have hp1g : (0 : Int) < (Xg.length : Int) ∧ (Xg.length : Int) < 1000000000 := by omega
  have HP1g := Lib.hid hp1g
  have hp2g : (0 : Int) ≤ (kg : Int) ∧ (kg : Int) ≤ (Xg.length : Int) := by omega
  have HP2g := Lib.hid hp2g
  have hp3g : Xg.length ≤ 900000 := by omega
  have HP3g := Lib.hid hp3g
  have hp4g : (Xg.take kg).length ≤ 900000 := by rw [List.length_take]; omega
  have HP4g := Lib.hid hp4g
  have hp5g : (Xg ++ [UInt8.ofNat more.toNat]).length ≤ 900000 := by rw [List.length_append, List.length_singleton]; omega
  have HP5g := Lib.hid hp5g
  have hp6g : kg ≤ Xg.length := by omega
  have HP6g := Lib.hid hp6g
  have HXg := Lib.hid (show Xg = greetBs verg thrg ng capsg chg stg plg from hXg)
  have HKg := Lib.hid hkg
  have HOKig := Lib.hid hbg
  clear hXg hkg hklg hbg heag hlng hp1g hp2g hp3g hp4g hp5g hp6g
  have hlna := ans_len ⟨capsa, mosta, cha, usera, respa, dba, pla, psa⟩
  dsimp only at hlna
  obtain ⟨Xa, hXa⟩ : ∃ X, X = answerB ⟨capsa, mosta, cha, usera, respa, dba, pla, psa⟩ := ⟨_, rfl⟩
  rw [← hXa] at hlna
  obtain ⟨ka, hka, hkla⟩ := pick_k cut Xa.length hlna.1
  obtain ⟨ba, hba⟩ := bool_of (AnsOk ⟨capsa, mosta, cha, usera, respa, dba, pla, psa⟩)
  have heaa : ba = true → Eats answerM Xa ⟨capsa, mosta, cha, usera, respa, dba, pla, psa⟩ := fun hq9 => by rw [hXa]; exact eats_answer _ (hba.1 hq9) hSa hLa
  have H0a := Lib.hid (show ba = true → overP answerM ans0 Xa = (⟨capsa, mosta, cha, usera, respa, dba, pla, psa⟩, 0) from fun hq9 => overP_full (heaa hq9))
  have H4a := Lib.hid (show ba = true → overP answerM ans0 (Xa.take ka) = (⟨0, 0, 0, [], [], [], [], []⟩, 4) from fun hq9 => overP_cut (heaa hq9) ka hkla)
  have H5a := Lib.hid (show ba = true → overP answerM ans0 (Xa ++ [UInt8.ofNat more.toNat]) = (⟨0, 0, 0, [], [], [], [], []⟩, 5) from fun hq9 => overP_long (heaa hq9) _)
  have hp1a : (0 : Int) < (Xa.length : Int) ∧ (Xa.length : Int) < 1000000000 := by omega
  have HP1a := Lib.hid hp1a
  have hp2a : (0 : Int) ≤ (ka : Int) ∧ (ka : Int) ≤ (Xa.length : Int) := by omega
  have HP2a := Lib.hid hp2a
  have hp3a : Xa.length ≤ 900000 := by omega
  have HP3a := Lib.hid hp3a
  have hp4a : (Xa.take ka).length ≤ 900000 := by rw [List.length_take]; omega
  have HP4a := Lib.hid hp4a
  have hp5a : (Xa ++ [UInt8.ofNat more.toNat]).length ≤ 900000 := by rw [List.length_append, List.length_singleton]; omega
  have HP5a := Lib.hid hp5a
  have hp6a : ka ≤ Xa.length := by omega
  have HP6a := Lib.hid hp6a
  have HXa := Lib.hid hXa
  have HKa := Lib.hid hka
  have HOKia := Lib.hid hba
  clear hXa hka hkla hba heaa hlna hp1a hp2a hp3a hp4a hp5a hp6a
  have hlns := swi_len (pls, ns)
  dsimp only at hlns
  obtain ⟨Xs, hXs⟩ : ∃ X, X = switchB (pls, ns) := ⟨_, rfl⟩
  rw [← hXs] at hlns
  obtain ⟨ks, hks, hkls⟩ := pick_k cut Xs.length hlns.1
  obtain ⟨bs, hbs⟩ := bool_of (switchOk (pls, ns))
  have heas : bs = true → Eats switchM Xs (pls, ns) := fun hq9 => by rw [hXs]; exact eats_switch _ (hbs.1 hq9)
  have H0s := Lib.hid (show bs = true → overP switchM ([], []) Xs = ((pls, ns), 0) from fun hq9 => overP_full (heas hq9))
  have H4s := Lib.hid (show bs = true → overP switchM ([], []) (Xs.take ks) = (([], []), 4) from fun hq9 => overP_cut (heas hq9) ks hkls)
  have H5s := Lib.hid (show bs = true → overP switchM ([], []) (Xs ++ [UInt8.ofNat more.toNat]) = (([], []), 5) from fun hq9 => overP_long (heas hq9) _)
  have hp1s : (0 : Int) < (Xs.length : Int) ∧ (Xs.length : Int) < 1000000000 := by omega
  have HP1s := Lib.hid hp1s
  have hp2s : (0 : Int) ≤ (ks : Int) ∧ (ks : Int) ≤ (Xs.length : Int) := by omega
  have HP2s := Lib.hid hp2s
  have hp3s : Xs.length ≤ 900000 := by omega
  have HP3s := Lib.hid hp3s
  have hp4s : (Xs.take ks).length ≤ 900000 := by rw [List.length_take]; omega
  have HP4s := Lib.hid hp4s
  have hp5s : (Xs ++ [UInt8.ofNat more.toNat]).length ≤ 900000 := by rw [List.length_append, List.length_singleton]; omega
  have HP5s := Lib.hid hp5s
  have hp6s : ks ≤ Xs.length := by omega
  have HP6s := Lib.hid hp6s
  have HXs := Lib.hid hXs
  have HKs := Lib.hid hks
  have HOKis := Lib.hid hbs
  clear hXs hks hkls hbs heas hlns hp1s hp2s hp3s hp4s hp5s hp6s
  have hlnc := chg_len c ⟨userc, respc, dbc, chc, plc, psc⟩
  dsimp only at hlnc
  obtain ⟨Xc, hXc⟩ : ∃ X, X = changeB c ⟨userc, respc, dbc, chc, plc, psc⟩ := ⟨_, rfl⟩
  rw [← hXc] at hlnc
  obtain ⟨kc, hkc, hklc⟩ := pick_k cut Xc.length hlnc.1
  obtain ⟨bc, hbc⟩ := bool_of (ChgOk c ⟨userc, respc, dbc, chc, plc, psc⟩)
  have heac : bc = true → Eats (changeM c) Xc ⟨userc, respc, dbc, chc, plc, psc⟩ := fun hq9 => by rw [hXc]; exact eats_change c _ (hbc.1 hq9) hSc hLc
  have H0c := Lib.hid (show bc = true → overP (changeM c) chgV0 Xc = (⟨userc, respc, dbc, chc, plc, psc⟩, 0) from fun hq9 => overP_full (heac hq9))
  have H4c := Lib.hid (show bc = true → overP (changeM c) chgV0 (Xc.take kc) = (⟨[], [], [], 0, [], []⟩, 4) from fun hq9 => overP_cut (heac hq9) kc hklc)
  have H5c := Lib.hid (show bc = true → overP (changeM c) chgV0 (Xc ++ [UInt8.ofNat more.toNat]) = (⟨[], [], [], 0, [], []⟩, 5) from fun hq9 => overP_long (heac hq9) _)
  have hp1c : (0 : Int) < (Xc.length : Int) ∧ (Xc.length : Int) < 1000000000 := by omega
  have HP1c := Lib.hid hp1c
  have hp2c : (0 : Int) ≤ (kc : Int) ∧ (kc : Int) ≤ (Xc.length : Int) := by omega
  have HP2c := Lib.hid hp2c
  have hp3c : Xc.length ≤ 900000 := by omega
  have HP3c := Lib.hid hp3c
  have hp4c : (Xc.take kc).length ≤ 900000 := by rw [List.length_take]; omega
  have HP4c := Lib.hid hp4c
  have hp5c : (Xc ++ [UInt8.ofNat more.toNat]).length ≤ 900000 := by rw [List.length_append, List.length_singleton]; omega
  have HP5c := Lib.hid hp5c
  have hp6c : kc ≤ Xc.length := by omega
  have HP6c := Lib.hid hp6c
  have HXc := Lib.hid hXc
  have HKc := Lib.hid hkc
  have HOKic := Lib.hid hbc
  clear hXc hkc hklc hbc heac hlnc hp1c hp2c hp3c hp4c hp5c hp6c
  clear hsm hbA hbC hSa hSc hLa hLc
  have HSM0 := Lib.hid (fun (W : World) (hW : Ext w W) => small_c W (strL verg) (strL plg) (strL usera) (strL dba) (strL pla) (strL pls) (strL userc) (strL dbc) (strL plc) ng.length respa.length ns.length respc.length Ag Ar Aa As Ac Ad cg cr ca cs cc cd thrg capsg chg stg capsa mosta cha chc c psa psc (Recs.ext haa hW) (Recs.ext had hW) hpa hpc (by rw [strL_size]; omega) (by omega) (by rw [strL_size]; omega) (by rw [strL_size]; omega) (by omega) (by rw [strL_size]; omega) (by rw [strL_size]; omega) (by rw [strL_size]; omega) (by omega) (by rw [strL_size]; omega) (by omega) (by rw [strL_size]; omega) (by rw [strL_size]; omega))
  have HSM1 := Lib.hid (fun (W : World) (hW : Ext w W) => by have h9 := HSM0.out W hW; simp only [strL_size] at h9; rw [hK] at h9; exact h9)
  have HRg0 := Lib.hid hrg
  have HRr0 := Lib.hid hrr
  have HAa0 := Lib.hid haa
  have HRs0 := Lib.hid hrs
  have HRc0 := Lib.hid hrc
  have HAd0 := Lib.hid had
  have HM := Lib.hid hm
  have HW := Lib.hid hw
  clear hrg hrr haa hrs hrc had hm hw hb13 hpa hpc hK HSM0
  go_enter Try.func4, Try.ntmps4
  go_wp2_with fail
  generalize hW0 : w.alloc _ = wS
  have HB := Lib.hid (show BoxF wS w.heap.size [.string (strL verg), .int .u32 thrg, .slice Ag ng.length cg, .int .u32 capsg, .int .u8 chg, .int .u16 stg, .string (strL plg), .int .u32 capsa, .int .u32 mosta, .int .u8 cha, .string (strL usera), .slice Ar respa.length cr, .string (strL dba), .string (strL pla), .slice Aa psa.length ca, .string (strL pls), .slice As ns.length cs, .string (strL userc), .slice Ac respc.length cc, .string (strL dbc), .int .u16 chc, .string (strL plc), .slice Ad psc.length cd, .int .u32 c] by rw [← hW0]; exact BoxF.new w _ _)
  have hx0 : Ext w wS := by rw [← hW0]; exact (Ext.refl w).alloc _
  clear hW0
  have HX0 := Lib.hid hx0
  have HRg := Lib.hid (HRg0.out.ext hx0)
  have HRr := Lib.hid (HRr0.out.ext hx0)
  have HAa := Lib.hid (Recs.ext HAa0.out hx0)
  have HRs := Lib.hid (HRs0.out.ext hx0)
  have HRc := Lib.hid (HRc0.out.ext hx0)
  have HAd := Lib.hid (Recs.ext HAd0.out hx0)
  have HSM := Lib.hid (fun (W : World) (hW : Ext wS W) => HSM1.out W (hx0.trans hW))
  clear hx0 HRg0 HRr0 HAa0 HRs0 HRc0 HAd0 HSM1
  go_upto_region 5 with (first
    | (go_at_call 14; refine (lives12_c _).mono ?_; rintro e wl ⟨rfl, hE⟩)
    | ((with_reducible show wpList _ _ _ (⟨some 35, _, _, _, _, _⟩ :: _) _ _); refine wpl_load_box rfl _ _ rfl _ rfl (HB.out.ext hE) Try.underlying49 rfl (by kernel_rfl) ?_)
    | (go_at_call 15; refine (HSM.out _ hE).mono ?_; rintro e ws9 ⟨rfl, hx9⟩; replace hE := hE.trans hx9; clear hx9)
    | fail)
  go_cut [7, 8] from 38 to 43 (fun b e wx => Ext wS wx ∧ e = .int .i64 (erB bg) ∧ Hid (bg = true → ∃ A cp, b = .slice A Xg.length cp ∧ Rd wx (.slice A Xg.length cp) Xg))
  case first =>
    rename_i J9 K9 hJ9 hK9
    have HJ9 := Lib.hid hJ9
    clear hJ9
    cases bg
    · have HOKg := Lib.hid (show ¬ GreOk ⟨verg, thrg, ng, capsg, chg, stg, plg⟩ from fun h9 => by have := HOKig.out.2 h9; cases this)
      go_wp2_with (first
        | ((with_reducible show wpList _ _ _ (⟨some 40, _, _, _, _, _⟩ :: _) _ _); refine wpl_load_p rfl _ _ rfl w.heap.size 0 rfl [.string (strL verg), .int .u32 thrg, .slice Ag ng.length cg, .int .u32 capsg, .int .u8 chg, .int .u16 stg, .string (strL plg)] _ ((HB.out.ext hE).box.part 7 (by rfl)) Try.underlying45 rfl (by kernel_rfl) ?_)
        | (go_at_call 16; refine (appendGreeting_z _ verg ng plg thrg capsg chg stg _ (HRg.out.ext hE) HW.out.1 HW.out.2.1 HW.out.2.2.1 HW.out.2.2.2.1 HOKg.out).mono ?_; rintro e w3g ⟨v3g, rfl, _, hx3g⟩; replace hE := hE.trans hx3g)
        | fail)
      have hJ9 := HJ9.out
      go_meet
      exact ⟨hE, rfl, Lib.hid (fun h9 => by cases h9)⟩
    · have HOKg := Lib.hid (HOKig.out.1 rfl)
      have H0qg := Lib.hid (H0g.out rfl)
      have H4qg := Lib.hid (H4g.out rfl)
      have H5qg := Lib.hid (H5g.out rfl)
      go_wp2_with (first
        | ((with_reducible show wpList _ _ _ (⟨some 40, _, _, _, _, _⟩ :: _) _ _); refine wpl_load_p rfl _ _ rfl w.heap.size 0 rfl [.string (strL verg), .int .u32 thrg, .slice Ag ng.length cg, .int .u32 capsg, .int .u8 chg, .int .u16 stg, .string (strL plg)] _ ((HB.out.ext hE).box.part 7 (by rfl)) Try.underlying45 rfl (by kernel_rfl) ?_)
        | (go_at_call 16; refine (appendGreeting_g _ verg ng plg thrg capsg chg stg _ (HRg.out.ext hE) HOKg.out.ver HOKg.out.pl HOKg.out.n20 HOKg.out.nonce HOKg.out.core HOKg.out.plF HOKg.out.thr HOKg.out.caps HOKg.out.ch HOKg.out.st HZ.out.2.1 HZ.out.1).mono ?_; rintro e w3g ⟨v3g, rfl, ho3g, hx3g⟩; replace hE := hE.trans hx3g)
        | fail)
      rw [← HXg.out] at ho3g
      have rbg := ho3g.rd
      obtain ⟨A3g, c3g, hv9, _⟩ := id rbg
      subst hv9
      have hJ9 := HJ9.out
      go_meet
      exact ⟨hE, rfl, Lib.hid (fun _ => ⟨_, _, rfl, rbg⟩)⟩
  case rest =>
    obtain ⟨hE1, rfl, HRBg⟩ := hcut
    try clear hE
    try clear c23
    rename World => wAg
    have HEA := Lib.hid hE1
    clear hE1
    go_upto_region 6 with fail
    go_cut [45] from 44 to 45 (fun t wx => t = .bool bg ∧ wx = wAg)
    case first =>
      rename_i J9 K9 hJ9 hK9
      have HJ9 := Lib.hid hJ9
      clear hJ9
      cases bg
      · go_wp2_with fail
        have hJ9 := HJ9.out
        go_meet
        exact ⟨rfl, rfl⟩
      · go_wp2_with fail
        have hJ9 := HJ9.out
        go_meet
        exact ⟨rfl, rfl⟩
    case rest =>
      obtain ⟨rfl, rfl⟩ := hcut
      try rename World => wAg
      go_upto_if 45 with fail
      go_cut [] from 46 to 87 (fun wx => Ext wS wx)
      case first =>
        rename_i J9 K9 hJ9 hK9
        have HJ9 := Lib.hid hJ9
        clear hJ9
        have hE := HEA.out
        cases bg
        · go_wp2_with fail
          have hJ9 := HJ9.out
          go_meet
          exact hE
        · obtain ⟨A3g, c3g, rfl, rbg⟩ := HRBg.out rfl
          have tokg : True := trivial
          have HOKg := Lib.hid (HOKig.out.1 rfl)
          have H0qg := Lib.hid (H0g.out rfl)
          have H4qg := Lib.hid (H4g.out rfl)
          have H5qg := Lib.hid (H5g.out rfl)
          go_wp2_with (first
            | (go_at_call 17; have _t := tokg; refine (readGreeting_s _ _ Xg verg ng plg thrg capsg chg stg 0 (rbg) H0qg.out).mono ?_; rintro e w4g ⟨A4g, k4g, c4g, rfl, r4g, hx4g⟩; replace hE := hE.trans hx4g; replace rbg := rbg.ext hx4g; clear tokg hx4g)
            | ((with_reducible show wpList _ _ _ (⟨some 9, _, _, _, _, _⟩ :: _) _ _); refine wpl_alloc rfl _ rfl [.string ⟨#[]⟩, .int .u32 0, .slice none 0 0, .int .u32 0, .int .u8 0, .int .u16 0, .string ⟨#[]⟩] (by kernel_rfl) ?_; intro w5g B5g hx5g)
            | ((with_reducible show wpList _ _ _ (⟨none, Op.store 45 _ _, _, _, _, _⟩ :: _) _ _); have _t := B5g; refine wpl_store_box rfl _ _ _ rfl _ [.string (strL verg), .int .u32 thrg, .slice A4g k4g c4g, .int .u32 capsg, .int .u8 chg, .int .u16 stg, .string (strL plg)] rfl rfl B5g rfl (by kernel_rfl) (by rfl) ?_; intro w6g B6g O6g; have e6g : Ext w4g w6g := hx5g.on O6g (Nat.le_refl _); replace hE := hE.trans e6g; clear B5g O6g hx5g; replace rbg := rbg.ext e6g; replace r4g := r4g.ext e6g; clear e6g)
            | (go_at_call 18; have _t := rbg; refine (pick_c _ cut Xg.length HP1g.out.1 HP1g.out.2).mono ?_; rintro e wx ⟨rfl, rfl⟩; rw [HKg.out])
            | ((with_reducible show wpList _ _ _ (⟨some 57, _, _, _, _, _⟩ :: _) _ _); refine wpl_cut_hi bt rbg (kg : Int) HP2g.out.1 HP2g.out.2 rfl _ _ _ rfl rfl rfl ?_; intro A7g m7g c7g r7g; rw [Int.toNat_natCast] at r7g)
            | (go_at_call 17; have _t := r7g; refine (readGreeting_s _ _ (Xg.take kg) [] [] [] 0 0 0 0 4 (r7g) H4qg.out).mono ?_; rintro e w8g ⟨A8g, k8g, c8g, rfl, r8g, hx8g⟩; replace hE := hE.trans hx8g; replace rbg := rbg.ext hx8g; replace B6g := B6g.ext hx8g; replace r4g := r4g.ext hx8g; clear r7g hx8g)
            | ((with_reducible show wpList _ _ _ (⟨some 11, _, _, _, _, _⟩ :: _) _ _); refine wpl_alloc rfl _ rfl [.string ⟨#[]⟩, .int .u32 0, .slice none 0 0, .int .u32 0, .int .u8 0, .int .u16 0, .string ⟨#[]⟩] (by kernel_rfl) ?_; intro w9g B9g hx9g)
            | ((with_reducible show wpList _ _ _ (⟨none, Op.store 45 _ _, _, _, _, _⟩ :: _) _ _); have _t := B9g; refine wpl_store_box rfl _ _ _ rfl _ [.string (strL []), .int .u32 0, .slice A8g k8g c8g, .int .u32 0, .int .u8 0, .int .u16 0, .string (strL [])] rfl rfl B9g rfl (by kernel_rfl) (by rfl) ?_; intro w10g B10g O10g; have e10g : Ext w8g w10g := hx9g.on O10g (Nat.le_refl _); replace hE := hE.trans e10g; clear B9g O10g hx9g; replace rbg := rbg.ext e10g; replace B6g := B6g.ext e10g; replace r4g := r4g.ext e10g; clear e10g B10g)
            | ((with_reducible show wpList _ _ _ (⟨some 64, _, _, _, _, _⟩ :: _) _ _); refine wpl_clone bt rbg rfl _ _ rfl rfl rfl (by have := HP3g.out; omega) ?_; intro v11g w11g ho11g hx11g)
            | ((with_reducible show wpList _ _ _ (⟨some 67, _, _, _, _, _⟩ :: _) _ _); refine wpl_append_one bt more ho11g HM.out.1 HM.out.2 rfl _ _ rfl rfl rfl (by have := HP3g.out; omega) (Ext.size hx11g) ?_; intro v12g w12g ho12g hb12g; have e12g : Ext _ w12g := Below.trans hx11g hb12g; replace hE := hE.trans e12g; replace rbg := rbg.ext e12g; replace B6g := B6g.ext e12g; replace r4g := r4g.ext e12g; clear e12g hb12g hx11g ho11g)
            | (go_at_call 17; have _t := ho12g; refine (readGreeting_s _ _ (Xg ++ [UInt8.ofNat more.toNat]) [] [] [] 0 0 0 0 5 (ho12g.rd) H5qg.out).mono ?_; rintro e w13g ⟨A13g, k13g, c13g, rfl, r13g, hx13g⟩; replace hE := hE.trans hx13g; replace rbg := rbg.ext hx13g; replace B6g := B6g.ext hx13g; replace r4g := r4g.ext hx13g; clear ho12g hx13g)
            | ((with_reducible show wpList _ _ _ (⟨some 13, _, _, _, _, _⟩ :: _) _ _); refine wpl_alloc rfl _ rfl [.string ⟨#[]⟩, .int .u32 0, .slice none 0 0, .int .u32 0, .int .u8 0, .int .u16 0, .string ⟨#[]⟩] (by kernel_rfl) ?_; intro w14g B14g hx14g)
            | ((with_reducible show wpList _ _ _ (⟨none, Op.store 45 _ _, _, _, _, _⟩ :: _) _ _); have _t := B14g; refine wpl_store_box rfl _ _ _ rfl _ [.string (strL []), .int .u32 0, .slice A13g k13g c13g, .int .u32 0, .int .u8 0, .int .u16 0, .string (strL [])] rfl rfl B14g rfl (by kernel_rfl) (by rfl) ?_; intro w15g B15g O15g; have e15g : Ext w13g w15g := hx14g.on O15g (Nat.le_refl _); replace hE := hE.trans e15g; clear B14g O15g hx14g; replace rbg := rbg.ext e15g; replace B6g := B6g.ext e15g; replace r4g := r4g.ext e15g; clear e15g B15g)
            | ((with_reducible show wpList _ _ _ (⟨some 71, _, _, _, _, _⟩ :: _) _ _); refine wpl_load_box rfl _ _ rfl _ rfl B6g Try.underlying45 rfl (by kernel_rfl) ?_)
            | ((with_reducible show wpList _ _ _ (⟨some 73, _, _, _, _, _⟩ :: _) _ _); refine wpl_load_p rfl _ _ rfl w.heap.size 0 rfl [.string (strL verg), .int .u32 thrg, .slice Ag ng.length cg, .int .u32 capsg, .int .u8 chg, .int .u16 stg, .string (strL plg)] _ ((HB.out.ext hE).box.part 7 (by rfl)) Try.underlying45 rfl (by kernel_rfl) ?_)
            | (go_at_call 19; refine (sameGreeting_c _ verg plg ng thrg capsg chg stg _ _ r4g (HRg.out.ext hE)).mono ?_; rintro e w16g ⟨rfl, hx16g⟩; replace hE := hE.trans hx16g; clear B6g rbg r4g hx16g)
            | fail)
          have hJ9 := HJ9.out
          go_meet
          exact hE
      case rest =>
        have hE := hcut
        clear hcut HRBg HEA
        rename World => w1
        go_upto_region 12 with fail
        go_cut [7, 8] from 88 to 93 (fun b e wx => Ext wS wx ∧ e = .int .i64 (erB ba) ∧ Hid (ba = true → ∃ A cp, b = .slice A Xa.length cp ∧ Rd wx (.slice A Xa.length cp) Xa))
        case first =>
          rename_i J9 K9 hJ9 hK9
          have HJ9 := Lib.hid hJ9
          clear hJ9
          cases ba
          · have HOKa := Lib.hid (show ¬ AnsOk ⟨capsa, mosta, cha, usera, respa, dba, pla, psa⟩ from fun h9 => by have := HOKia.out.2 h9; cases this)
            go_wp2_with (first
              | ((with_reducible show wpList _ _ _ (⟨some 90, _, _, _, _, _⟩ :: _) _ _); refine wpl_load_p rfl _ _ rfl w.heap.size 7 rfl [.int .u32 capsa, .int .u32 mosta, .int .u8 cha, .string (strL usera), .slice Ar respa.length cr, .string (strL dba), .string (strL pla), .slice Aa psa.length ca] _ ((HB.out.ext hE).box.part 8 (by rfl)) Try.underlying38 rfl (by kernel_rfl) ?_)
              | (go_at_call 13; refine (appendAnswer_z _ capsa mosta cha usera respa dba pla psa _ _ (HRr.out.ext hE) (Recs.ext HAa.out hE) HW.out.2.2.2.2.1 HW.out.2.2.2.2.2.1 HW.out.2.2.2.2.2.2.1 HOKa.out).mono ?_; rintro e w3a ⟨v3a, rfl, _, hx3a⟩; replace hE := hE.trans hx3a)
              | fail)
            have hJ9 := HJ9.out
            go_meet
            exact ⟨hE, rfl, Lib.hid (fun h9 => by cases h9)⟩
          · have HOKa := Lib.hid (HOKia.out.1 rfl)
            have H0qa := Lib.hid (H0a.out rfl)
            have H4qa := Lib.hid (H4a.out rfl)
            have H5qa := Lib.hid (H5a.out rfl)
            go_wp2_with (first
              | ((with_reducible show wpList _ _ _ (⟨some 90, _, _, _, _, _⟩ :: _) _ _); refine wpl_load_p rfl _ _ rfl w.heap.size 7 rfl [.int .u32 capsa, .int .u32 mosta, .int .u8 cha, .string (strL usera), .slice Ar respa.length cr, .string (strL dba), .string (strL pla), .slice Aa psa.length ca] _ ((HB.out.ext hE).box.part 8 (by rfl)) Try.underlying38 rfl (by kernel_rfl) ?_)
              | (go_at_call 13; refine (appendAnswer_g _ capsa mosta cha usera respa dba pla psa _ _ (HRr.out.ext hE) (Recs.ext HAa.out hE) HOKa.out HZ.out.2.2.1 HZ.out.2.2.2.1 HZ.out.2.2.2.2.1 HZ.out.2.2.2.2.2.1).mono ?_; rintro e w3a ⟨v3a, rfl, ho3a, hx3a⟩; replace hE := hE.trans hx3a)
              | fail)
            rw [← HXa.out] at ho3a
            have rba := ho3a.rd
            obtain ⟨A3a, c3a, hv9, _⟩ := id rba
            subst hv9
            have hJ9 := HJ9.out
            go_meet
            exact ⟨hE, rfl, Lib.hid (fun _ => ⟨_, _, rfl, rba⟩)⟩
        case rest =>
          obtain ⟨hE1, rfl, HRBa⟩ := hcut
          try clear hE
          try clear c23
          rename World => wAa
          have HEA := Lib.hid hE1
          clear hE1
          go_upto_region 13 with fail
          go_cut [95] from 94 to 95 (fun t wx => t = .bool ba ∧ wx = wAa)
          case first =>
            rename_i J9 K9 hJ9 hK9
            have HJ9 := Lib.hid hJ9
            clear hJ9
            cases ba
            · go_wp2_with fail
              have hJ9 := HJ9.out
              go_meet
              exact ⟨rfl, rfl⟩
            · go_wp2_with fail
              have hJ9 := HJ9.out
              go_meet
              exact ⟨rfl, rfl⟩
          case rest =>
            obtain ⟨rfl, rfl⟩ := hcut
            try rename World => wAa
            go_upto_if 95 with fail
            go_cut [] from 96 to 137 (fun wx => Ext wS wx)
            case first =>
              rename_i J9 K9 hJ9 hK9
              have HJ9 := Lib.hid hJ9
              clear hJ9
              have hE := HEA.out
              cases ba
              · go_wp2_with fail
                have hJ9 := HJ9.out
                go_meet
                exact hE
              · obtain ⟨A3a, c3a, rfl, rba⟩ := HRBa.out rfl
                have toka : True := trivial
                have HOKa := Lib.hid (HOKia.out.1 rfl)
                have H0qa := Lib.hid (H0a.out rfl)
                have H4qa := Lib.hid (H4a.out rfl)
                have H5qa := Lib.hid (H5a.out rfl)
                go_wp2_with (first
                  | (go_at_call 12; have _t := toka; refine (readAnswer_s _ _ Xa usera respa dba pla capsa mosta cha 0 psa (rba) HP3a.out H0qa.out).mono ?_; rintro e w4a ⟨A4a, k4a, c4a, B4a, m4a, d4a, rfl, r4a, a4a, hx4a⟩; replace hE := hE.trans hx4a; replace rba := rba.ext hx4a; clear toka hx4a)
                  | ((with_reducible show wpList _ _ _ (⟨some 15, _, _, _, _, _⟩ :: _) _ _); refine wpl_alloc rfl _ rfl [.int .u32 0, .int .u32 0, .int .u8 0, .string ⟨#[]⟩, .slice none 0 0, .string ⟨#[]⟩, .string ⟨#[]⟩, .slice none 0 0] (by kernel_rfl) ?_; intro w5a B5a hx5a)
                  | ((with_reducible show wpList _ _ _ (⟨none, Op.store 38 _ _, _, _, _, _⟩ :: _) _ _); have _t := B5a; refine wpl_store_box rfl _ _ _ rfl _ [.int .u32 capsa, .int .u32 mosta, .int .u8 cha, .string (strL usera), .slice A4a k4a c4a, .string (strL dba), .string (strL pla), .slice B4a m4a d4a] rfl rfl B5a rfl (by kernel_rfl) (by rfl) ?_; intro w6a B6a O6a; have e6a : Ext w4a w6a := hx5a.on O6a (Nat.le_refl _); replace hE := hE.trans e6a; clear B5a O6a hx5a; replace rba := rba.ext e6a; replace r4a := r4a.ext e6a; replace a4a := Recs.ext a4a e6a; clear e6a)
                  | (go_at_call 18; have _t := rba; refine (pick_c _ cut Xa.length HP1a.out.1 HP1a.out.2).mono ?_; rintro e wx ⟨rfl, rfl⟩; rw [HKa.out])
                  | ((with_reducible show wpList _ _ _ (⟨some 107, _, _, _, _, _⟩ :: _) _ _); refine wpl_cut_hi bt rba (ka : Int) HP2a.out.1 HP2a.out.2 rfl _ _ _ rfl rfl rfl ?_; intro A7a m7a c7a r7a; rw [Int.toNat_natCast] at r7a)
                  | (go_at_call 12; have _t := r7a; refine (readAnswer_s _ _ (Xa.take ka) [] [] [] [] 0 0 0 4 [] (r7a) HP4a.out H4qa.out).mono ?_; rintro e w8a ⟨A8a, k8a, c8a, B8a, m8a, d8a, rfl, r8a, a8a, hx8a⟩; replace hE := hE.trans hx8a; replace rba := rba.ext hx8a; replace B6a := B6a.ext hx8a; replace r4a := r4a.ext hx8a; replace a4a := Recs.ext a4a hx8a; clear r7a hx8a)
                  | ((with_reducible show wpList _ _ _ (⟨some 17, _, _, _, _, _⟩ :: _) _ _); refine wpl_alloc rfl _ rfl [.int .u32 0, .int .u32 0, .int .u8 0, .string ⟨#[]⟩, .slice none 0 0, .string ⟨#[]⟩, .string ⟨#[]⟩, .slice none 0 0] (by kernel_rfl) ?_; intro w9a B9a hx9a)
                  | ((with_reducible show wpList _ _ _ (⟨none, Op.store 38 _ _, _, _, _, _⟩ :: _) _ _); have _t := B9a; refine wpl_store_box rfl _ _ _ rfl _ [.int .u32 0, .int .u32 0, .int .u8 0, .string (strL []), .slice A8a k8a c8a, .string (strL []), .string (strL []), .slice B8a m8a d8a] rfl rfl B9a rfl (by kernel_rfl) (by rfl) ?_; intro w10a B10a O10a; have e10a : Ext w8a w10a := hx9a.on O10a (Nat.le_refl _); replace hE := hE.trans e10a; clear B9a O10a hx9a; replace rba := rba.ext e10a; replace B6a := B6a.ext e10a; replace r4a := r4a.ext e10a; replace a4a := Recs.ext a4a e10a; clear e10a B10a)
                  | ((with_reducible show wpList _ _ _ (⟨some 114, _, _, _, _, _⟩ :: _) _ _); refine wpl_clone bt rba rfl _ _ rfl rfl rfl (by have := HP3a.out; omega) ?_; intro v11a w11a ho11a hx11a)
                  | ((with_reducible show wpList _ _ _ (⟨some 117, _, _, _, _, _⟩ :: _) _ _); refine wpl_append_one bt more ho11a HM.out.1 HM.out.2 rfl _ _ rfl rfl rfl (by have := HP3a.out; omega) (Ext.size hx11a) ?_; intro v12a w12a ho12a hb12a; have e12a : Ext _ w12a := Below.trans hx11a hb12a; replace hE := hE.trans e12a; replace rba := rba.ext e12a; replace B6a := B6a.ext e12a; replace r4a := r4a.ext e12a; replace a4a := Recs.ext a4a e12a; clear e12a hb12a hx11a ho11a)
                  | (go_at_call 12; have _t := ho12a; refine (readAnswer_s _ _ (Xa ++ [UInt8.ofNat more.toNat]) [] [] [] [] 0 0 0 5 [] (ho12a.rd) HP5a.out H5qa.out).mono ?_; rintro e w13a ⟨A13a, k13a, c13a, B13a, m13a, d13a, rfl, r13a, a13a, hx13a⟩; replace hE := hE.trans hx13a; replace rba := rba.ext hx13a; replace B6a := B6a.ext hx13a; replace r4a := r4a.ext hx13a; replace a4a := Recs.ext a4a hx13a; clear ho12a hx13a)
                  | ((with_reducible show wpList _ _ _ (⟨some 19, _, _, _, _, _⟩ :: _) _ _); refine wpl_alloc rfl _ rfl [.int .u32 0, .int .u32 0, .int .u8 0, .string ⟨#[]⟩, .slice none 0 0, .string ⟨#[]⟩, .string ⟨#[]⟩, .slice none 0 0] (by kernel_rfl) ?_; intro w14a B14a hx14a)
                  | ((with_reducible show wpList _ _ _ (⟨none, Op.store 38 _ _, _, _, _, _⟩ :: _) _ _); have _t := B14a; refine wpl_store_box rfl _ _ _ rfl _ [.int .u32 0, .int .u32 0, .int .u8 0, .string (strL []), .slice A13a k13a c13a, .string (strL []), .string (strL []), .slice B13a m13a d13a] rfl rfl B14a rfl (by kernel_rfl) (by rfl) ?_; intro w15a B15a O15a; have e15a : Ext w13a w15a := hx14a.on O15a (Nat.le_refl _); replace hE := hE.trans e15a; clear B14a O15a hx14a; replace rba := rba.ext e15a; replace B6a := B6a.ext e15a; replace r4a := r4a.ext e15a; replace a4a := Recs.ext a4a e15a; clear e15a B15a)
                  | ((with_reducible show wpList _ _ _ (⟨some 121, _, _, _, _, _⟩ :: _) _ _); refine wpl_load_box rfl _ _ rfl _ rfl B6a Try.underlying38 rfl (by kernel_rfl) ?_)
                  | ((with_reducible show wpList _ _ _ (⟨some 123, _, _, _, _, _⟩ :: _) _ _); refine wpl_load_p rfl _ _ rfl w.heap.size 7 rfl [.int .u32 capsa, .int .u32 mosta, .int .u8 cha, .string (strL usera), .slice Ar respa.length cr, .string (strL dba), .string (strL pla), .slice Aa psa.length ca] _ ((HB.out.ext hE).box.part 8 (by rfl)) Try.underlying38 rfl (by kernel_rfl) ?_)
                  | (go_at_call 20; refine (sameAnswer_c _ capsa mosta cha usera respa dba pla psa _ _ _ _ r4a a4a (HRr.out.ext hE) (Recs.ext HAa.out hE)).mono ?_; rintro e w16a ⟨rfl, hx16a⟩; replace hE := hE.trans hx16a; clear B6a rba r4a hx16a a4a)
                  | fail)
                have hJ9 := HJ9.out
                go_meet
                exact hE
            case rest =>
              have hE := hcut
              clear hcut HRBa HEA
              rename World => w2
              go_upto_region 19 with fail
              go_cut [7, 8] from 138 to 143 (fun b e wx => Ext wS wx ∧ e = .int .i64 (erB bs) ∧ Hid (bs = true → ∃ A cp, b = .slice A Xs.length cp ∧ Rd wx (.slice A Xs.length cp) Xs))
              case first =>
                rename_i J9 K9 hJ9 hK9
                have HJ9 := Lib.hid hJ9
                clear hJ9
                cases bs
                · have HOKs := Lib.hid (show ¬ switchOk (pls, ns) from fun h9 => by have := HOKis.out.2 h9; cases this)
                  go_wp2_with (first
                    | ((with_reducible show wpList _ _ _ (⟨some 140, _, _, _, _, _⟩ :: _) _ _); refine wpl_load_p rfl _ _ rfl w.heap.size 15 rfl [.string (strL pls), .slice As ns.length cs] _ ((HB.out.ext hE).box.part 2 (by rfl)) Try.underlying28 rfl (by kernel_rfl) ?_)
                    | (go_at_call 6; refine (appendSwitch_z _ pls ns _ (HRs.out.ext hE) HOKs.out).mono ?_; rintro e w3s ⟨v3s, rfl, _, hx3s⟩; replace hE := hE.trans hx3s)
                    | fail)
                  have hJ9 := HJ9.out
                  go_meet
                  exact ⟨hE, rfl, Lib.hid (fun h9 => by cases h9)⟩
                · have HOKs := Lib.hid (HOKis.out.1 rfl)
                  have H0qs := Lib.hid (H0s.out rfl)
                  have H4qs := Lib.hid (H4s.out rfl)
                  have H5qs := Lib.hid (H5s.out rfl)
                  go_wp2_with (first
                    | ((with_reducible show wpList _ _ _ (⟨some 140, _, _, _, _, _⟩ :: _) _ _); refine wpl_load_p rfl _ _ rfl w.heap.size 15 rfl [.string (strL pls), .slice As ns.length cs] _ ((HB.out.ext hE).box.part 2 (by rfl)) Try.underlying28 rfl (by kernel_rfl) ?_)
                    | (go_at_call 6; refine (appendSwitch_g _ pls ns _ (HRs.out.ext hE) HOKs.out HZ.out.2.2.2.2.2.2.1).mono ?_; rintro e w3s ⟨v3s, rfl, ho3s, hx3s⟩; replace hE := hE.trans hx3s)
                    | fail)
                  rw [← HXs.out] at ho3s
                  have rbs := ho3s.rd
                  obtain ⟨A3s, c3s, hv9, _⟩ := id rbs
                  subst hv9
                  have hJ9 := HJ9.out
                  go_meet
                  exact ⟨hE, rfl, Lib.hid (fun _ => ⟨_, _, rfl, rbs⟩)⟩
              case rest =>
                obtain ⟨hE1, rfl, HRBs⟩ := hcut
                try clear hE
                try clear c23
                rename World => wAs
                have HEA := Lib.hid hE1
                clear hE1
                go_upto_region 20 with fail
                go_cut [145] from 144 to 145 (fun t wx => t = .bool bs ∧ wx = wAs)
                case first =>
                  rename_i J9 K9 hJ9 hK9
                  have HJ9 := Lib.hid hJ9
                  clear hJ9
                  cases bs
                  · go_wp2_with fail
                    have hJ9 := HJ9.out
                    go_meet
                    exact ⟨rfl, rfl⟩
                  · go_wp2_with fail
                    have hJ9 := HJ9.out
                    go_meet
                    exact ⟨rfl, rfl⟩
                case rest =>
                  obtain ⟨rfl, rfl⟩ := hcut
                  try rename World => wAs
                  go_upto_if 145 with fail
                  go_cut [] from 146 to 187 (fun wx => Ext wS wx)
                  case first =>
                    rename_i J9 K9 hJ9 hK9
                    have HJ9 := Lib.hid hJ9
                    clear hJ9
                    have hE := HEA.out
                    cases bs
                    · go_wp2_with fail
                      have hJ9 := HJ9.out
                      go_meet
                      exact hE
                    · obtain ⟨A3s, c3s, rfl, rbs⟩ := HRBs.out rfl
                      have toks : True := trivial
                      have HOKs := Lib.hid (HOKis.out.1 rfl)
                      have H0qs := Lib.hid (H0s.out rfl)
                      have H4qs := Lib.hid (H4s.out rfl)
                      have H5qs := Lib.hid (H5s.out rfl)
                      go_wp2_with (first
                        | (go_at_call 8; have _t := toks; refine (readSwitch_s _ _ Xs pls ns 0 (rbs) H0qs.out).mono ?_; rintro e w4s ⟨A4s, k4s, c4s, rfl, r4s, hx4s⟩; replace hE := hE.trans hx4s; replace rbs := rbs.ext hx4s; clear toks hx4s)
                        | ((with_reducible show wpList _ _ _ (⟨some 21, _, _, _, _, _⟩ :: _) _ _); refine wpl_alloc rfl _ rfl [.string ⟨#[]⟩, .slice none 0 0] (by kernel_rfl) ?_; intro w5s B5s hx5s)
                        | ((with_reducible show wpList _ _ _ (⟨none, Op.store 28 _ _, _, _, _, _⟩ :: _) _ _); have _t := B5s; refine wpl_store_box rfl _ _ _ rfl _ [.string (strL pls), .slice A4s k4s c4s] rfl rfl B5s rfl (by kernel_rfl) (by rfl) ?_; intro w6s B6s O6s; have e6s : Ext w4s w6s := hx5s.on O6s (Nat.le_refl _); replace hE := hE.trans e6s; clear B5s O6s hx5s; replace rbs := rbs.ext e6s; replace r4s := r4s.ext e6s; clear e6s)
                        | (go_at_call 18; have _t := rbs; refine (pick_c _ cut Xs.length HP1s.out.1 HP1s.out.2).mono ?_; rintro e wx ⟨rfl, rfl⟩; rw [HKs.out])
                        | ((with_reducible show wpList _ _ _ (⟨some 157, _, _, _, _, _⟩ :: _) _ _); refine wpl_cut_hi bt rbs (ks : Int) HP2s.out.1 HP2s.out.2 rfl _ _ _ rfl rfl rfl ?_; intro A7s m7s c7s r7s; rw [Int.toNat_natCast] at r7s)
                        | (go_at_call 8; have _t := r7s; refine (readSwitch_s _ _ (Xs.take ks) [] [] 4 (r7s) H4qs.out).mono ?_; rintro e w8s ⟨A8s, k8s, c8s, rfl, r8s, hx8s⟩; replace hE := hE.trans hx8s; replace rbs := rbs.ext hx8s; replace B6s := B6s.ext hx8s; replace r4s := r4s.ext hx8s; clear r7s hx8s)
                        | ((with_reducible show wpList _ _ _ (⟨some 23, _, _, _, _, _⟩ :: _) _ _); refine wpl_alloc rfl _ rfl [.string ⟨#[]⟩, .slice none 0 0] (by kernel_rfl) ?_; intro w9s B9s hx9s)
                        | ((with_reducible show wpList _ _ _ (⟨none, Op.store 28 _ _, _, _, _, _⟩ :: _) _ _); have _t := B9s; refine wpl_store_box rfl _ _ _ rfl _ [.string (strL []), .slice A8s k8s c8s] rfl rfl B9s rfl (by kernel_rfl) (by rfl) ?_; intro w10s B10s O10s; have e10s : Ext w8s w10s := hx9s.on O10s (Nat.le_refl _); replace hE := hE.trans e10s; clear B9s O10s hx9s; replace rbs := rbs.ext e10s; replace B6s := B6s.ext e10s; replace r4s := r4s.ext e10s; clear e10s B10s)
                        | ((with_reducible show wpList _ _ _ (⟨some 164, _, _, _, _, _⟩ :: _) _ _); refine wpl_clone bt rbs rfl _ _ rfl rfl rfl (by have := HP3s.out; omega) ?_; intro v11s w11s ho11s hx11s)
                        | ((with_reducible show wpList _ _ _ (⟨some 167, _, _, _, _, _⟩ :: _) _ _); refine wpl_append_one bt more ho11s HM.out.1 HM.out.2 rfl _ _ rfl rfl rfl (by have := HP3s.out; omega) (Ext.size hx11s) ?_; intro v12s w12s ho12s hb12s; have e12s : Ext _ w12s := Below.trans hx11s hb12s; replace hE := hE.trans e12s; replace rbs := rbs.ext e12s; replace B6s := B6s.ext e12s; replace r4s := r4s.ext e12s; clear e12s hb12s hx11s ho11s)
                        | (go_at_call 8; have _t := ho12s; refine (readSwitch_s _ _ (Xs ++ [UInt8.ofNat more.toNat]) [] [] 5 (ho12s.rd) H5qs.out).mono ?_; rintro e w13s ⟨A13s, k13s, c13s, rfl, r13s, hx13s⟩; replace hE := hE.trans hx13s; replace rbs := rbs.ext hx13s; replace B6s := B6s.ext hx13s; replace r4s := r4s.ext hx13s; clear ho12s hx13s)
                        | ((with_reducible show wpList _ _ _ (⟨some 25, _, _, _, _, _⟩ :: _) _ _); refine wpl_alloc rfl _ rfl [.string ⟨#[]⟩, .slice none 0 0] (by kernel_rfl) ?_; intro w14s B14s hx14s)
                        | ((with_reducible show wpList _ _ _ (⟨none, Op.store 28 _ _, _, _, _, _⟩ :: _) _ _); have _t := B14s; refine wpl_store_box rfl _ _ _ rfl _ [.string (strL []), .slice A13s k13s c13s] rfl rfl B14s rfl (by kernel_rfl) (by rfl) ?_; intro w15s B15s O15s; have e15s : Ext w13s w15s := hx14s.on O15s (Nat.le_refl _); replace hE := hE.trans e15s; clear B14s O15s hx14s; replace rbs := rbs.ext e15s; replace B6s := B6s.ext e15s; replace r4s := r4s.ext e15s; clear e15s B15s)
                        | ((with_reducible show wpList _ _ _ (⟨some 171, _, _, _, _, _⟩ :: _) _ _); refine wpl_load_box rfl _ _ rfl _ rfl B6s Try.underlying28 rfl (by kernel_rfl) ?_)
                        | ((with_reducible show wpList _ _ _ (⟨some 173, _, _, _, _, _⟩ :: _) _ _); refine wpl_load_p rfl _ _ rfl w.heap.size 15 rfl [.string (strL pls), .slice As ns.length cs] _ ((HB.out.ext hE).box.part 2 (by rfl)) Try.underlying28 rfl (by kernel_rfl) ?_)
                        | (go_at_call 21; refine (sameSwitch_c _ pls ns _ _ r4s (HRs.out.ext hE)).mono ?_; rintro e w16s ⟨rfl, hx16s⟩; replace hE := hE.trans hx16s; clear B6s rbs r4s hx16s)
                        | fail)
                      have hJ9 := HJ9.out
                      go_meet
                      exact hE
                  case rest =>
                    have hE := hcut
                    clear hcut HRBs HEA
                    rename World => w3
                    go_upto_region 26 with fail
                    have c23 := (HB.out.ext hE).at (j := 23) rfl
                    go_cut [7, 8] from 188 to 195 (fun b e wx => Ext wS wx ∧ e = .int .i64 (erB bc) ∧ Hid (bc = true → ∃ A cp, b = .slice A Xc.length cp ∧ Rd wx (.slice A Xc.length cp) Xc))
                    case first =>
                      rename_i J9 K9 hJ9 hK9
                      have HJ9 := Lib.hid hJ9
                      clear hJ9
                      cases bc
                      · have HOKc := Lib.hid (show ¬ ChgOk c ⟨userc, respc, dbc, chc, plc, psc⟩ from fun h9 => by have := HOKic.out.2 h9; cases this)
                        go_wp2_with (first
                          | ((with_reducible show wpList _ _ _ (⟨some 192, _, _, _, _, _⟩ :: _) _ _); refine wpl_load_p rfl _ _ rfl w.heap.size 17 rfl [.string (strL userc), .slice Ac respc.length cc, .string (strL dbc), .int .u16 chc, .string (strL plc), .slice Ad psc.length cd] _ ((HB.out.ext hE).box.part 6 (by rfl)) Try.underlying47 rfl (by kernel_rfl) ?_)
                          | (go_at_call 22; refine (appendChange_z _ c userc respc dbc plc chc psc _ _ (HRc.out.ext hE) (Recs.ext HAd.out hE) HW.out.2.2.2.2.2.2.2.1 HOKc.out).mono ?_; rintro e w3c ⟨v3c, rfl, _, hx3c⟩; replace hE := hE.trans hx3c; clear c23; have c23 := (HB.out.ext hE).at (j := 23) rfl)
                          | fail)
                        have hJ9 := HJ9.out
                        go_meet
                        exact ⟨hE, rfl, Lib.hid (fun h9 => by cases h9)⟩
                      · have HOKc := Lib.hid (HOKic.out.1 rfl)
                        have H0qc := Lib.hid (H0c.out rfl)
                        have H4qc := Lib.hid (H4c.out rfl)
                        have H5qc := Lib.hid (H5c.out rfl)
                        go_wp2_with (first
                          | ((with_reducible show wpList _ _ _ (⟨some 192, _, _, _, _, _⟩ :: _) _ _); refine wpl_load_p rfl _ _ rfl w.heap.size 17 rfl [.string (strL userc), .slice Ac respc.length cc, .string (strL dbc), .int .u16 chc, .string (strL plc), .slice Ad psc.length cd] _ ((HB.out.ext hE).box.part 6 (by rfl)) Try.underlying47 rfl (by kernel_rfl) ?_)
                          | (go_at_call 22; refine (appendChange_g _ _ userc respc dbc plc chc psc _ _ (HRc.out.ext hE) (Recs.ext HAd.out hE) HOKc.out HZ.out.2.2.2.2.2.2.2.1 HZ.out.2.2.2.2.2.2.2.2.1 HZ.out.2.2.2.2.2.2.2.2.2.1 HZ.out.2.2.2.2.2.2.2.2.2.2).mono ?_; rintro e w3c ⟨v3c, rfl, ho3c, hx3c⟩; replace hE := hE.trans hx3c)
                          | fail)
                        rw [← HXc.out] at ho3c
                        have rbc := ho3c.rd
                        obtain ⟨A3c, c3c, hv9, _⟩ := id rbc
                        subst hv9
                        have hJ9 := HJ9.out
                        go_meet
                        exact ⟨hE, rfl, Lib.hid (fun _ => ⟨_, _, rfl, rbc⟩)⟩
                    case rest =>
                      obtain ⟨hE1, rfl, HRBc⟩ := hcut
                      try clear hE
                      try clear c23
                      rename World => wAc
                      have HEA := Lib.hid hE1
                      clear hE1
                      go_upto_region 27 with fail
                      go_cut [197] from 196 to 197 (fun t wx => t = .bool (!bc) ∧ wx = wAc)
                      case first =>
                        rename_i J9 K9 hJ9 hK9
                        have HJ9 := Lib.hid hJ9
                        clear hJ9
                        cases bc
                        · go_wp2_with fail
                          have hJ9 := HJ9.out
                          go_meet
                          exact ⟨rfl, rfl⟩
                        · go_wp2_with fail
                          have hJ9 := HJ9.out
                          go_meet
                          exact ⟨rfl, rfl⟩
                      case rest =>
                        obtain ⟨rfl, rfl⟩ := hcut
                        try rename World => wAc
                        cases bc
                        · go_wp2_with fail
                          go_ret
                          exact ⟨rfl, HX0.out.trans HEA.out⟩
                        obtain ⟨A3c, c3c, rfl, rbc⟩ := HRBc.out rfl
                        have HOKc := Lib.hid (HOKic.out.1 rfl)
                        have H0qc := Lib.hid (H0c.out rfl)
                        have H4qc := Lib.hid (H4c.out rfl)
                        have H5qc := Lib.hid (H5c.out rfl)
                        have HRB := Lib.hid rbc
                        clear rbc
                        have c23 := (HB.out.ext HEA.out).at (j := 23) rfl
                        go_upto_region 29 with fail
                        go_cut [27, 28] from 33 to 204 (fun p e wx => e = .int .i64 0 ∧ ∃ g A k cp B m d, p = .pointer (some ⟨g, 0, none⟩) ∧ BoxF wx g [.string (strL userc), .slice A k cp, .string (strL dbc), .int .u16 chc, .string (strL plc), .slice B m d] ∧ Rd wx (.slice A k cp) respc ∧ Attrs wx (.slice B m d) psc ∧ Ext wAc wx)
                        case first =>
                          rename_i J9 K9 hJ9 hK9
                          have HJ9 := Lib.hid hJ9
                          clear hJ9
                          go_wp2_with (first
                            | (go_at_call 23; refine (readChange_s _ _ _ Xc userc respc dbc plc chc 0 psc (HRB.out) HP3c.out H0qc.out).mono ?_; rintro e w4c ⟨A4c, k4c, c4c, B4c, m4c, d4c, rfl, r4c, a4c, hx4c⟩; clear c23)
                            | ((with_reducible show wpList _ _ _ (⟨some 27, _, _, _, _, _⟩ :: _) _ _); refine wpl_alloc rfl _ rfl [.string ⟨#[]⟩, .slice none 0 0, .string ⟨#[]⟩, .int .u16 0, .string ⟨#[]⟩, .slice none 0 0] (by kernel_rfl) ?_; intro w5c B5c hx5c)
                            | ((with_reducible show wpList _ _ _ (⟨none, Op.store 47 _ _, _, _, _, _⟩ :: _) _ _); have _t := B5c; refine wpl_store_box rfl _ _ _ rfl _ [.string (strL userc), .slice A4c k4c c4c, .string (strL dbc), .int .u16 chc, .string (strL plc), .slice B4c m4c d4c] rfl rfl B5c rfl (by kernel_rfl) (by rfl) ?_; intro w6c B6c O6c; have e6c : Ext w4c w6c := hx5c.on O6c (Nat.le_refl _); clear B5c O6c hx5c; replace r4c := r4c.ext e6c; replace a4c := Recs.ext a4c e6c)
                            | fail)
                          have hJ9 := HJ9.out
                          go_meet
                          exact ⟨rfl, _, _, _, _, _, _, _, rfl, B6c, r4c, a4c, hx4c.trans e6c⟩
                        case rest =>
                          obtain ⟨rfl, gZ, A4c, k4c, c4c, B4c, m4c, d4c, rfl, B6c, r4c, a4c, hx6c⟩ := hcut
                          rename World => w6c
                          have hE6 := HEA.out.trans hx6c
                          have rbc := HRB.out.ext hx6c
                          have HB6 := Lib.hid B6c
                          have HR4 := Lib.hid r4c
                          have HA4 := Lib.hid a4c
                          have HE6 := Lib.hid hE6
                          have HRB6 := Lib.hid rbc
                          have hcap : Xc.length ≤ c3c := by obtain ⟨_, _, hv, hle, _⟩ := id rbc; have := (Value.slice.inj hv).2.2; omega
                          have HR7 := Lib.hid (show Rd w6c (.slice A3c kc c3c) (Xc.take kc) from rd_take8 rbc kc HP6c.out)
                          have hkc1 : (0 : Int) ≤ (kc : Int) ∧ (kc : Int) ≤ (c3c : Int) := by have := HP6c.out; omega
                          have c23x := (HB.out.ext hE6).at (j := 23) rfl
                          clear hE6 rbc B6c r4c a4c hcap hx6c HRB HEA c23
                          have c23 := c23x
                          clear c23x
                          go_upto_region 30 with fail
                          go_cut [29, 30] from 205 to 216 (fun p e wx => e = .int .i64 4 ∧ Ext w6c wx)
                          case first =>
                            rename_i J9 K9 hJ9 hK9
                            have HJ9 := Lib.hid hJ9
                            clear hJ9
                            repeat (rename (∀ (a : Act) (w : World), Code.wp _ _ _ a w → _) => hkk; clear hkk)
                            (try clear HZ)
                            (try clear HM)
                            (try clear HW)
                            (try clear HX0)
                            (try clear HB)
                            (try clear HRg)
                            (try clear HRr)
                            (try clear HAa)
                            (try clear HRs)
                            (try clear HRc)
                            (try clear HAd)
                            (try clear HSM)
                            (try clear HB6)
                            (try clear HR4)
                            (try clear HA4)
                            (try clear HE6)
                            (try clear HRB6)
                            (try clear HEA)
                            (try clear hE)
                            (try clear HOKg)
                            (try clear HOKig)
                            (try clear HRBg)
                            (try clear H0g)
                            (try clear H4g)
                            (try clear H5g)
                            (try clear H0qg)
                            (try clear H4qg)
                            (try clear H5qg)
                            (try clear HP1g)
                            (try clear HP2g)
                            (try clear HP3g)
                            (try clear HP4g)
                            (try clear HP5g)
                            (try clear HP6g)
                            (try clear HXg)
                            (try clear HKg)
                            (try clear HOKa)
                            (try clear HOKia)
                            (try clear HRBa)
                            (try clear H0a)
                            (try clear H4a)
                            (try clear H5a)
                            (try clear H0qa)
                            (try clear H4qa)
                            (try clear H5qa)
                            (try clear HP1a)
                            (try clear HP2a)
                            (try clear HP3a)
                            (try clear HP4a)
                            (try clear HP5a)
                            (try clear HP6a)
                            (try clear HXa)
                            (try clear HKa)
                            (try clear HOKs)
                            (try clear HOKis)
                            (try clear HRBs)
                            (try clear H0s)
                            (try clear H4s)
                            (try clear H5s)
                            (try clear H0qs)
                            (try clear H4qs)
                            (try clear H5qs)
                            (try clear HP1s)
                            (try clear HP2s)
                            (try clear HP3s)
                            (try clear HP4s)
                            (try clear HP5s)
                            (try clear HP6s)
                            (try clear HXs)
                            (try clear HKs)
                            (try clear HOKc)
                            (try clear HOKic)
                            (try clear HRBc)
                            (try clear H0c)
                            (try clear H4c)
                            (try clear H5c)
                            (try clear H0qc)
                            (try clear H5qc)
                            (try clear HP2c)
                            (try clear HP3c)
                            (try clear HP5c)
                            (try clear HP6c)
                            (try clear HXc)
                            have hY : Ext w6c w6c := Ext.refl _
                            (try dsimp only [Act.put])
                            go_region_held3 (fun W' => W'.cell? ⟨w.heap.size, 23, none⟩ = some (.int .u32 c) ∧ Ext w6c W')
                              ((refine (fun h => ⟨Ext.cell h c23, h⟩) ?_; repeat' (first | with_reducible exact hY | with_reducible exact (Ext.refl _) | (with_reducible refine Ext.drew ?_) | (with_reducible refine Ext.alloc ?_ _) | (with_reducible refine Ext.setCell ?_ ?_ _) | with_reducible exact Nat.le_refl _ | with_reducible exact Ext.size hY | (dsimp only; omega) | (simp; omega))))
                              (first
                              | (go_at_call 18; go_must (refine (pick_c _ cut Xc.length HP1c.out.1 HP1c.out.2).mono ?_; rintro e wx ⟨rfl, rfl⟩; rw [HKc.out]))
                              | (go_at_call 23; go_must (refine (readChange_s _ _ _ (Xc.take kc) [] [] [] [] 0 4 [] (HR7.out.ext (by repeat' (first | with_reducible exact (Ext.refl _) | (with_reducible refine Ext.drew ?_) | (with_reducible refine Ext.alloc ?_ _)))) HP4c.out H4qc.out).mono ?_; rintro e w8c ⟨A8c, k8c, c8c, B8c, m8c, d8c, rfl, _, _, hx8c⟩; (try (have bz : BoxF w8c w6c.heap.size [.string ⟨#[]⟩, .slice none 0 0, .string ⟨#[]⟩, .int .u16 0, .string ⟨#[]⟩, .slice none 0 0] := (by with_reducible exact ((BoxF.new w6c [.string ⟨#[]⟩, .slice none 0 0, .string ⟨#[]⟩, .int .u16 0, .string ⟨#[]⟩, .slice none 0 0] 47).ext (Ext.refl _).drew).ext hx8c); have z0 := bz.at (j := 0) rfl; have f0 := bz.free 0 (by simp); have z1 := bz.at (j := 1) rfl; have f1 := bz.free 1 (by simp); have z2 := bz.at (j := 2) rfl; have f2 := bz.free 2 (by simp); have z3 := bz.at (j := 3) rfl; have f3 := bz.free 3 (by simp); have z4 := bz.at (j := 4) rfl; have f4 := bz.free 4 (by simp); have z5 := bz.at (j := 5) rfl; have f5 := bz.free 5 (by simp); clear bz)); replace hY : Ext w6c w8c := Ext.trans (by repeat' (first | with_reducible exact hY | with_reducible exact (Ext.refl _) | (with_reducible refine Ext.drew ?_) | (with_reducible refine Ext.alloc ?_ _))) hx8c; clear hx8c))
                              | fail)
                            all_goals (go_wp2_with fail; have hJ9 := HJ9.out; go_meet; exact ⟨rfl, by repeat' (first | with_reducible exact hY | with_reducible exact (Ext.refl _) | (with_reducible refine Ext.drew ?_) | (with_reducible refine Ext.alloc ?_ _) | (with_reducible refine Ext.setCell ?_ ?_ _) | with_reducible exact Nat.le_refl _ | with_reducible exact Ext.size hY | (dsimp only; omega) | (simp; omega))⟩)
                          case rest =>
                            obtain ⟨rfl, hx8⟩ := hcut
                            rename World => w8c
                            have HE8 := Lib.hid (HE6.out.trans hx8)
                            have HB8 := Lib.hid (HB6.out.ext hx8)
                            have HR48 := Lib.hid (HR4.out.ext hx8)
                            have HA48 := Lib.hid (Recs.ext HA4.out hx8)
                            have HRB8 := Lib.hid (HRB6.out.ext hx8)
                            have c23x := (HB.out.ext HE8.out).at (j := 23) rfl
                            clear hx8 c23 hkc1 HB6 HR4 HA4 HE6 HRB6 HR7
                            have c23 := c23x
                            clear c23x
                            go_upto_region 31 with fail
                            go_cut [31, 32] from 217 to 228 (fun p e wx => e = .int .i64 5 ∧ Ext w8c wx)
                            case first =>
                              rename_i J9 K9 hJ9 hK9
                              have HJ9 := Lib.hid hJ9
                              clear hJ9
                              repeat (rename (∀ (a : Act) (w : World), Code.wp _ _ _ a w → _) => hkk; clear hkk)
                              (try clear HZ)
                              (try clear HW)
                              (try clear HX0)
                              (try clear HB)
                              (try clear HRg)
                              (try clear HRr)
                              (try clear HAa)
                              (try clear HRs)
                              (try clear HRc)
                              (try clear HAd)
                              (try clear HSM)
                              (try clear HB6)
                              (try clear HR4)
                              (try clear HA4)
                              (try clear HE6)
                              (try clear HRB6)
                              (try clear HR7)
                              (try clear HEA)
                              (try clear hE)
                              (try clear HOKg)
                              (try clear HOKig)
                              (try clear HRBg)
                              (try clear H0g)
                              (try clear H4g)
                              (try clear H5g)
                              (try clear H0qg)
                              (try clear H4qg)
                              (try clear H5qg)
                              (try clear HP1g)
                              (try clear HP2g)
                              (try clear HP3g)
                              (try clear HP4g)
                              (try clear HP5g)
                              (try clear HP6g)
                              (try clear HXg)
                              (try clear HKg)
                              (try clear HOKa)
                              (try clear HOKia)
                              (try clear HRBa)
                              (try clear H0a)
                              (try clear H4a)
                              (try clear H5a)
                              (try clear H0qa)
                              (try clear H4qa)
                              (try clear H5qa)
                              (try clear HP1a)
                              (try clear HP2a)
                              (try clear HP3a)
                              (try clear HP4a)
                              (try clear HP5a)
                              (try clear HP6a)
                              (try clear HXa)
                              (try clear HKa)
                              (try clear HOKs)
                              (try clear HOKis)
                              (try clear HRBs)
                              (try clear H0s)
                              (try clear H4s)
                              (try clear H5s)
                              (try clear H0qs)
                              (try clear H4qs)
                              (try clear H5qs)
                              (try clear HP1s)
                              (try clear HP2s)
                              (try clear HP3s)
                              (try clear HP4s)
                              (try clear HP5s)
                              (try clear HP6s)
                              (try clear HXs)
                              (try clear HKs)
                              (try clear HOKc)
                              (try clear HOKic)
                              (try clear HRBc)
                              (try clear H0c)
                              (try clear H4c)
                              (try clear H5c)
                              (try clear H0qc)
                              (try clear H4qc)
                              (try clear HP1c)
                              (try clear HP2c)
                              (try clear HP4c)
                              (try clear HP6c)
                              (try clear HXc)
                              (try clear HKc)
                              have hY : Ext w8c w8c := Ext.refl _
                              have hn9 := HP3c.out
                              (try dsimp only [Act.put])
                              go_region_held3 (fun W' => W'.cell? ⟨w.heap.size, 23, none⟩ = some (.int .u32 c) ∧ Ext w8c W')
                                ((refine (fun h => ⟨Ext.cell h c23, h⟩) ?_; repeat' (first | with_reducible exact hY | with_reducible exact (Ext.refl _) | (with_reducible refine Ext.drew ?_) | (with_reducible refine Ext.alloc ?_ _) | (with_reducible refine Ext.setCell ?_ ?_ _) | with_reducible exact Nat.le_refl _ | with_reducible exact Ext.size hY | (dsimp only; omega) | (simp; omega))))
                                (first
                                | ((with_reducible show (if Region.wanted (⟨some 220, _, _, _, _, _⟩ : Oper) _ = true then _ else _)); go_must ((first | (refine step_append_rdh (v := .slice (some ⟨w8c.heap.size, 0, none⟩) 0 0) (l := []) (m := Xc) (base := w8c.heap.size) bt ?_ (HRB8.out.ext (by repeat' (first | with_reducible exact (Ext.refl _) | (with_reducible refine Ext.drew ?_) | (with_reducible refine Ext.alloc ?_ _)))) (by rfl) _ _ (by rfl) (by rfl) (by rfl) (by simp only [List.length_nil]; omega) (Ext.size (w := w8c) (by repeat' (first | with_reducible exact hY | with_reducible exact (Ext.refl _) | (with_reducible refine Ext.drew ?_) | (with_reducible refine Ext.alloc ?_ _)))) ?_) | (refine step_append_rdh (v := .slice (some ⟨w8c.heap.size + 1, 0, none⟩) 0 0) (l := []) (m := Xc) (base := w8c.heap.size) bt ?_ (HRB8.out.ext (by repeat' (first | with_reducible exact (Ext.refl _) | (with_reducible refine Ext.drew ?_) | (with_reducible refine Ext.alloc ?_ _)))) (by rfl) _ _ (by rfl) (by rfl) (by rfl) (by simp only [List.length_nil]; omega) (Ext.size (w := w8c) (by repeat' (first | with_reducible exact hY | with_reducible exact (Ext.refl _) | (with_reducible refine Ext.drew ?_) | (with_reducible refine Ext.alloc ?_ _)))) ?_) | (refine step_append_rdh (v := .slice (some ⟨w8c.heap.size + 1 + 1, 0, none⟩) 0 0) (l := []) (m := Xc) (base := w8c.heap.size) bt ?_ (HRB8.out.ext (by repeat' (first | with_reducible exact (Ext.refl _) | (with_reducible refine Ext.drew ?_) | (with_reducible refine Ext.alloc ?_ _)))) (by rfl) _ _ (by rfl) (by rfl) (by rfl) (by simp only [List.length_nil]; omega) (Ext.size (w := w8c) (by repeat' (first | with_reducible exact hY | with_reducible exact (Ext.refl _) | (with_reducible refine Ext.drew ?_) | (with_reducible refine Ext.alloc ?_ _)))) ?_) | fail); (first | exact Own.ext (own_nil _ _ _ (by first | rfl | (simp; done) | fail) (by first | exact Nat.le_refl _ | (simp; done) | (simp; omega) | fail)) (Ext.refl _) | exact Own.ext (own_nil _ _ _ (by first | rfl | (simp; done) | fail) (by first | exact Nat.le_refl _ | (simp; done) | (simp; omega) | fail)) ((Ext.refl _).alloc _) | exact Own.ext (own_nil _ _ _ (by first | rfl | (simp; done) | fail) (by first | exact Nat.le_refl _ | (simp; done) | (simp; omega) | fail)) (((Ext.refl _).alloc _).alloc _) | exact Own.ext (own_nil _ _ _ (by first | rfl | (simp; done) | fail) (by first | exact Nat.le_refl _ | (simp; done) | (simp; omega) | fail)) (Ext.refl _).drew | exact Own.ext (own_nil _ _ _ (by first | rfl | (simp; done) | fail) (by first | exact Nat.le_refl _ | (simp; done) | (simp; omega) | fail)) ((Ext.refl _).alloc _).drew | exact Own.ext (own_nil _ _ _ (by first | rfl | (simp; done) | fail) (by first | exact Nat.le_refl _ | (simp; done) | (simp; omega) | fail)) (((Ext.refl _).alloc _).alloc _).drew | fail); intro v11 w11 ho11 hb11 hg11 hat11; (first | (have bz1 : BoxF w11 (w8c.heap.size) [.string ⟨#[]⟩, .slice none 0 0, .string ⟨#[]⟩, .int .u16 0, .string ⟨#[]⟩, .slice none 0 0] := boxF_far (by first | exact BoxF.ext (boxF_new' (by first | rfl | (simp; done) | fail)) (Ext.refl _) | exact BoxF.ext (boxF_new' (by first | rfl | (simp; done) | fail)) ((Ext.refl _).alloc _) | exact BoxF.ext (boxF_new' (by first | rfl | (simp; done) | fail)) (((Ext.refl _).alloc _).alloc _) | exact BoxF.ext (boxF_new' (by first | rfl | (simp; done) | fail)) (Ext.refl _).drew | exact BoxF.ext (boxF_new' (by first | rfl | (simp; done) | fail)) ((Ext.refl _).alloc _).drew | exact BoxF.ext (boxF_new' (by first | rfl | (simp; done) | fail)) (((Ext.refl _).alloc _).alloc _).drew | fail) hg11 (by first | (simp [Value.ownBlock]; done) | (simp [Value.ownBlock]; omega) | fail)) | (have bz1 : BoxF w11 (w8c.heap.size + 1) [.string ⟨#[]⟩, .slice none 0 0, .string ⟨#[]⟩, .int .u16 0, .string ⟨#[]⟩, .slice none 0 0] := boxF_far (by first | exact BoxF.ext (boxF_new' (by first | rfl | (simp; done) | fail)) (Ext.refl _) | exact BoxF.ext (boxF_new' (by first | rfl | (simp; done) | fail)) ((Ext.refl _).alloc _) | exact BoxF.ext (boxF_new' (by first | rfl | (simp; done) | fail)) (((Ext.refl _).alloc _).alloc _) | exact BoxF.ext (boxF_new' (by first | rfl | (simp; done) | fail)) (Ext.refl _).drew | exact BoxF.ext (boxF_new' (by first | rfl | (simp; done) | fail)) ((Ext.refl _).alloc _).drew | exact BoxF.ext (boxF_new' (by first | rfl | (simp; done) | fail)) (((Ext.refl _).alloc _).alloc _).drew | fail) hg11 (by first | (simp [Value.ownBlock]; done) | (simp [Value.ownBlock]; omega) | fail)) | (have bz1 : BoxF w11 (w8c.heap.size + 1 + 1) [.string ⟨#[]⟩, .slice none 0 0, .string ⟨#[]⟩, .int .u16 0, .string ⟨#[]⟩, .slice none 0 0] := boxF_far (by first | exact BoxF.ext (boxF_new' (by first | rfl | (simp; done) | fail)) (Ext.refl _) | exact BoxF.ext (boxF_new' (by first | rfl | (simp; done) | fail)) ((Ext.refl _).alloc _) | exact BoxF.ext (boxF_new' (by first | rfl | (simp; done) | fail)) (((Ext.refl _).alloc _).alloc _) | exact BoxF.ext (boxF_new' (by first | rfl | (simp; done) | fail)) (Ext.refl _).drew | exact BoxF.ext (boxF_new' (by first | rfl | (simp; done) | fail)) ((Ext.refl _).alloc _).drew | exact BoxF.ext (boxF_new' (by first | rfl | (simp; done) | fail)) (((Ext.refl _).alloc _).alloc _).drew | fail) hg11 (by first | (simp [Value.ownBlock]; done) | (simp [Value.ownBlock]; omega) | fail)) | skip); replace hY : Ext w8c w11 := Ext.below (by repeat' (first | with_reducible exact hY | with_reducible exact (Ext.refl _) | (with_reducible refine Ext.drew ?_) | (with_reducible refine Ext.alloc ?_ _))) hb11 (Nat.le_refl _); have hs11 := Ext.size hY; clear hb11))
                                | ((with_reducible show (if Region.wanted (⟨some 223, _, _, _, _, _⟩ : Oper) _ = true then _ else _)); go_must (refine step_append_rdh (m := [UInt8.ofNat more.toNat]) bt (ho11.ext (by repeat' (first | with_reducible exact (Ext.refl _) | (with_reducible refine Ext.drew ?_) | (with_reducible refine Ext.alloc ?_ _)))) ?_ (by rfl) _ _ (by rfl) (by rfl) (by rfl) (by simp only [List.length_append, List.length_cons, List.length_nil]; omega) (Ext.size (w := w8c) (by repeat' (first | with_reducible exact hY | with_reducible exact (Ext.refl _) | (with_reducible refine Ext.drew ?_) | (with_reducible refine Ext.alloc ?_ _)))) ?_; (first | exact Rd.ext (rd_byte _ more HM.out _ (by first | rfl | (simp; done) | fail)) (Ext.refl _) | exact Rd.ext (rd_byte _ more HM.out _ (by first | rfl | (simp; done) | fail)) ((Ext.refl _).alloc _) | exact Rd.ext (rd_byte _ more HM.out _ (by first | rfl | (simp; done) | fail)) (((Ext.refl _).alloc _).alloc _) | exact Rd.ext (rd_byte _ more HM.out _ (by first | rfl | (simp; done) | fail)) (Ext.refl _).drew | exact Rd.ext (rd_byte _ more HM.out _ (by first | rfl | (simp; done) | fail)) ((Ext.refl _).alloc _).drew | exact Rd.ext (rd_byte _ more HM.out _ (by first | rfl | (simp; done) | fail)) (((Ext.refl _).alloc _).alloc _).drew | ((first | (refine Rd.ext ?_ (Ext.refl _); refine rd_far ?_ hg11 (by first | (simp [Value.ownBlock]; done) | (simp [Value.ownBlock]; omega) | fail); (first | exact Rd.ext (rd_byte _ more HM.out _ (by first | rfl | (simp; done) | fail)) (Ext.refl _) | exact Rd.ext (rd_byte _ more HM.out _ (by first | rfl | (simp; done) | fail)) ((Ext.refl _).alloc _) | exact Rd.ext (rd_byte _ more HM.out _ (by first | rfl | (simp; done) | fail)) (((Ext.refl _).alloc _).alloc _) | exact Rd.ext (rd_byte _ more HM.out _ (by first | rfl | (simp; done) | fail)) (Ext.refl _).drew | exact Rd.ext (rd_byte _ more HM.out _ (by first | rfl | (simp; done) | fail)) ((Ext.refl _).alloc _).drew | exact Rd.ext (rd_byte _ more HM.out _ (by first | rfl | (simp; done) | fail)) (((Ext.refl _).alloc _).alloc _).drew | fail)) | (refine Rd.ext ?_ ((Ext.refl _).alloc _); refine rd_far ?_ hg11 (by first | (simp [Value.ownBlock]; done) | (simp [Value.ownBlock]; omega) | fail); (first | exact Rd.ext (rd_byte _ more HM.out _ (by first | rfl | (simp; done) | fail)) (Ext.refl _) | exact Rd.ext (rd_byte _ more HM.out _ (by first | rfl | (simp; done) | fail)) ((Ext.refl _).alloc _) | exact Rd.ext (rd_byte _ more HM.out _ (by first | rfl | (simp; done) | fail)) (((Ext.refl _).alloc _).alloc _) | exact Rd.ext (rd_byte _ more HM.out _ (by first | rfl | (simp; done) | fail)) (Ext.refl _).drew | exact Rd.ext (rd_byte _ more HM.out _ (by first | rfl | (simp; done) | fail)) ((Ext.refl _).alloc _).drew | exact Rd.ext (rd_byte _ more HM.out _ (by first | rfl | (simp; done) | fail)) (((Ext.refl _).alloc _).alloc _).drew | fail)) | (refine Rd.ext ?_ (((Ext.refl _).alloc _).alloc _); refine rd_far ?_ hg11 (by first | (simp [Value.ownBlock]; done) | (simp [Value.ownBlock]; omega) | fail); (first | exact Rd.ext (rd_byte _ more HM.out _ (by first | rfl | (simp; done) | fail)) (Ext.refl _) | exact Rd.ext (rd_byte _ more HM.out _ (by first | rfl | (simp; done) | fail)) ((Ext.refl _).alloc _) | exact Rd.ext (rd_byte _ more HM.out _ (by first | rfl | (simp; done) | fail)) (((Ext.refl _).alloc _).alloc _) | exact Rd.ext (rd_byte _ more HM.out _ (by first | rfl | (simp; done) | fail)) (Ext.refl _).drew | exact Rd.ext (rd_byte _ more HM.out _ (by first | rfl | (simp; done) | fail)) ((Ext.refl _).alloc _).drew | exact Rd.ext (rd_byte _ more HM.out _ (by first | rfl | (simp; done) | fail)) (((Ext.refl _).alloc _).alloc _).drew | fail)) | (refine Rd.ext ?_ (Ext.refl _).drew; refine rd_far ?_ hg11 (by first | (simp [Value.ownBlock]; done) | (simp [Value.ownBlock]; omega) | fail); (first | exact Rd.ext (rd_byte _ more HM.out _ (by first | rfl | (simp; done) | fail)) (Ext.refl _) | exact Rd.ext (rd_byte _ more HM.out _ (by first | rfl | (simp; done) | fail)) ((Ext.refl _).alloc _) | exact Rd.ext (rd_byte _ more HM.out _ (by first | rfl | (simp; done) | fail)) (((Ext.refl _).alloc _).alloc _) | exact Rd.ext (rd_byte _ more HM.out _ (by first | rfl | (simp; done) | fail)) (Ext.refl _).drew | exact Rd.ext (rd_byte _ more HM.out _ (by first | rfl | (simp; done) | fail)) ((Ext.refl _).alloc _).drew | exact Rd.ext (rd_byte _ more HM.out _ (by first | rfl | (simp; done) | fail)) (((Ext.refl _).alloc _).alloc _).drew | fail)) | (refine Rd.ext ?_ ((Ext.refl _).alloc _).drew; refine rd_far ?_ hg11 (by first | (simp [Value.ownBlock]; done) | (simp [Value.ownBlock]; omega) | fail); (first | exact Rd.ext (rd_byte _ more HM.out _ (by first | rfl | (simp; done) | fail)) (Ext.refl _) | exact Rd.ext (rd_byte _ more HM.out _ (by first | rfl | (simp; done) | fail)) ((Ext.refl _).alloc _) | exact Rd.ext (rd_byte _ more HM.out _ (by first | rfl | (simp; done) | fail)) (((Ext.refl _).alloc _).alloc _) | exact Rd.ext (rd_byte _ more HM.out _ (by first | rfl | (simp; done) | fail)) (Ext.refl _).drew | exact Rd.ext (rd_byte _ more HM.out _ (by first | rfl | (simp; done) | fail)) ((Ext.refl _).alloc _).drew | exact Rd.ext (rd_byte _ more HM.out _ (by first | rfl | (simp; done) | fail)) (((Ext.refl _).alloc _).alloc _).drew | fail)) | (refine Rd.ext ?_ (((Ext.refl _).alloc _).alloc _).drew; refine rd_far ?_ hg11 (by first | (simp [Value.ownBlock]; done) | (simp [Value.ownBlock]; omega) | fail); (first | exact Rd.ext (rd_byte _ more HM.out _ (by first | rfl | (simp; done) | fail)) (Ext.refl _) | exact Rd.ext (rd_byte _ more HM.out _ (by first | rfl | (simp; done) | fail)) ((Ext.refl _).alloc _) | exact Rd.ext (rd_byte _ more HM.out _ (by first | rfl | (simp; done) | fail)) (((Ext.refl _).alloc _).alloc _) | exact Rd.ext (rd_byte _ more HM.out _ (by first | rfl | (simp; done) | fail)) (Ext.refl _).drew | exact Rd.ext (rd_byte _ more HM.out _ (by first | rfl | (simp; done) | fail)) ((Ext.refl _).alloc _).drew | exact Rd.ext (rd_byte _ more HM.out _ (by first | rfl | (simp; done) | fail)) (((Ext.refl _).alloc _).alloc _).drew | fail)) | fail)) | fail); intro v12 w12 ho12 hb12 hg12 hat12; (first | (have bz2 := boxF_far (BoxF.ext bz1 (Ext.refl _)) hg12 (fun e9 => by rcases hat11 with h9 | h9 <;> (rw [h9] at e9; have e8 := Option.some.inj e9; first | (simp at e8; done) | (simp at e8; omega) | omega | fail))) | (have bz2 := boxF_far (BoxF.ext bz1 ((Ext.refl _).alloc _)) hg12 (fun e9 => by rcases hat11 with h9 | h9 <;> (rw [h9] at e9; have e8 := Option.some.inj e9; first | (simp at e8; done) | (simp at e8; omega) | omega | fail))) | (have bz2 := boxF_far (BoxF.ext bz1 (((Ext.refl _).alloc _).alloc _)) hg12 (fun e9 => by rcases hat11 with h9 | h9 <;> (rw [h9] at e9; have e8 := Option.some.inj e9; first | (simp at e8; done) | (simp at e8; omega) | omega | fail))) | (have bz2 := boxF_far (BoxF.ext bz1 (Ext.refl _).drew) hg12 (fun e9 => by rcases hat11 with h9 | h9 <;> (rw [h9] at e9; have e8 := Option.some.inj e9; first | (simp at e8; done) | (simp at e8; omega) | omega | fail))) | (have bz2 := boxF_far (BoxF.ext bz1 ((Ext.refl _).alloc _).drew) hg12 (fun e9 => by rcases hat11 with h9 | h9 <;> (rw [h9] at e9; have e8 := Option.some.inj e9; first | (simp at e8; done) | (simp at e8; omega) | omega | fail))) | (have bz2 := boxF_far (BoxF.ext bz1 (((Ext.refl _).alloc _).alloc _).drew) hg12 (fun e9 => by rcases hat11 with h9 | h9 <;> (rw [h9] at e9; have e8 := Option.some.inj e9; first | (simp at e8; done) | (simp at e8; omega) | omega | fail))) | (have bz2 : BoxF w12 (w11.heap.size) [.string ⟨#[]⟩, .slice none 0 0, .string ⟨#[]⟩, .int .u16 0, .string ⟨#[]⟩, .slice none 0 0] := boxF_far (by first | exact BoxF.ext (boxF_new' (by first | rfl | (simp; done) | fail)) (Ext.refl _) | exact BoxF.ext (boxF_new' (by first | rfl | (simp; done) | fail)) ((Ext.refl _).alloc _) | exact BoxF.ext (boxF_new' (by first | rfl | (simp; done) | fail)) (((Ext.refl _).alloc _).alloc _) | exact BoxF.ext (boxF_new' (by first | rfl | (simp; done) | fail)) (Ext.refl _).drew | exact BoxF.ext (boxF_new' (by first | rfl | (simp; done) | fail)) ((Ext.refl _).alloc _).drew | exact BoxF.ext (boxF_new' (by first | rfl | (simp; done) | fail)) (((Ext.refl _).alloc _).alloc _).drew | fail) hg12 (fun e9 => by have h9 := (ho11.ltB e9).2; omega)) | (have bz2 : BoxF w12 (w11.heap.size + 1) [.string ⟨#[]⟩, .slice none 0 0, .string ⟨#[]⟩, .int .u16 0, .string ⟨#[]⟩, .slice none 0 0] := boxF_far (by first | exact BoxF.ext (boxF_new' (by first | rfl | (simp; done) | fail)) (Ext.refl _) | exact BoxF.ext (boxF_new' (by first | rfl | (simp; done) | fail)) ((Ext.refl _).alloc _) | exact BoxF.ext (boxF_new' (by first | rfl | (simp; done) | fail)) (((Ext.refl _).alloc _).alloc _) | exact BoxF.ext (boxF_new' (by first | rfl | (simp; done) | fail)) (Ext.refl _).drew | exact BoxF.ext (boxF_new' (by first | rfl | (simp; done) | fail)) ((Ext.refl _).alloc _).drew | exact BoxF.ext (boxF_new' (by first | rfl | (simp; done) | fail)) (((Ext.refl _).alloc _).alloc _).drew | fail) hg12 (fun e9 => by have h9 := (ho11.ltB e9).2; omega)) | skip); replace hY : Ext w8c w12 := Ext.below (by repeat' (first | with_reducible exact hY | with_reducible exact (Ext.refl _) | (with_reducible refine Ext.drew ?_) | (with_reducible refine Ext.alloc ?_ _))) hb12 (Nat.le_refl _); have hs12 := Ext.size hY; clear hb12 hat11 hat12 hg11 hg12))
                                | (go_at_call 23; go_must (refine (readChange_s _ _ _ (Xc ++ [UInt8.ofNat more.toNat]) [] [] [] [] 0 5 [] (ho12.rd.ext (by repeat' (first | with_reducible exact (Ext.refl _) | (with_reducible refine Ext.drew ?_) | (with_reducible refine Ext.alloc ?_ _)))) HP5c.out H5qc.out).mono ?_; rintro e w13 ⟨A13c, k13c, c13c, B13c, m13c, d13c, rfl, _, _, hx13⟩; (first | (have bz := BoxF.ext (BoxF.ext bz2 (Ext.refl _)) hx13) | (have bz := BoxF.ext (BoxF.ext bz2 ((Ext.refl _).alloc _)) hx13) | (have bz := BoxF.ext (BoxF.ext bz2 (((Ext.refl _).alloc _).alloc _)) hx13) | (have bz := BoxF.ext (BoxF.ext bz2 (Ext.refl _).drew) hx13) | (have bz := BoxF.ext (BoxF.ext bz2 ((Ext.refl _).alloc _).drew) hx13) | (have bz := BoxF.ext (BoxF.ext bz2 (((Ext.refl _).alloc _).alloc _).drew) hx13) | (have bz : BoxF w13 w12.heap.size [.string ⟨#[]⟩, .slice none 0 0, .string ⟨#[]⟩, .int .u16 0, .string ⟨#[]⟩, .slice none 0 0] := BoxF.ext (by first | exact BoxF.ext (boxF_new' (by first | rfl | (simp; done) | fail)) (Ext.refl _) | exact BoxF.ext (boxF_new' (by first | rfl | (simp; done) | fail)) ((Ext.refl _).alloc _) | exact BoxF.ext (boxF_new' (by first | rfl | (simp; done) | fail)) (((Ext.refl _).alloc _).alloc _) | exact BoxF.ext (boxF_new' (by first | rfl | (simp; done) | fail)) (Ext.refl _).drew | exact BoxF.ext (boxF_new' (by first | rfl | (simp; done) | fail)) ((Ext.refl _).alloc _).drew | exact BoxF.ext (boxF_new' (by first | rfl | (simp; done) | fail)) (((Ext.refl _).alloc _).alloc _).drew | fail) hx13) | skip); (try (have z0 := bz.at (j := 0) rfl; have f0 := bz.free 0 (by simp); have z1 := bz.at (j := 1) rfl; have f1 := bz.free 1 (by simp); have z2 := bz.at (j := 2) rfl; have f2 := bz.free 2 (by simp); have z3 := bz.at (j := 3) rfl; have f3 := bz.free 3 (by simp); have z4 := bz.at (j := 4) rfl; have f4 := bz.free 4 (by simp); have z5 := bz.at (j := 5) rfl; have f5 := bz.free 5 (by simp); clear bz)); replace hY : Ext w8c w13 := Ext.trans (by repeat' (first | with_reducible exact hY | with_reducible exact (Ext.refl _) | (with_reducible refine Ext.drew ?_) | (with_reducible refine Ext.alloc ?_ _))) hx13; have hs13 := Ext.size hY; clear hx13 ho11 ho12; (try clear bz1); (try clear bz2)))
                                | fail)
                              all_goals (go_wp2_with fail; have hJ9 := HJ9.out; go_meet; exact ⟨rfl, by repeat' (first | with_reducible exact hY | with_reducible exact (Ext.refl _) | (with_reducible refine Ext.drew ?_) | (with_reducible refine Ext.alloc ?_ _) | (with_reducible refine Ext.setCell ?_ ?_ _) | with_reducible exact Nat.le_refl _ | with_reducible exact Ext.size hY | (dsimp only; omega) | (simp; omega))⟩)
                            case rest =>
                              obtain ⟨rfl, hx9⟩ := hcut
                              rename World => w9c
                              have hE := HE8.out.trans hx9
                              have B6c := HB8.out.ext hx9
                              have r4c := HR48.out.ext hx9
                              have a4c := Recs.ext HA48.out hx9
                              clear hx9 c23
                              have rbc : True := trivial
                              go_wp2_with (first
                                | ((with_reducible show wpList _ _ _ (⟨some 229, _, _, _, _, _⟩ :: _) _ _); refine wpl_load_box rfl _ _ rfl _ rfl B6c Try.underlying47 rfl (by kernel_rfl) ?_)
                                | ((with_reducible show wpList _ _ _ (⟨some 231, _, _, _, _, _⟩ :: _) _ _); refine wpl_load_p rfl _ _ rfl w.heap.size 17 rfl [.string (strL userc), .slice Ac respc.length cc, .string (strL dbc), .int .u16 chc, .string (strL plc), .slice Ad psc.length cd] _ ((HB.out.ext hE).box.part 6 (by rfl)) Try.underlying47 rfl (by kernel_rfl) ?_)
                                | (go_at_call 24; refine (sameChange_c _ chc userc respc dbc plc psc _ _ _ _ r4c a4c (HRc.out.ext hE) (Recs.ext HAd.out hE)).mono ?_; rintro e w16c ⟨rfl, hx16c⟩; replace hE := hE.trans hx16c; clear B6c rbc r4c hx16c a4c)
                                | fail)
                              go_ret
                              exact ⟨rfl, HX0.out.trans hE⟩
end Go.Proofs.Ytaiakkifefedoaa
