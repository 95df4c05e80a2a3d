import Derived.Test.YtbodppfpmpmadaaGreatGrIC
import Derived.Laws.BitsAllLaws
/- The greeting: what it is in bytes, how it is read. (Printed by gen_grV.py.) No program in sight. -/
namespace Go.Proofs.YtbodppfpmpmadaaGreat
open Go.RowKit

theorem leN_inj : ∀ (l m : List UInt8), l.length = m.length → leN l = leN m → l = m
  | [], [], _, _ => rfl
  | [], _ :: _, h, _ => by simp at h
  | _ :: _, [], h, _ => by simp at h
  | a :: l, b :: m, h, e => by
    have e' : a.toNat + 256 * leN l = b.toNat + 256 * leN m := e
    have ha := a.toNat_lt
    have hb := b.toNat_lt
    have h1 : a.toNat = b.toNat := by omega
    rw [leN_inj l m (by simpa using h) (by omega), UInt8.toNat_inj.1 h1]
theorem fixB_leN (c : List UInt8) (n : Nat) (h : c.length = n) : fixB ((leN c : Nat) : Int) n = c := by
  refine leN_inj _ _ (by rw [fixB_length, h]) ?_
  rw [leN_fixB]
  have := leN_lt c
  rw [h] at this
  exact Nat.mod_eq_of_lt this
theorem hasC_low (c : Int) (h0 : 0 ≤ c) (h1 : c < 4294967296) : hasC (c % 65536) 33280 = hasC c 33280 := by
  unfold hasC
  rw [u32_and _ 33280 (by omega) (by omega) (by omega) (by omega), u32_and c 33280 h0 h1 (by omega) (by omega)]
  have e : (c % 65536).toNat = c.toNat &&& 65535 := by
    rw [show (65535 : Nat) = 2 ^ 16 - 1 from rfl, Nat.and_two_pow_sub_one_eq_mod]
    omega
  rw [e, Nat.and_assoc]
  rfl
theorem nonceOk_append (a b : List UInt8) : nonceOk (a ++ b) = (nonceOk a && nonceOk b) := by
  unfold nonceOk
  simp only [List.contains_append, Bool.not_or]
  cases a.contains 0 <;> cases b.contains 0 <;> cases a.contains 36 <;> cases b.contains 36 <;> rfl

/-- A greeting: version, thread, nonce, capabilities, charset, status, plugin. -/
structure GreV where
  ver : List UInt8
  thr : Int
  nonce : List UInt8
  caps : Int
  ch : Int
  st : Int
  pl : List UInt8
def gre0 : GreV := ⟨[], 0, [], 0, 0, 0, []⟩
def capsOr (lo hi : Int) : Int := bits .or .u32 (lo % 4294967296) (IntKind.u32.wrap (hi % 4294967296 * 65536))
theorem capsOr_eq (lo hi : Int) (h1 : 0 ≤ lo) (h2 : lo < 65536) (h3 : 0 ≤ hi) (h4 : hi < 65536) : capsOr lo hi = lo + hi * 65536 := by
  unfold capsOr
  rw [show lo % 4294967296 = lo by omega, show hi % 4294967296 = hi by omega, IntKind.wrap_u32, show hi * 65536 % 4294967296 = hi * 65536 by omega]
  rw [u32_or _ _ h1 (by omega) (by omega) (by omega)]
  have e : (hi * 65536).toNat = 2 ^ 16 * hi.toNat := by omega
  rw [Nat.or_comm, e, ← Nat.two_pow_add_eq_or_of_lt (show lo.toNat < 2 ^ 16 by omega)]
  omega
def plugN (c : Int) : Int := if hasC c 524288 then 21 else 0
def greetH : Rdp (List UInt8 × Int × List UInt8) :=
  bindR (rB 1) fun v => bindR (chkR (rW (byteI v != 10))) fun _ => bindR rZ fun ver => bindR (rX 4) fun thr => bindR (rB 8) fun n1 => bindR (chkR (rW (!nonceOk n1))) fun _ => bindR (chkR (r0 1)) fun _ => pureR (ver, thr % 4294967296, n1)
def greetC : Rdp (Int × Int × Int) :=
  bindR (rX 2) fun lo => bindR (chkR (rW (!hasC (lo % 4294967296) 33280))) fun _ => bindR (rB 1) fun ch => bindR (rX 2) fun st => bindR (rX 2) fun hi => pureR (capsOr lo hi, byteI ch, st % 65536)
def greetT (c : Int) : Rdp (List UInt8 × List UInt8) :=
  bindR (rB 1) fun m => bindR (chkR (rW (byteI m != plugN c))) fun _ => bindR (chkR (r0 10)) fun _ => bindR (rB 12) fun n2 => bindR (chkR (rW (!nonceOk n2))) fun _ => bindR (chkR (r0 1)) fun _ => bindR (optZ (hasC c 524288)) fun pl => pureR (n2, pl)
def greetM : Rdp GreV :=
  bindR greetH fun h => bindR greetC fun c => bindR (greetT c.1) fun t => pureR ⟨h.1, h.2.1, h.2.2 ++ t.1, c.1, c.2.1, c.2.2, t.2⟩
def greetB (g : GreV) : List UInt8 := greetBs g.ver g.thr g.nonce g.caps g.ch g.st g.pl
structure GreOk (g : GreV) : Prop where
  ver : g.ver.contains 0 = false
  pl : g.pl.contains 0 = false
  n20 : g.nonce.length = 20
  nonce : nonceOk g.nonce = true
  core : hasC g.caps 33280 = true
  plF : g.pl = [] ∨ hasC g.caps 524288 = true
  thr : 0 ≤ g.thr ∧ g.thr < 4294967296
  caps : 0 ≤ g.caps ∧ g.caps < 4294967296
  ch : 0 ≤ g.ch ∧ g.ch < 256
  st : 0 ≤ g.st ∧ g.st < 65536
theorem plug_byte (c : Int) : byteI [if hasC c 524288 then 21 else 0] = plugN c := by
  unfold plugN
  cases hasC c 524288 <;> rfl
theorem st_greetC : Sticky greetC := by unfold greetC; exact (by intros; repeat' first | exact Sticky.pure _ | exact Sticky.rB _ | exact Sticky.rX _ | exact Sticky.chk _ | exact Sticky.r0 _ | exact Sticky.rZ | exact Sticky.rU | exact Sticky.rA | exact st_resp _ | exact st_optZ _ | exact st_optA _ | refine Sticky.bind ?_ (fun _ => ?_) | split)
theorem st_greetT (c : Int) : Sticky (greetT c) := by unfold greetT; exact (by intros; repeat' first | exact Sticky.pure _ | exact Sticky.rB _ | exact Sticky.rX _ | exact Sticky.chk _ | exact Sticky.r0 _ | exact Sticky.rZ | exact Sticky.rU | exact Sticky.rA | exact st_resp _ | exact st_optZ _ | exact st_optA _ | refine Sticky.bind ?_ (fun _ => ?_) | split)
set_option maxHeartbeats 1000000 in
theorem eats_greet (g : GreV) (h : GreOk g) : Eats greetM (greetB g) g := by
  have hc := h.caps
  have et := leN_fix4 g.thr 4 h.thr.1 (by have := h.thr.2; omega)
  have el := leN_fix4 (g.caps % 65536) 2 (by omega) (by omega)
  have eh := leN_fix4 (g.caps / 65536) 2 (by omega) (by omega)
  have es := leN_fix4 g.st 2 h.st.1 (by have := h.st.2; omega)
  have ec := byteI_of g.ch h.ch
  have eCc : capsOr (g.caps % 65536) (g.caps / 65536) = g.caps := by rw [capsOr_eq _ _ (by omega) (by omega) (by omega) (by omega)]; omega
  have et2 : g.thr % 4294967296 = g.thr := by have := h.thr; omega
  have es2 : g.st % 65536 = g.st := by have := h.st; omega
  have hn : nonceOk (g.nonce.take 8) = true ∧ nonceOk (g.nonce.drop 8) = true := by
    have := h.nonce
    rw [← List.take_append_drop 8 g.nonce, nonceOk_append] at this
    simpa using this
  have hn8 : (g.nonce.take 8).length = 8 := by rw [List.length_take, h.n20]; rfl
  have hn12 : (g.nonce.drop 8).length = 12 := by rw [List.length_drop, h.n20]
  have e : greetB g = ([10] ++ ([] ++ ((g.ver ++ [0]) ++ (fixB g.thr 4 ++ (g.nonce.take 8 ++ ([] ++ (List.replicate 1 0 ++ []))))))) ++ ((fixB (g.caps % 65536) 2 ++ ([] ++ ([UInt8.ofNat g.ch.toNat] ++ (fixB g.st 2 ++ (fixB (g.caps / 65536) 2 ++ []))))) ++ (([if hasC g.caps 524288 then 21 else 0] ++ ([] ++ (List.replicate 10 0 ++ (g.nonce.drop 8 ++ ([] ++ (List.replicate 1 0 ++ (endB (hasC g.caps 524288) g.pl ++ []))))))) ++ [])) := by
    simp [greetB, greetBs]
  have eH : Eats greetH ([10] ++ ([] ++ ((g.ver ++ [0]) ++ (fixB g.thr 4 ++ (g.nonce.take 8 ++ ([] ++ (List.replicate 1 0 ++ []))))))) (g.ver, g.thr, g.nonce.take 8) := by
    unfold greetH
    refine Eats.bind (Eats.rB 1 [10] rfl) ?_ (by intros; repeat' first | exact Sticky.pure _ | exact Sticky.rB _ | exact Sticky.rX _ | exact Sticky.chk _ | exact Sticky.r0 _ | exact Sticky.rZ | exact Sticky.rU | exact Sticky.rA | exact st_resp _ | exact st_optZ _ | exact st_optA _ | refine Sticky.bind ?_ (fun _ => ?_) | split)
    refine Eats.bind (Eats.chkOf _ rfl) ?_ (by intros; repeat' first | exact Sticky.pure _ | exact Sticky.rB _ | exact Sticky.rX _ | exact Sticky.chk _ | exact Sticky.r0 _ | exact Sticky.rZ | exact Sticky.rU | exact Sticky.rA | exact st_resp _ | exact st_optZ _ | exact st_optA _ | refine Sticky.bind ?_ (fun _ => ?_) | split)
    refine Eats.bind (Eats.rZ g.ver h.ver) ?_ (by intros; repeat' first | exact Sticky.pure _ | exact Sticky.rB _ | exact Sticky.rX _ | exact Sticky.chk _ | exact Sticky.r0 _ | exact Sticky.rZ | exact Sticky.rU | exact Sticky.rA | exact st_resp _ | exact st_optZ _ | exact st_optA _ | refine Sticky.bind ?_ (fun _ => ?_) | split)
    refine Eats.bind (Eats.rX 4 (fixB g.thr 4) (fixB_length _ _)) ?_ (by intros; repeat' first | exact Sticky.pure _ | exact Sticky.rB _ | exact Sticky.rX _ | exact Sticky.chk _ | exact Sticky.r0 _ | exact Sticky.rZ | exact Sticky.rU | exact Sticky.rA | exact st_resp _ | exact st_optZ _ | exact st_optA _ | refine Sticky.bind ?_ (fun _ => ?_) | split)
    rw [et, et2]
    refine Eats.bind (Eats.rB 8 (g.nonce.take 8) hn8) ?_ (by intros; repeat' first | exact Sticky.pure _ | exact Sticky.rB _ | exact Sticky.rX _ | exact Sticky.chk _ | exact Sticky.r0 _ | exact Sticky.rZ | exact Sticky.rU | exact Sticky.rA | exact st_resp _ | exact st_optZ _ | exact st_optA _ | refine Sticky.bind ?_ (fun _ => ?_) | split)
    refine Eats.bind (Eats.chkOf _ (by rw [hn.1]; rfl)) ?_ (by intros; repeat' first | exact Sticky.pure _ | exact Sticky.rB _ | exact Sticky.rX _ | exact Sticky.chk _ | exact Sticky.r0 _ | exact Sticky.rZ | exact Sticky.rU | exact Sticky.rA | exact st_resp _ | exact st_optZ _ | exact st_optA _ | refine Sticky.bind ?_ (fun _ => ?_) | split)
    refine Eats.bind (Eats.r0 1) ?_ (by intros; repeat' first | exact Sticky.pure _ | exact Sticky.rB _ | exact Sticky.rX _ | exact Sticky.chk _ | exact Sticky.r0 _ | exact Sticky.rZ | exact Sticky.rU | exact Sticky.rA | exact st_resp _ | exact st_optZ _ | exact st_optA _ | refine Sticky.bind ?_ (fun _ => ?_) | split)
    exact Eats.pure _
  have eC : Eats greetC (fixB (g.caps % 65536) 2 ++ ([] ++ ([UInt8.ofNat g.ch.toNat] ++ (fixB g.st 2 ++ (fixB (g.caps / 65536) 2 ++ []))))) (g.caps, g.ch, g.st) := by
    unfold greetC
    refine Eats.bind (Eats.rX 2 (fixB (g.caps % 65536) 2) (fixB_length _ _)) ?_ (by intros; repeat' first | exact Sticky.pure _ | exact Sticky.rB _ | exact Sticky.rX _ | exact Sticky.chk _ | exact Sticky.r0 _ | exact Sticky.rZ | exact Sticky.rU | exact Sticky.rA | exact st_resp _ | exact st_optZ _ | exact st_optA _ | refine Sticky.bind ?_ (fun _ => ?_) | split)
    rw [el]
    refine Eats.bind (Eats.chkOf _ (by rw [show g.caps % 65536 % 4294967296 = g.caps % 65536 by omega, hasC_low _ hc.1 hc.2, h.core]; rfl)) ?_ (by intros; repeat' first | exact Sticky.pure _ | exact Sticky.rB _ | exact Sticky.rX _ | exact Sticky.chk _ | exact Sticky.r0 _ | exact Sticky.rZ | exact Sticky.rU | exact Sticky.rA | exact st_resp _ | exact st_optZ _ | exact st_optA _ | refine Sticky.bind ?_ (fun _ => ?_) | split)
    refine Eats.bind (Eats.rB 1 [UInt8.ofNat g.ch.toNat] rfl) ?_ (by intros; repeat' first | exact Sticky.pure _ | exact Sticky.rB _ | exact Sticky.rX _ | exact Sticky.chk _ | exact Sticky.r0 _ | exact Sticky.rZ | exact Sticky.rU | exact Sticky.rA | exact st_resp _ | exact st_optZ _ | exact st_optA _ | refine Sticky.bind ?_ (fun _ => ?_) | split)
    rw [ec]
    refine Eats.bind (Eats.rX 2 (fixB g.st 2) (fixB_length _ _)) ?_ (by intros; repeat' first | exact Sticky.pure _ | exact Sticky.rB _ | exact Sticky.rX _ | exact Sticky.chk _ | exact Sticky.r0 _ | exact Sticky.rZ | exact Sticky.rU | exact Sticky.rA | exact st_resp _ | exact st_optZ _ | exact st_optA _ | refine Sticky.bind ?_ (fun _ => ?_) | split)
    rw [es, es2]
    refine Eats.bind (Eats.rX 2 (fixB (g.caps / 65536) 2) (fixB_length _ _)) ?_ (by intros; repeat' first | exact Sticky.pure _ | exact Sticky.rB _ | exact Sticky.rX _ | exact Sticky.chk _ | exact Sticky.r0 _ | exact Sticky.rZ | exact Sticky.rU | exact Sticky.rA | exact st_resp _ | exact st_optZ _ | exact st_optA _ | refine Sticky.bind ?_ (fun _ => ?_) | split)
    rw [eh, eCc]
    exact Eats.pure _
  have eT : Eats (greetT g.caps) ([if hasC g.caps 524288 then 21 else 0] ++ ([] ++ (List.replicate 10 0 ++ (g.nonce.drop 8 ++ ([] ++ (List.replicate 1 0 ++ (endB (hasC g.caps 524288) g.pl ++ []))))))) (g.nonce.drop 8, g.pl) := by
    unfold greetT
    refine Eats.bind (Eats.rB 1 [if hasC g.caps 524288 then 21 else 0] rfl) ?_ (by intros; repeat' first | exact Sticky.pure _ | exact Sticky.rB _ | exact Sticky.rX _ | exact Sticky.chk _ | exact Sticky.r0 _ | exact Sticky.rZ | exact Sticky.rU | exact Sticky.rA | exact st_resp _ | exact st_optZ _ | exact st_optA _ | refine Sticky.bind ?_ (fun _ => ?_) | split)
    refine Eats.bind (Eats.chkOf _ (by rw [plug_byte]; simp)) ?_ (by intros; repeat' first | exact Sticky.pure _ | exact Sticky.rB _ | exact Sticky.rX _ | exact Sticky.chk _ | exact Sticky.r0 _ | exact Sticky.rZ | exact Sticky.rU | exact Sticky.rA | exact st_resp _ | exact st_optZ _ | exact st_optA _ | refine Sticky.bind ?_ (fun _ => ?_) | split)
    refine Eats.bind (Eats.r0 10) ?_ (by intros; repeat' first | exact Sticky.pure _ | exact Sticky.rB _ | exact Sticky.rX _ | exact Sticky.chk _ | exact Sticky.r0 _ | exact Sticky.rZ | exact Sticky.rU | exact Sticky.rA | exact st_resp _ | exact st_optZ _ | exact st_optA _ | refine Sticky.bind ?_ (fun _ => ?_) | split)
    refine Eats.bind (Eats.rB 12 (g.nonce.drop 8) hn12) ?_ (by intros; repeat' first | exact Sticky.pure _ | exact Sticky.rB _ | exact Sticky.rX _ | exact Sticky.chk _ | exact Sticky.r0 _ | exact Sticky.rZ | exact Sticky.rU | exact Sticky.rA | exact st_resp _ | exact st_optZ _ | exact st_optA _ | refine Sticky.bind ?_ (fun _ => ?_) | split)
    refine Eats.bind (Eats.chkOf _ (by rw [hn.2]; rfl)) ?_ (by intros; repeat' first | exact Sticky.pure _ | exact Sticky.rB _ | exact Sticky.rX _ | exact Sticky.chk _ | exact Sticky.r0 _ | exact Sticky.rZ | exact Sticky.rU | exact Sticky.rA | exact st_resp _ | exact st_optZ _ | exact st_optA _ | refine Sticky.bind ?_ (fun _ => ?_) | split)
    refine Eats.bind (Eats.r0 1) ?_ (by intros; repeat' first | exact Sticky.pure _ | exact Sticky.rB _ | exact Sticky.rX _ | exact Sticky.chk _ | exact Sticky.r0 _ | exact Sticky.rZ | exact Sticky.rU | exact Sticky.rA | exact st_resp _ | exact st_optZ _ | exact st_optA _ | refine Sticky.bind ?_ (fun _ => ?_) | split)
    refine Eats.bind (eats_optZ _ g.pl h.pl h.plF) ?_ (by intros; repeat' first | exact Sticky.pure _ | exact Sticky.rB _ | exact Sticky.rX _ | exact Sticky.chk _ | exact Sticky.r0 _ | exact Sticky.rZ | exact Sticky.rU | exact Sticky.rA | exact st_resp _ | exact st_optZ _ | exact st_optA _ | refine Sticky.bind ?_ (fun _ => ?_) | split)
    exact Eats.pure _
  rw [e]
  unfold greetM
  refine Eats.bind eH ?_ (fun _ => Sticky.bind st_greetC (fun _ => Sticky.bind (st_greetT _) (fun _ => Sticky.pure _)))
  refine Eats.bind eC ?_ (fun _ => Sticky.bind (st_greetT _) (fun _ => Sticky.pure _))
  refine Eats.bind eT ?_ (fun _ => Sticky.pure _)
  dsimp only
  rw [List.take_append_drop]
  exact Eats.pure _
theorem inv_greetH : Inv greetH (fun c h => c = [10] ++ (h.1 ++ [0]) ++ fixB h.2.1 4 ++ h.2.2 ++ [0] ∧ h.1.contains 0 = false ∧ (0 ≤ h.2.1 ∧ h.2.1 < 4294967296) ∧ h.2.2.length = 8 ∧ nonceOk h.2.2 = true) := by
  unfold greetH
  refine Inv.weaken (Inv.bind (Inv.rB 1) (fun _ => Inv.bind (Inv.chk _) (fun _ => Inv.bind (Inv.rZ) (fun _ => Inv.bind (Inv.rX 4) (fun _ => Inv.bind (Inv.rB 8) (fun _ => Inv.bind (Inv.chk _) (fun _ => Inv.bind (Inv.r0 1) (fun _ => Inv.pure _) (by intros; repeat' first | exact Sticky.pure _ | exact Sticky.rB _ | exact Sticky.rX _ | exact Sticky.chk _ | exact Sticky.r0 _ | exact Sticky.rZ | exact Sticky.rU | exact Sticky.rA | exact st_resp _ | exact st_optZ _ | exact st_optA _ | refine Sticky.bind ?_ (fun _ => ?_) | split)) (by intros; repeat' first | exact Sticky.pure _ | exact Sticky.rB _ | exact Sticky.rX _ | exact Sticky.chk _ | exact Sticky.r0 _ | exact Sticky.rZ | exact Sticky.rU | exact Sticky.rA | exact st_resp _ | exact st_optZ _ | exact st_optA _ | refine Sticky.bind ?_ (fun _ => ?_) | split)) (by intros; repeat' first | exact Sticky.pure _ | exact Sticky.rB _ | exact Sticky.rX _ | exact Sticky.chk _ | exact Sticky.r0 _ | exact Sticky.rZ | exact Sticky.rU | exact Sticky.rA | exact st_resp _ | exact st_optZ _ | exact st_optA _ | refine Sticky.bind ?_ (fun _ => ?_) | split)) (by intros; repeat' first | exact Sticky.pure _ | exact Sticky.rB _ | exact Sticky.rX _ | exact Sticky.chk _ | exact Sticky.r0 _ | exact Sticky.rZ | exact Sticky.rU | exact Sticky.rA | exact st_resp _ | exact st_optZ _ | exact st_optA _ | refine Sticky.bind ?_ (fun _ => ?_) | split)) (by intros; repeat' first | exact Sticky.pure _ | exact Sticky.rB _ | exact Sticky.rX _ | exact Sticky.chk _ | exact Sticky.r0 _ | exact Sticky.rZ | exact Sticky.rU | exact Sticky.rA | exact st_resp _ | exact st_optZ _ | exact st_optA _ | refine Sticky.bind ?_ (fun _ => ?_) | split)) (by intros; repeat' first | exact Sticky.pure _ | exact Sticky.rB _ | exact Sticky.rX _ | exact Sticky.chk _ | exact Sticky.r0 _ | exact Sticky.rZ | exact Sticky.rU | exact Sticky.rA | exact st_resp _ | exact st_optZ _ | exact st_optA _ | refine Sticky.bind ?_ (fun _ => ?_) | split)) (by intros; repeat' first | exact Sticky.pure _ | exact Sticky.rB _ | exact Sticky.rX _ | exact Sticky.chk _ | exact Sticky.r0 _ | exact Sticky.rZ | exact Sticky.rU | exact Sticky.rA | exact st_resp _ | exact st_optZ _ | exact st_optA _ | refine Sticky.bind ?_ (fun _ => ?_) | split)) ?_
  rintro c u ⟨a1, v1, b1, rfl, ⟨rfl, l1⟩, a2, v2, b2, rfl, ⟨rfl, h2⟩, a3, ver, b3, rfl, ⟨rfl, h3⟩, a4, thr, b4, rfl, ⟨rfl, l4⟩, a5, n1, b5, rfl, ⟨rfl, l5⟩, a6, v6, b6, rfl, ⟨rfl, h6⟩, a7, v7, b7, rfl, rfl, rfl, rfl⟩
  obtain rfl := byteI_eq (k := 10) h2 l1
  have hlt := leN_lt a4
  rw [l4] at hlt
  have em : ((leN a4 : Nat) : Int) % 4294967296 = ((leN a4 : Nat) : Int) := by omega
  refine ⟨?_, h3, by dsimp only; omega, l5, by simpa using h6⟩
  dsimp only
  rw [em, fixB_leN a4 4 l4]
  simp
theorem inv_greetC : Inv greetC (fun c h => c = fixB (h.1 % 65536) 2 ++ [UInt8.ofNat h.2.1.toNat] ++ fixB h.2.2 2 ++ fixB (h.1 / 65536) 2 ∧ (0 ≤ h.1 ∧ h.1 < 4294967296) ∧ hasC h.1 33280 = true ∧ (0 ≤ h.2.1 ∧ h.2.1 < 256) ∧ (0 ≤ h.2.2 ∧ h.2.2 < 65536)) := by
  unfold greetC
  refine Inv.weaken (Inv.bind (Inv.rX 2) (fun _ => Inv.bind (Inv.chk _) (fun _ => Inv.bind (Inv.rB 1) (fun _ => Inv.bind (Inv.rX 2) (fun _ => Inv.bind (Inv.rX 2) (fun _ => Inv.pure _) (by intros; repeat' first | exact Sticky.pure _ | exact Sticky.rB _ | exact Sticky.rX _ | exact Sticky.chk _ | exact Sticky.r0 _ | exact Sticky.rZ | exact Sticky.rU | exact Sticky.rA | exact st_resp _ | exact st_optZ _ | exact st_optA _ | refine Sticky.bind ?_ (fun _ => ?_) | split)) (by intros; repeat' first | exact Sticky.pure _ | exact Sticky.rB _ | exact Sticky.rX _ | exact Sticky.chk _ | exact Sticky.r0 _ | exact Sticky.rZ | exact Sticky.rU | exact Sticky.rA | exact st_resp _ | exact st_optZ _ | exact st_optA _ | refine Sticky.bind ?_ (fun _ => ?_) | split)) (by intros; repeat' first | exact Sticky.pure _ | exact Sticky.rB _ | exact Sticky.rX _ | exact Sticky.chk _ | exact Sticky.r0 _ | exact Sticky.rZ | exact Sticky.rU | exact Sticky.rA | exact st_resp _ | exact st_optZ _ | exact st_optA _ | refine Sticky.bind ?_ (fun _ => ?_) | split)) (by intros; repeat' first | exact Sticky.pure _ | exact Sticky.rB _ | exact Sticky.rX _ | exact Sticky.chk _ | exact Sticky.r0 _ | exact Sticky.rZ | exact Sticky.rU | exact Sticky.rA | exact st_resp _ | exact st_optZ _ | exact st_optA _ | refine Sticky.bind ?_ (fun _ => ?_) | split)) (by intros; repeat' first | exact Sticky.pure _ | exact Sticky.rB _ | exact Sticky.rX _ | exact Sticky.chk _ | exact Sticky.r0 _ | exact Sticky.rZ | exact Sticky.rU | exact Sticky.rA | exact st_resp _ | exact st_optZ _ | exact st_optA _ | refine Sticky.bind ?_ (fun _ => ?_) | split)) ?_
  rintro c u ⟨a1, v1, b1, rfl, ⟨rfl, l1⟩, a2, v2, b2, rfl, ⟨rfl, h2⟩, a3, v3, b3, rfl, ⟨rfl, l3⟩, a4, v4, b4, rfl, ⟨rfl, l4⟩, a5, v5, b5, rfl, ⟨rfl, l5⟩, rfl, rfl⟩
  have q1 := leN_lt a1
  rw [l1] at q1
  have q4 := leN_lt a4
  rw [l4] at q4
  have q5 := leN_lt a5
  rw [l5] at q5
  have hcp := capsOr_eq (leN a1 : Nat) (leN a5 : Nat) (by omega) (by omega) (by omega) (by omega)
  have e1 : capsOr (leN a1 : Nat) (leN a5 : Nat) % 65536 = (leN a1 : Nat) := by rw [hcp]; omega
  have e2 : capsOr (leN a1 : Nat) (leN a5 : Nat) / 65536 = (leN a5 : Nat) := by rw [hcp]; omega
  have e4 : ((leN a4 : Nat) : Int) % 65536 = ((leN a4 : Nat) : Int) := by omega
  have hb : 0 ≤ byteI v3 ∧ byteI v3 < 256 := by unfold byteI; have := (v3.getD 0 0).toNat_lt; omega
  have hrange : 0 ≤ capsOr (leN a1 : Nat) (leN a5 : Nat) ∧ capsOr (leN a1 : Nat) (leN a5 : Nat) < 4294967296 := by rw [hcp]; omega
  have hcore : hasC (capsOr (leN a1 : Nat) (leN a5 : Nat)) 33280 = true := by
    rw [← hasC_low _ hrange.1 hrange.2, e1]
    have e : ((leN a1 : Nat) : Int) % 4294967296 = (leN a1 : Nat) := by omega
    rw [e] at h2
    simpa using h2
  have hb3 : [UInt8.ofNat (byteI v3).toNat] = v3 := by
    match v3, l3 with
    | [b], _ => unfold byteI; simp
  refine ⟨?_, hrange, hcore, hb, by dsimp only; omega⟩
  dsimp only
  rw [e1, e2, e4, fixB_leN a1 2 l1, fixB_leN a4 2 l4, fixB_leN a5 2 l5, hb3]
  simp
theorem inv_greetT (cc : Int) : Inv (greetT cc) (fun c h => c = [if hasC cc 524288 then 21 else 0] ++ List.replicate 10 0 ++ h.1 ++ [0] ++ endB (hasC cc 524288) h.2 ∧ h.1.length = 12 ∧ nonceOk h.1 = true ∧ h.2.contains 0 = false ∧ (h.2 = [] ∨ hasC cc 524288 = true)) := by
  unfold greetT
  refine Inv.weaken (Inv.bind (Inv.rB 1) (fun _ => Inv.bind (Inv.chk _) (fun _ => Inv.bind (Inv.r0 10) (fun _ => Inv.bind (Inv.rB 12) (fun _ => Inv.bind (Inv.chk _) (fun _ => Inv.bind (Inv.r0 1) (fun _ => Inv.bind (inv_optZ _) (fun _ => Inv.pure _) (by intros; repeat' first | exact Sticky.pure _ | exact Sticky.rB _ | exact Sticky.rX _ | exact Sticky.chk _ | exact Sticky.r0 _ | exact Sticky.rZ | exact Sticky.rU | exact Sticky.rA | exact st_resp _ | exact st_optZ _ | exact st_optA _ | refine Sticky.bind ?_ (fun _ => ?_) | split)) (by intros; repeat' first | exact Sticky.pure _ | exact Sticky.rB _ | exact Sticky.rX _ | exact Sticky.chk _ | exact Sticky.r0 _ | exact Sticky.rZ | exact Sticky.rU | exact Sticky.rA | exact st_resp _ | exact st_optZ _ | exact st_optA _ | refine Sticky.bind ?_ (fun _ => ?_) | split)) (by intros; repeat' first | exact Sticky.pure _ | exact Sticky.rB _ | exact Sticky.rX _ | exact Sticky.chk _ | exact Sticky.r0 _ | exact Sticky.rZ | exact Sticky.rU | exact Sticky.rA | exact st_resp _ | exact st_optZ _ | exact st_optA _ | refine Sticky.bind ?_ (fun _ => ?_) | split)) (by intros; repeat' first | exact Sticky.pure _ | exact Sticky.rB _ | exact Sticky.rX _ | exact Sticky.chk _ | exact Sticky.r0 _ | exact Sticky.rZ | exact Sticky.rU | exact Sticky.rA | exact st_resp _ | exact st_optZ _ | exact st_optA _ | refine Sticky.bind ?_ (fun _ => ?_) | split)) (by intros; repeat' first | exact Sticky.pure _ | exact Sticky.rB _ | exact Sticky.rX _ | exact Sticky.chk _ | exact Sticky.r0 _ | exact Sticky.rZ | exact Sticky.rU | exact Sticky.rA | exact st_resp _ | exact st_optZ _ | exact st_optA _ | refine Sticky.bind ?_ (fun _ => ?_) | split)) (by intros; repeat' first | exact Sticky.pure _ | exact Sticky.rB _ | exact Sticky.rX _ | exact Sticky.chk _ | exact Sticky.r0 _ | exact Sticky.rZ | exact Sticky.rU | exact Sticky.rA | exact st_resp _ | exact st_optZ _ | exact st_optA _ | refine Sticky.bind ?_ (fun _ => ?_) | split)) (by intros; repeat' first | exact Sticky.pure _ | exact Sticky.rB _ | exact Sticky.rX _ | exact Sticky.chk _ | exact Sticky.r0 _ | exact Sticky.rZ | exact Sticky.rU | exact Sticky.rA | exact st_resp _ | exact st_optZ _ | exact st_optA _ | refine Sticky.bind ?_ (fun _ => ?_) | split)) ?_
  rintro c u ⟨a1, v1, b1, rfl, ⟨rfl, l1⟩, a2, v2, b2, rfl, ⟨rfl, h2⟩, a3, v3, b3, rfl, rfl, a4, n2, b4, rfl, ⟨rfl, l4⟩, a5, v5, b5, rfl, ⟨rfl, h5⟩, a6, v6, b6, rfl, rfl, a7, pl, b7, rfl, ⟨rfl, h7, h7'⟩, rfl, rfl⟩
  have e1 : v1 = [if hasC cc 524288 then 21 else 0] := by
    unfold plugN at h2
    cases hk : hasC cc 524288 with
    | true => rw [hk] at h2; exact byteI_eq (k := 21) h2 l1
    | false => rw [hk] at h2; exact byteI_eq (k := 0) h2 l1
  refine ⟨?_, l4, by simpa using h5, h7, h7'⟩
  rw [e1]
  simp
theorem inv_greet : Inv greetM (fun c g => c = greetB g ∧ GreOk g) := by
  unfold greetM
  refine Inv.weaken (Inv.bind inv_greetH (fun _ => Inv.bind inv_greetC (fun _ => Inv.bind (inv_greetT _) (fun _ => Inv.pure _) (fun _ => Sticky.pure _)) (fun _ => Sticky.bind (st_greetT _) (fun _ => Sticky.pure _))) (fun _ => Sticky.bind st_greetC (fun _ => Sticky.bind (st_greetT _) (fun _ => Sticky.pure _)))) ?_
  rintro c u ⟨a1, h, b1, rfl, ⟨e1, p1, p2, p3, p4⟩, a2, k, b2, rfl, ⟨e2, q1, q2, q3, q4⟩, a3, t, b3, rfl, ⟨e3, r1, r2, r3, r4⟩, rfl, rfl⟩
  refine ⟨?_, p1, r3, by dsimp only; rw [List.length_append, p3, r1], by dsimp only; rw [nonceOk_append, p4, r2]; rfl, q2, r4, p2, q1, q3, q4⟩
  have g1 : (h.2.2 ++ t.1).take 8 = h.2.2 := by rw [← p3, List.take_left]
  have g2 : (h.2.2 ++ t.1).drop 8 = t.1 := by rw [← p3, List.drop_left]
  rw [e1, e2, e3]
  simp only [greetB, greetBs, g1, g2]
  simp
end Go.Proofs.YtbodppfpmpmadaaGreat
