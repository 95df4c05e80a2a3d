import Derived.Test.YtbodppfpmpmadaaGreatL9C
namespace Go.Proofs.YtbodppfpmpmadaaGreat
open Go.RowKit

theorem Eats.cast {α : Type} {p : Rdp α} {c d : List UInt8} {v : α} (h : Eats p c v) (e : c = d) : Eats p d v := e ▸ h
theorem Inv.weaken {α : Type} {p : Rdp α} {R S : List UInt8 → α → Prop} (h : Inv p R) (k : ∀ c v, R c v → S c v) : Inv p S := fun l v l' q => by
  obtain ⟨c, h1, h2⟩ := h l v l' q
  exact ⟨c, h1, k c v h2⟩
theorem Eats.chkOf (b : Bool) (h : b = false) : Eats (chkR (rW b)) [] () := by subst h; exact Eats.chk
def byteI (l : List UInt8) : Int := ((l.getD 0 0).toNat : Int)
def overP {α : Type} (p : Rdp α) (z : α) (l : List UInt8) : α × Int := (if (rO (p (l, 0)).2).2 = 0 then (p (l, 0)).1 else z, (rO (p (l, 0)).2).2)
theorem overP_full {α : Type} {p : Rdp α} {z v : α} {c : List UInt8} (h : Eats p c v) : overP p z c = (v, 0) := over_full h.1 rO rfl
theorem overP_inv {α : Type} {p : Rdp α} {z v : α} {l : List UInt8} {R : List UInt8 → α → Prop} (h : Inv p R) (hz : overP p z l = (v, 0)) : R l v := by
  unfold overP at hz
  injection hz with h1 h2
  rw [if_pos h2] at h1
  rw [← h1]
  exact over_inv h h2
def switchM : Rdp (List UInt8 × List UInt8) :=
  bindR (rB 1) fun v => bindR (chkR (rW (byteI v != 254))) fun _ => bindR rZ fun pl => bindR (rB 20) fun n => bindR (chkR (rW (!nonceOk n))) fun _ => bindR (chkR (r0 1)) fun _ => pureR (pl, n)
def switchB (s : List UInt8 × List UInt8) : List UInt8 := [254] ++ s.1 ++ [0] ++ s.2 ++ [0]
def switchOk (s : List UInt8 × List UInt8) : Prop := s.1.contains 0 = false ∧ s.2.length = 20 ∧ nonceOk s.2 = true
structure AnsV where
  caps : Int
  most : Int
  ch : Int
  user : List UInt8
  resp : List UInt8
  db : List UInt8
  pl : List UInt8
  at_ : Pairs
def ans0 : AnsV := ⟨0, 0, 0, [], [], [], [], []⟩
def respM (f : Bool) : Rdp (List UInt8) :=
  if f then bindR rU fun r => bindR (chkR (rW (decide (255 < r.length)))) fun _ => pureR r else bindR (rB 1) fun n => rB (n.getD 0 0).toNat
def optZ (f : Bool) : Rdp (List UInt8) := if f then rZ else pureR []
def optA (f : Bool) : Rdp Pairs := if f then rA else pureR []
def answerM : Rdp AnsV :=
  bindR (rX 4) fun cp => bindR (chkR (rW (!hasC (cp % 4294967296) 33280))) fun _ => bindR (rX 4) fun most => bindR (rB 1) fun ch => bindR (chkR (r0 23)) fun _ => bindR rZ fun user =>
  bindR (respM (hasC (cp % 4294967296) 2097152)) fun resp => bindR (optZ (hasC (cp % 4294967296) 8)) fun db => bindR (optZ (hasC (cp % 4294967296) 524288)) fun pl => bindR (optA (hasC (cp % 4294967296) 1048576)) fun at_ =>
  pureR ⟨cp % 4294967296, most % 4294967296, byteI ch, user, resp, db, pl, at_⟩
def respB (f : Bool) (r : List UInt8) : List UInt8 := if f then textB r else UInt8.ofNat r.length :: r
def endB (f : Bool) (s : List UInt8) : List UInt8 := if f then s ++ [0] else []
def attB (f : Bool) (ps : Pairs) : List UInt8 := if f then textB (attrsB ps) else []
def answerB (a : AnsV) : List UInt8 :=
  fixB a.caps 4 ++ (fixB a.most 4 ++ (UInt8.ofNat a.ch.toNat :: (List.replicate 23 0 ++ ((a.user ++ [0]) ++ (respB (hasC a.caps 2097152) a.resp ++ (endB (hasC a.caps 8) a.db ++ (endB (hasC a.caps 524288) a.pl ++ attB (hasC a.caps 1048576) a.at_)))))))
structure AnsOk (a : AnsV) : Prop where
  caps : 0 ≤ a.caps ∧ a.caps < 4294967296
  most : 0 ≤ a.most ∧ a.most < 4294967296
  ch : 0 ≤ a.ch ∧ a.ch < 256
  core : hasC a.caps 33280 = true
  user : a.user.contains 0 = false
  db : a.db.contains 0 = false
  pl : a.pl.contains 0 = false
  dbF : a.db = [] ∨ hasC a.caps 8 = true
  plF : a.pl = [] ∨ hasC a.caps 524288 = true
  resp : a.resp.length ≤ 255
  at1 : a.at_.length ≤ 64
  atF : a.at_ = [] ∨ hasC a.caps 1048576 = true
theorem st_resp (f : Bool) : Sticky (respM f) := by unfold respM; exact (by intros; repeat' first | exact Sticky.pure _ | exact Sticky.rB _ | exact Sticky.rX _ | exact Sticky.chk _ | exact Sticky.r0 _ | exact Sticky.rZ | exact Sticky.rU | exact Sticky.rA | refine Sticky.bind ?_ (fun _ => ?_) | split)
theorem st_optZ (f : Bool) : Sticky (optZ f) := by unfold optZ; exact (by intros; repeat' first | exact Sticky.pure _ | exact Sticky.rB _ | exact Sticky.rX _ | exact Sticky.chk _ | exact Sticky.r0 _ | exact Sticky.rZ | exact Sticky.rU | exact Sticky.rA | refine Sticky.bind ?_ (fun _ => ?_) | split)
theorem st_optA (f : Bool) : Sticky (optA f) := by unfold optA; exact (by intros; repeat' first | exact Sticky.pure _ | exact Sticky.rB _ | exact Sticky.rX _ | exact Sticky.chk _ | exact Sticky.r0 _ | exact Sticky.rZ | exact Sticky.rU | exact Sticky.rA | refine Sticky.bind ?_ (fun _ => ?_) | split)
theorem eats_resp (f : Bool) (r : List UInt8) (h : r.length ≤ 255) : Eats (respM f) (respB f r) r := by
  unfold respM respB
  cases f with
  | true =>
    simp only [↓reduceIte]
    refine Eats.cast (c := textB r ++ ([] ++ [])) ?_ (by simp)
    refine Eats.bind (Eats.rU r (by omega)) ?_ (by intros; repeat' first | exact Sticky.pure _ | exact Sticky.rB _ | exact Sticky.rX _ | exact Sticky.chk _ | exact Sticky.r0 _ | exact Sticky.rZ | exact Sticky.rU | exact Sticky.rA | refine Sticky.bind ?_ (fun _ => ?_) | split)
    refine Eats.bind (Eats.chkOf _ (by simp; omega)) ?_ (by intros; repeat' first | exact Sticky.pure _ | exact Sticky.rB _ | exact Sticky.rX _ | exact Sticky.chk _ | exact Sticky.r0 _ | exact Sticky.rZ | exact Sticky.rU | exact Sticky.rA | refine Sticky.bind ?_ (fun _ => ?_) | split)
    exact Eats.pure _
  | false =>
    simp only [Bool.false_eq_true, ↓reduceIte]
    refine Eats.cast (c := [UInt8.ofNat r.length] ++ r) ?_ (by simp)
    refine Eats.bind (Eats.rB 1 [UInt8.ofNat r.length] rfl) ?_ (by intros; repeat' first | exact Sticky.pure _ | exact Sticky.rB _ | exact Sticky.rX _ | exact Sticky.chk _ | exact Sticky.r0 _ | exact Sticky.rZ | exact Sticky.rU | exact Sticky.rA | refine Sticky.bind ?_ (fun _ => ?_) | split)
    have e : (([UInt8.ofNat r.length] : List UInt8).getD 0 0).toNat = r.length := by
      show (UInt8.ofNat r.length).toNat = _
      rw [UInt8.toNat_ofNat']; omega
    rw [e]
    exact Eats.rB _ r rfl
theorem eats_optZ (f : Bool) (s : List UInt8) (h : s.contains 0 = false) (hf : s = [] ∨ f = true) : Eats (optZ f) (endB f s) s := by
  unfold optZ endB
  cases f with
  | true => exact Eats.rZ s h
  | false =>
    obtain rfl : s = [] := hf.resolve_right (by decide)
    exact Eats.pure _
theorem eats_optA (f : Bool) (ps : Pairs) (h64 : ps.length ≤ 64) (hs : smallA ps) (hl : (attrsB ps).length ≤ 100000000) (hf : ps = [] ∨ f = true) : Eats (optA f) (attB f ps) ps := by
  unfold optA attB
  cases f with
  | true => exact Eats.rA ps h64 hs hl
  | false =>
    obtain rfl : ps = [] := hf.resolve_right (by decide)
    exact Eats.pure _
theorem leN_fix4 (x : Int) (n : Nat) (h0 : 0 ≤ x) (h1 : x < 2 ^ (8 * n)) : ((leN (fixB x n) : Nat) : Int) = x := by
  obtain ⟨k, rfl⟩ : ∃ k : Nat, x = (k : Int) := ⟨x.toNat, by omega⟩
  rw [leN_fixB]
  have : k < 2 ^ (8 * n) := by exact_mod_cast h1
  rw [Nat.mod_eq_of_lt this]
theorem byteI_of (x : Int) (h : 0 ≤ x ∧ x < 256) : byteI [UInt8.ofNat x.toNat] = x := by
  show (((UInt8.ofNat x.toNat).toNat : Nat) : Int) = x
  rw [UInt8.toNat_ofNat']; omega
theorem eats_answer (a : AnsV) (h : AnsOk a) (hs : smallA a.at_) (hl : (attrsB a.at_).length ≤ 100000000) : Eats answerM (answerB a) a := by
  have e4 := leN_fix4 a.caps 4 h.caps.1 (by have := h.caps.2; omega)
  have em := leN_fix4 a.most 4 h.most.1 (by have := h.most.2; omega)
  have ec := byteI_of a.ch h.ch
  have c1 : ((leN (fixB a.caps 4) : Nat) : Int) % 4294967296 = a.caps := by rw [e4]; have := h.caps; omega
  have c2 : ((leN (fixB a.most 4) : Nat) : Int) % 4294967296 = a.most := by rw [em]; have := h.most; omega
  have e : answerB a = fixB a.caps 4 ++ ([] ++ (fixB a.most 4 ++ ([UInt8.ofNat a.ch.toNat] ++ (List.replicate 23 0 ++ ((a.user ++ [0]) ++ (respB (hasC a.caps 2097152) a.resp ++ (endB (hasC a.caps 8) a.db ++ (endB (hasC a.caps 524288) a.pl ++ (attB (hasC a.caps 1048576) a.at_ ++ []))))))))) := by simp [answerB]
  rw [e]
  unfold answerM
  refine Eats.bind (Eats.rX 4 (fixB a.caps 4) (fixB_length _ _)) ?_ (by intros; repeat' first | exact Sticky.pure _ | exact Sticky.rB _ | exact Sticky.rX _ | exact Sticky.chk _ | exact Sticky.r0 _ | exact Sticky.rZ | exact Sticky.rU | exact Sticky.rA | exact st_resp _ | exact st_optZ _ | exact st_optA _ | refine Sticky.bind ?_ (fun _ => ?_) | split)
  rw [c1]
  refine Eats.bind (Eats.chkOf _ (by rw [h.core]; rfl)) ?_ (by intros; repeat' first | exact Sticky.pure _ | exact Sticky.rB _ | exact Sticky.rX _ | exact Sticky.chk _ | exact Sticky.r0 _ | exact Sticky.rZ | exact Sticky.rU | exact Sticky.rA | exact st_resp _ | exact st_optZ _ | exact st_optA _ | refine Sticky.bind ?_ (fun _ => ?_) | split)
  refine Eats.bind (Eats.rX 4 (fixB a.most 4) (fixB_length _ _)) ?_ (by intros; repeat' first | exact Sticky.pure _ | exact Sticky.rB _ | exact Sticky.rX _ | exact Sticky.chk _ | exact Sticky.r0 _ | exact Sticky.rZ | exact Sticky.rU | exact Sticky.rA | exact st_resp _ | exact st_optZ _ | exact st_optA _ | refine Sticky.bind ?_ (fun _ => ?_) | split)
  rw [c2]
  refine Eats.bind (Eats.rB 1 [UInt8.ofNat a.ch.toNat] rfl) ?_ (by intros; repeat' first | exact Sticky.pure _ | exact Sticky.rB _ | exact Sticky.rX _ | exact Sticky.chk _ | exact Sticky.r0 _ | exact Sticky.rZ | exact Sticky.rU | exact Sticky.rA | exact st_resp _ | exact st_optZ _ | exact st_optA _ | refine Sticky.bind ?_ (fun _ => ?_) | split)
  rw [ec]
  refine Eats.bind (Eats.r0 23) ?_ (by intros; repeat' first | exact Sticky.pure _ | exact Sticky.rB _ | exact Sticky.rX _ | exact Sticky.chk _ | exact Sticky.r0 _ | exact Sticky.rZ | exact Sticky.rU | exact Sticky.rA | exact st_resp _ | exact st_optZ _ | exact st_optA _ | refine Sticky.bind ?_ (fun _ => ?_) | split)
  refine Eats.bind (Eats.rZ a.user h.user) ?_ (by intros; repeat' first | exact Sticky.pure _ | exact Sticky.rB _ | exact Sticky.rX _ | exact Sticky.chk _ | exact Sticky.r0 _ | exact Sticky.rZ | exact Sticky.rU | exact Sticky.rA | exact st_resp _ | exact st_optZ _ | exact st_optA _ | refine Sticky.bind ?_ (fun _ => ?_) | split)
  refine Eats.bind (eats_resp _ a.resp h.resp) ?_ (by intros; repeat' first | exact Sticky.pure _ | exact Sticky.rB _ | exact Sticky.rX _ | exact Sticky.chk _ | exact Sticky.r0 _ | exact Sticky.rZ | exact Sticky.rU | exact Sticky.rA | exact st_resp _ | exact st_optZ _ | exact st_optA _ | refine Sticky.bind ?_ (fun _ => ?_) | split)
  refine Eats.bind (eats_optZ _ a.db h.db h.dbF) ?_ (by intros; repeat' first | exact Sticky.pure _ | exact Sticky.rB _ | exact Sticky.rX _ | exact Sticky.chk _ | exact Sticky.r0 _ | exact Sticky.rZ | exact Sticky.rU | exact Sticky.rA | exact st_resp _ | exact st_optZ _ | exact st_optA _ | refine Sticky.bind ?_ (fun _ => ?_) | split)
  refine Eats.bind (eats_optZ _ a.pl h.pl h.plF) ?_ (by intros; repeat' first | exact Sticky.pure _ | exact Sticky.rB _ | exact Sticky.rX _ | exact Sticky.chk _ | exact Sticky.r0 _ | exact Sticky.rZ | exact Sticky.rU | exact Sticky.rA | exact st_resp _ | exact st_optZ _ | exact st_optA _ | refine Sticky.bind ?_ (fun _ => ?_) | split)
  refine Eats.bind (eats_optA _ a.at_ h.at1 hs hl h.atF) ?_ (by intros; repeat' first | exact Sticky.pure _ | exact Sticky.rB _ | exact Sticky.rX _ | exact Sticky.chk _ | exact Sticky.r0 _ | exact Sticky.rZ | exact Sticky.rU | exact Sticky.rA | exact st_resp _ | exact st_optZ _ | exact st_optA _ | refine Sticky.bind ?_ (fun _ => ?_) | split)
  exact Eats.pure _
theorem inv_resp (f : Bool) : Inv (respM f) (fun c r => (respB f r).length ≤ c.length ∧ r.length ≤ 255) := by
  unfold respM respB
  cases f with
  | true =>
    simp only [↓reduceIte]
    refine Inv.weaken (Inv.bind (Inv.rU) (fun _ => Inv.bind (Inv.chk _) (fun _ => Inv.pure _) (by intros; repeat' first | exact Sticky.pure _ | exact Sticky.rB _ | exact Sticky.rX _ | exact Sticky.chk _ | exact Sticky.r0 _ | exact Sticky.rZ | exact Sticky.rU | exact Sticky.rA | refine Sticky.bind ?_ (fun _ => ?_) | split)) (by intros; repeat' first | exact Sticky.pure _ | exact Sticky.rB _ | exact Sticky.rX _ | exact Sticky.chk _ | exact Sticky.r0 _ | exact Sticky.rZ | exact Sticky.rU | exact Sticky.rA | refine Sticky.bind ?_ (fun _ => ?_) | split)) ?_
    rintro c u ⟨a1, v1, b1, rfl, h1, a2, v2, b2, rfl, ⟨rfl, h2⟩, rfl, rfl⟩
    refine ⟨?_, by simpa using h2⟩
    simpa using h1
  | false =>
    simp only [Bool.false_eq_true, ↓reduceIte]
    refine Inv.weaken (Inv.bind (Inv.rB 1) (fun n => Inv.rB (n.getD 0 0).toNat) (by intros; repeat' first | exact Sticky.pure _ | exact Sticky.rB _ | exact Sticky.rX _ | exact Sticky.chk _ | exact Sticky.r0 _ | exact Sticky.rZ | exact Sticky.rU | exact Sticky.rA | refine Sticky.bind ?_ (fun _ => ?_) | split)) ?_
    rintro c u ⟨a1, v1, b1, rfl, ⟨rfl, h1⟩, rfl, h2⟩
    have := (v1.getD 0 0).toNat_lt
    refine ⟨?_, by omega⟩
    rw [List.length_append, List.length_cons]
    omega
theorem inv_optZ (f : Bool) : Inv (optZ f) (fun c s => c = endB f s ∧ s.contains 0 = false ∧ (s = [] ∨ f = true)) := by
  unfold optZ endB
  cases f with
  | true => exact Inv.weaken Inv.rZ (fun c v h => ⟨h.1, h.2, .inr rfl⟩)
  | false => exact Inv.weaken (Inv.pure _) (fun c v h => ⟨h.1, by rw [h.2]; rfl, .inl h.2⟩)
theorem inv_optA (f : Bool) : Inv (optA f) (fun c s => (attB f s).length ≤ c.length ∧ s.length ≤ 64 ∧ (attrsB s).length ≤ c.length ∧ (s = [] ∨ f = true)) := by
  unfold optA attB
  cases f with
  | true => exact Inv.weaken Inv.rA (fun c v h => ⟨h.1, h.2.1, h.2.2, .inr rfl⟩)
  | false => exact Inv.weaken (Inv.pure _) (fun c v h => ⟨by simp, by rw [h.2]; simp, by rw [h.2]; simp [attrsB], .inl h.2⟩)
theorem inv_answer : Inv answerM (fun c a => (answerB a).length ≤ c.length ∧ AnsOk a ∧ (attrsB a.at_).length ≤ c.length) := by
  unfold answerM
  refine Inv.weaken (Inv.bind (Inv.rX 4) (fun cp => Inv.bind (Inv.chk _) (fun _ => Inv.bind (Inv.rX 4) (fun _ => Inv.bind (Inv.rB 1) (fun _ => Inv.bind (Inv.r0 23) (fun _ => Inv.bind (Inv.rZ) (fun _ => Inv.bind (inv_resp _) (fun _ => Inv.bind (inv_optZ _) (fun _ => Inv.bind (inv_optZ _) (fun _ => Inv.bind (inv_optA _) (fun _ => Inv.pure _) (by intros; repeat' first | exact Sticky.pure _ | exact Sticky.rB _ | exact Sticky.rX _ | exact Sticky.chk _ | exact Sticky.r0 _ | exact Sticky.rZ | exact Sticky.rU | exact Sticky.rA | exact st_resp _ | exact st_optZ _ | exact st_optA _ | refine Sticky.bind ?_ (fun _ => ?_) | split)) (by intros; repeat' first | exact Sticky.pure _ | exact Sticky.rB _ | exact Sticky.rX _ | exact Sticky.chk _ | exact Sticky.r0 _ | exact Sticky.rZ | exact Sticky.rU | exact Sticky.rA | exact st_resp _ | exact st_optZ _ | exact st_optA _ | refine Sticky.bind ?_ (fun _ => ?_) | split)) (by intros; repeat' first | exact Sticky.pure _ | exact Sticky.rB _ | exact Sticky.rX _ | exact Sticky.chk _ | exact Sticky.r0 _ | exact Sticky.rZ | exact Sticky.rU | exact Sticky.rA | exact st_resp _ | exact st_optZ _ | exact st_optA _ | refine Sticky.bind ?_ (fun _ => ?_) | split)) (by intros; repeat' first | exact Sticky.pure _ | exact Sticky.rB _ | exact Sticky.rX _ | exact Sticky.chk _ | exact Sticky.r0 _ | exact Sticky.rZ | exact Sticky.rU | exact Sticky.rA | exact st_resp _ | exact st_optZ _ | exact st_optA _ | refine Sticky.bind ?_ (fun _ => ?_) | split)) (by intros; repeat' first | exact Sticky.pure _ | exact Sticky.rB _ | exact Sticky.rX _ | exact Sticky.chk _ | exact Sticky.r0 _ | exact Sticky.rZ | exact Sticky.rU | exact Sticky.rA | exact st_resp _ | exact st_optZ _ | exact st_optA _ | refine Sticky.bind ?_ (fun _ => ?_) | split)) (by intros; repeat' first | exact Sticky.pure _ | exact Sticky.rB _ | exact Sticky.rX _ | exact Sticky.chk _ | exact Sticky.r0 _ | exact Sticky.rZ | exact Sticky.rU | exact Sticky.rA | exact st_resp _ | exact st_optZ _ | exact st_optA _ | refine Sticky.bind ?_ (fun _ => ?_) | split)) (by intros; repeat' first | exact Sticky.pure _ | exact Sticky.rB _ | exact Sticky.rX _ | exact Sticky.chk _ | exact Sticky.r0 _ | exact Sticky.rZ | exact Sticky.rU | exact Sticky.rA | exact st_resp _ | exact st_optZ _ | exact st_optA _ | refine Sticky.bind ?_ (fun _ => ?_) | split)) (by intros; repeat' first | exact Sticky.pure _ | exact Sticky.rB _ | exact Sticky.rX _ | exact Sticky.chk _ | exact Sticky.r0 _ | exact Sticky.rZ | exact Sticky.rU | exact Sticky.rA | exact st_resp _ | exact st_optZ _ | exact st_optA _ | refine Sticky.bind ?_ (fun _ => ?_) | split)) (by intros; repeat' first | exact Sticky.pure _ | exact Sticky.rB _ | exact Sticky.rX _ | exact Sticky.chk _ | exact Sticky.r0 _ | exact Sticky.rZ | exact Sticky.rU | exact Sticky.rA | exact st_resp _ | exact st_optZ _ | exact st_optA _ | refine Sticky.bind ?_ (fun _ => ?_) | split)) (by intros; repeat' first | exact Sticky.pure _ | exact Sticky.rB _ | exact Sticky.rX _ | exact Sticky.chk _ | exact Sticky.r0 _ | exact Sticky.rZ | exact Sticky.rU | exact Sticky.rA | exact st_resp _ | exact st_optZ _ | exact st_optA _ | refine Sticky.bind ?_ (fun _ => ?_) | split)) ?_
  rintro c u ⟨a1, cp, b1, rfl, ⟨rfl, l1⟩, a2, v2, b2, rfl, ⟨rfl, h2⟩, a3, mo, b3, rfl, ⟨rfl, l3⟩, a4, ch, b4, rfl, ⟨rfl, l4⟩, a5, v5, b5, rfl, rfl, a6, us, b6, rfl, ⟨rfl, h6⟩, a7, re, b7, rfl, ⟨h7, h7'⟩, a8, db, b8, rfl, ⟨rfl, h8, h8'⟩, a9, pl, b9, rfl, ⟨rfl, h9, h9'⟩, a10, at_, b10, rfl, ⟨h10, h10', h10'', h10f⟩, rfl, rfl⟩
  have hb : 0 ≤ byteI ch ∧ byteI ch < 256 := by unfold byteI; have := (ch.getD 0 0).toNat_lt; omega
  refine ⟨?_, ⟨by dsimp only; omega, by dsimp only; omega, hb, by simpa using h2, h6, h8, h9, h8', h9', h7', h10', h10f⟩, ?_⟩
  · simp only [answerB, List.length_append, List.length_cons, List.length_replicate, fixB_length, List.length_nil] at *
    omega
  · simp only [List.length_append] at *
    omega

end Go.Proofs.YtbodppfpmpmadaaGreat

