import Derived.Test.YtbodppfpmpmadaaGreatL16C
import Derived.Test.YtbodppfpmpmadaaGreatRfHC
import Derived.Test.YtbodppfpmpmadaaGreatL13C
import Derived.Test.YtbodppfpmpmadaaGreatL1C
import Derived.Deep.RegionHeld3
import Derived.Test.YtbodppfpmpmadaaGreatL2C
import Derived.Test.YtbodppfpmpmadaaGreatL3C
import Derived.Test.YtbodppfpmpmadaaGreatL6C
import Derived.Test.YtbodppfpmpmadaaGreatL11C
import Derived.Deep.Slices
import Derived.Test.YtbodppfpmpmadaaGreatL14C
import Derived.Test.YtbodppfpmpmadaaGreatL15C
namespace Go.Proofs.YtbodppfpmpmadaaGreat
open Go.RowKit

theorem stateR_c (w : World) (S : List Nat) (g : Nat) (D : DoorV) (h : RefIs w S g D) :
    Calls Tryz.prog 26 #[.pointer (some ⟨g, 0, none⟩)] w fun e w' => e = .returned (.int .i64 D.st) ∧ w = w' := by
  obtain ⟨K, aw, sv, h⟩ := h
  have c0 : w.cell? ⟨g, 0, none⟩ = some (.bool true) := h.box.at (j := 0) rfl
  have c10 : w.cell? ⟨g, 10, none⟩ = some (.int .i64 D.st) := h.box.at (j := 10) rfl
  clear h
  go_enter Tryz.func26, Tryz.ntmps26
  go_wp2_with (go_at_call 60; refine (noneR_c _ g c0).mono ?_; rintro e wx ⟨rfl, rfl⟩)
  go_ret
  exact ⟨rfl, rfl⟩
theorem capsR_c (w : World) (S : List Nat) (g : Nat) (D : DoorV) (h : RefIs w S g D) :
    Calls Tryz.prog 27 #[.pointer (some ⟨g, 0, none⟩)] w fun e w' => e = .returned (.int .u32 D.c) ∧ w = w' := by
  obtain ⟨K, aw, sv, h⟩ := h
  have c0 : w.cell? ⟨g, 0, none⟩ = some (.bool true) := h.box.at (j := 0) rfl
  have c11 : w.cell? ⟨g, 11, none⟩ = some (.int .u32 D.c) := h.box.at (j := 11) rfl
  clear h
  go_enter Tryz.func27, Tryz.ntmps27
  go_wp2_with (go_at_call 60; refine (noneR_c _ g c0).mono ?_; rintro e wx ⟨rfl, rfl⟩)
  go_ret
  exact ⟨rfl, rfl⟩
theorem schemaR_c (w : World) (S : List Nat) (g : Nat) (D : DoorV) (h : RefIs w S g D) :
    Calls Tryz.prog 29 #[.pointer (some ⟨g, 0, none⟩)] w fun e w' => e = .returned (.string (if D.st = 2 then strL D.sc else ByteArray.empty)) ∧ w = w' := by
  have HH := Lib.hid h
  obtain ⟨K, aw, sv, h⟩ := h
  by_cases hq : D.st = 2
  · have e := h.ok.sv (h.ok.two hq)
    subst e
    rw [if_pos hq]
    have c17 : w.cell? ⟨g, 17, none⟩ = some (.string (strL D.sc)) := h.box.at (j := 17) rfl
    have HQ := Lib.hid hq
    clear h hq
    go_enter Tryz.func29, Tryz.ntmps29
    go_wp2_with (go_at_call 26; refine (stateR_c _ S g D HH.out).mono ?_; rw [HQ.out]; rintro e wx ⟨rfl, rfl⟩)
    go_ret
    exact ⟨rfl, rfl⟩
  · rw [if_neg hq]
    obtain ⟨st, hst⟩ : ∃ st, D.st = st := ⟨_, rfl⟩
    rw [hst] at hq
    have hb : (st != 2) = true := by simp [hq]
    have HST := Lib.hid hst
    clear h hq hst
    go_enter Tryz.func29, Tryz.ntmps29
    go_wp2_with (go_at_call 26; refine (stateR_c _ S g D HH.out).mono ?_; rw [HST.out]; rintro e wx ⟨rfl, rfl⟩)
    go_ret
    exact ⟨rfl, rfl⟩
set_option maxHeartbeats 1000000 in
theorem userRf_c (w : World) (S : List Nat) (g : Nat) (D : DoorV) (h : RefIs w S g D) :
    Calls Tryz.prog 28 #[.pointer (some ⟨g, 0, none⟩)] w fun e w' => e = .returned (.agg (if D.st = 2 then userC D.u else user0).toArray) ∧ Ext w w' := by
  obtain ⟨K, aw, sv, h⟩ := h
  have HAT := Lib.hid h
  have HB := Lib.hid h.box
  have HU := Lib.hid (show ((rcs K D aw sv).drop 12).take 5 = userC D.u from rfl)
  by_cases hq : D.st = 2
  · rw [if_pos hq]
    have HQ := Lib.hid hq
    clear h hq
    go_enter Tryz.func28, Tryz.ntmps28
    go_wp2_with (first
      | ((with_reducible show AtS 2); refine wpl_alloc rfl _ rfl user0 (by kernel_rfl) ?_; intro w1 B1 hx1)
      | (go_at_call 26; refine (stateR_c _ S g D ⟨K, aw, sv, (show RefAt w S g D K aw sv from HAT.out).ext hx1⟩).mono ?_; rw [HQ.out]; rintro e wx ⟨rfl, rfl⟩)
      | ((with_reducible show AtS 10); refine wpl_load_p rfl _ _ rfl g 12 rfl [.string (strL D.u.name), .string (strL D.u.pw), .string (strL D.u.pl), .string (strL D.u.sc), .bool D.u.adm] _ ((HB.out.ext hx1).box.part 5 HU.out) Tryz.underlying32 rfl (by kernel_rfl) ?_)
      | ((with_reducible show AtW 32); refine wpl_store_box rfl _ _ _ rfl _ [.string (strL D.u.name), .string (strL D.u.pw), .string (strL D.u.pl), .string (strL D.u.sc), .bool D.u.adm] rfl rfl B1 rfl (by kernel_rfl) (by rfl) ?_; intro w2 B2 O2)
      | fail)
    try simp only [Exit.inBlock, Exit.then]
    refine ret_box1 rfl rfl rfl B2 Tryz.underlying32 rfl (by kernel_rfl) ?_
    exact ⟨rfl, hx1.on O2 (Nat.le_refl _)⟩
  · rw [if_neg hq]
    obtain ⟨st, hst⟩ : ∃ st, D.st = st := ⟨_, rfl⟩
    rw [hst] at hq
    have hb : (st != 2) = true := by simp [hq]
    have HST := Lib.hid hst
    clear h hq hst
    go_enter Tryz.func28, Tryz.ntmps28
    go_wp2_with (first
      | ((with_reducible show AtS 2); refine wpl_alloc rfl _ rfl user0 (by kernel_rfl) ?_; intro w1 B1 hx1)
      | (go_at_call 26; refine (stateR_c _ S g D ⟨K, aw, sv, (show RefAt w S g D K aw sv from HAT.out).ext hx1⟩).mono ?_; rw [HST.out]; rintro e wx ⟨rfl, rfl⟩)
      | ((with_reducible show AtW 32); refine wpl_store_box rfl _ _ _ rfl _ user0 rfl rfl B1 rfl (by kernel_rfl) (by rfl) ?_; intro w2 B2 O2)
      | fail)
    try simp only [Exit.inBlock, Exit.then]
    refine ret_box1 rfl rfl rfl B2 Tryz.underlying32 rfl (by kernel_rfl) ?_
    exact ⟨rfl, hx1.on O2 (Nat.le_refl _)⟩
theorem greF_ok {G : GreV} (h : GreOk G) : greF G.ver G.nonce G.pl G.caps = true := by
  have hck : checkE G.nonce = 0 := by
    have h3 := h.nonce
    unfold nonceOk at h3
    simp only [Bool.and_eq_true, Bool.not_eq_true'] at h3
    unfold checkE
    rw [if_pos ⟨h.n20, h3.1, h3.2⟩]
  unfold greF
  rw [h.ver, hck, h.core, h.pl]
  rcases h.plF with e | e
  · rw [e]; rfl
  · rw [e]; simp
set_option maxHeartbeats 1000000 in
theorem greetingRf_c (w : World) (S : List Nat) (g : Nat) (D : DoorV) (h : RefIs w S g D) :
    Calls Tryz.prog 31 #[.pointer (some ⟨g, 0, none⟩)] w (RetB w D.hello) := by
  obtain ⟨K, aw, sv, h⟩ := h
  have c0 : w.cell? ⟨g, 0, none⟩ = some (.bool true) := h.box.at (j := 0) rfl
  have HB := Lib.hid h.box
  have HU := Lib.hid (show ((rcs K D aw sv).drop 2).take 7 = [.string (strL K.G.ver), .int .u32 K.G.thr, .slice K.gA K.G.nonce.length K.gc, .int .u32 K.G.caps, .int .u8 K.G.ch, .int .u16 K.G.st, .string (strL K.G.pl)] from rfl)
  have HG := Lib.hid (appendGreetingR_g w K.G.ver K.G.nonce K.G.pl K.G.thr K.G.caps K.G.ch K.G.st _ h.gr h.gok.ver h.gok.pl h.gok.n20 (greF_ok h.gok) h.gok.thr h.gok.caps h.gok.ch h.gok.st h.glen.2 h.glen.1)
  have HE := Lib.hid h.hello
  clear h
  go_enter Tryz.func31, Tryz.ntmps31
  go_wp2_with (first
    | (go_at_call 60; refine (noneR_c _ g c0).mono ?_; rintro e wx ⟨rfl, rfl⟩)
    | ((with_reducible show AtS 11); refine wpl_load_p rfl _ _ rfl g 2 rfl [.string (strL K.G.ver), .int .u32 K.G.thr, .slice K.gA K.G.nonce.length K.gc, .int .u32 K.G.caps, .int .u8 K.G.ch, .int .u16 K.G.st, .string (strL K.G.pl)] _ (HB.out.box.part 7 HU.out) Tryz.underlying29 rfl (by kernel_rfl) ?_)
    | (go_at_call 58; refine HG.out.mono ?_; rintro e w1 ⟨v1, rfl, ho1, hx1⟩)
    | fail)
  go_ret
  exact ⟨_, rfl, HE.out ▸ ho1, hx1⟩
end Go.Proofs.YtbodppfpmpmadaaGreat

namespace Go.Proofs.YtbodppfpmpmadaaGreat
open Go.RowKit

def smallQ (ls : List (List UInt8)) : Bool := decide ((∀ j, j < ls.length → (ls.getD j []).length ≤ 3000) ∧ ls.length ≤ 100)
theorem small27_c (w : World) (v : Value) (ls : List (List UInt8)) (h : Lists w v ls) : Calls Tryz.prog 18 #[v] w fun e w' => e = .returned (.bool (smallQ ls)) ∧ w = w' := by
  obtain ⟨A, cap, rfl, hle, hm, hc⟩ := h
  obtain ⟨N, hN⟩ : ∃ N, N = ls.length := ⟨_, rfl⟩
  rw [← hN] at hle hc ⊢
  unfold maxLen at hm
  have HN := Lib.hid hN
  have HC := Lib.hid hc
  clear hN hc
  go_enter Tryz.func18, Tryz.ntmps18
  go_wp2_with fail
  go_loop [3] (fun i => ∃ k : Nat, k ≤ N ∧ i = .int .i64 k ∧ Hid (∀ j, j < k → (ls.getD j []).length ≤ 3000)) (fun i => N - (intOf i).toNat)
  case atStart => exact ⟨0, Nat.zero_le _, rfl, Lib.hid (fun j hj => by omega)⟩
  case round =>
    obtain ⟨k, hk, rfl, HJ⟩ := hrel
    by_cases hlt : k < N
    · have hki : (k : Int) < (N : Int) := by omega
      obtain ⟨b, o, rfl, hcs⟩ := HC.out (by intro e; have := HN.out; subst e; simp at this; omega)
      obtain ⟨u, hcu, hru⟩ := hcs k hlt
      obtain ⟨Au, cu, rfl, hl1, hl2, _⟩ := hru
      obtain ⟨L, hL⟩ : ∃ L, L = (ls.getD k []).length := ⟨_, rfl⟩
      rw [← hL] at hcu hl1
      unfold maxLen at hl2
      have HL := Lib.hid hL
      clear hcs hL
      by_cases h3 : L ≤ 3000
      · have h3i : ¬ (L : Int) > 3000 := by omega
        go_wp2_with fail
        go_round
        case rel =>
          refine ⟨k + 1, by omega, by go_num, Lib.hid (fun j hj => ?_)⟩
          rcases Nat.lt_succ_iff_lt_or_eq.1 hj with h9 | h9
          · exact HJ.out j h9
          · subst h9; rw [← HL.out]; exact h3
        case measure => simp [intOf]; omega
      · have h3i : (L : Int) > 3000 := by omega
        go_wp2_with fail
        go_ret
        exact ⟨congrArg (fun z => Ending.returned (.bool z)) (decide_eq_false (fun h => h3 (by rw [HL.out]; exact h.1 k (by rw [← HN.out]; exact hlt)))).symm, rfl⟩
    · obtain rfl : k = N := by omega
      have hki : ¬ (k : Int) < (k : Int) := by omega
      by_cases h100 : k ≤ 100
      · have h1 : (k : Int) ≤ 100 := by omega
        go_wp2_with fail
        go_ret
        exact ⟨congrArg (fun z => Ending.returned (.bool z)) (decide_eq_true ⟨fun j hj => HJ.out j (by rw [HN.out]; exact hj), by rw [← HN.out]; exact h100⟩).symm, rfl⟩
      · have h1 : ¬ (k : Int) ≤ 100 := by omega
        go_wp2_with fail
        go_ret
        exact ⟨congrArg (fun z => Ending.returned (.bool z)) (decide_eq_false (fun h => h100 (by rw [HN.out]; exact h.2))).symm, rfl⟩
set_option maxHeartbeats 1000000 in
theorem packets27_c (w : World) (va vb : Value) (ls : List (List UInt8)) (ha : Lists w va ls) (hb : Lists w vb ls) : Calls Tryz.prog 25 #[va, vb] w fun e w' => e = .returned (.bool true) ∧ Ext w w' := by
  obtain ⟨A, cap, rfl, hle, hm, hc⟩ := ha
  obtain ⟨B, cap2, rfl, hle2, hm2, hc2⟩ := hb
  obtain ⟨N, hN⟩ : ∃ N, N = ls.length := ⟨_, rfl⟩
  rw [← hN] at hle hc hle2 hc2 ⊢
  unfold maxLen at hm hm2
  have HN := Lib.hid hN
  have HC := Lib.hid hc
  have HC2 := Lib.hid hc2
  clear hN hc hc2
  go_enter Tryz.func25, Tryz.ntmps25
  go_wp2_with fail
  go_loopw [5] (fun i W => ∃ k : Nat, k ≤ N ∧ i = .int .i64 k ∧ Ext w W) (fun i _ => N - (intOf i).toNat)
  case atStart => exact ⟨0, Nat.zero_le _, rfl, Ext.refl _⟩
  case round =>
    obtain ⟨k, hk, rfl, hx⟩ := hrel
    have HX := Lib.hid hx
    by_cases hlt : k < N
    · have hki : (k : Int) < (N : Int) := by omega
      have hne : ls ≠ [] := by intro e; have := HN.out; subst e; simp at this; omega
      obtain ⟨b, o, rfl, hcs⟩ := HC.out hne
      obtain ⟨b2, o2, rfl, hcs2⟩ := HC2.out hne
      obtain ⟨u, hcu, hru⟩ := hcs k hlt
      obtain ⟨u2, hcu2, hru2⟩ := hcs2 k hlt
      have HRU := Lib.hid hru
      have HRU2 := Lib.hid hru2
      have e0 := hx.cell hcu
      have e1 := hx.cell hcu2
      clear hcs hcs2 hru hru2 hcu hcu2 hne hx
      go_wp2_with fail
      have hE := Ext.refl wr
      go_region_held3 (fun W' => W'.cell? ⟨b, o + k, none⟩ = some u ∧ W'.cell? ⟨b2, o2 + k, none⟩ = some u2 ∧ Ext wr W') ((refine (fun h => ⟨Ext.cell h e0, Ext.cell h e1, h⟩) ?_; repeat' (first | with_reducible exact hE | (with_reducible refine Ext.drew ?_) | (with_reducible refine Ext.alloc ?_ _))))
        (first
          | (go_at_call 30; go_must (refine (same_c _ _ _ (ls.getD k []) (ls.getD k []) (HRU.out.ext (HX.out.trans (by repeat' (first | exact hE | (with_reducible refine Ext.drew ?_) | (with_reducible refine Ext.alloc ?_ _))))) (HRU2.out.ext (HX.out.trans (by repeat' (first | exact hE | (with_reducible refine Ext.drew ?_) | (with_reducible refine Ext.alloc ?_ _))))) true (by simp)).mono ?_; rintro e wx ⟨rfl, rfl⟩))
          | fail)
      go_wp2_with fail
      go_roundw
      case rel => exact ⟨k + 1, by omega, by go_num, HX.out.drew⟩
      case measure => simp [intOf]; omega
    · obtain rfl : k = N := by omega
      have hki : ¬ (k : Int) < (k : Int) := by omega
      go_wp2_with fail
      go_ret
      exact ⟨rfl, HX.out⟩

def Kept (D : DoorV) (G : List UInt8) : Prop := D.st ≠ 0 ∧ D.hello = G
theorem lookP_kept {D : DoorV} {G : List UInt8} (h : Kept D G) (l : List UInt8) : Kept (lookP D l).2 G := by
  obtain ⟨h1, h2⟩ := h
  unfold lookP
  repeat' split
  all_goals exact ⟨by dsimp only; first | exact h1 | decide, h2⟩
theorem changeP_kept {D : DoorV} {G : List UInt8} (h : Kept D G) : Kept (changeP D).2 G := by
  obtain ⟨h1, h2⟩ := h
  unfold changeP
  split
  all_goals exact ⟨h1, h2⟩
theorem fullP_kept {D : DoorV} {G : List UInt8} (h : Kept D G) (l : List UInt8) : Kept (fullP D l).2 G := by
  obtain ⟨h1, h2⟩ := h
  unfold fullP
  split
  all_goals exact ⟨by dsimp only; decide, h2⟩
theorem answerP_kept {D : DoorV} {G : List UInt8} (h : Kept D G) (l : List UInt8) : Kept (answerP D l).2 G := by
  have hc : ∀ c a b, Kept (whoP { D with c := c } a b) G := fun c a b => h
  have h3 : Kept { D with st := 3 } G := ⟨by dsimp only; decide, h.2⟩
  unfold answerP
  split
  · split
    · split
      · exact lookP_kept (hc _ _ _) _
      · exact changeP_kept (hc _ _ _)
    · exact h3
  · exact h3
theorem nextP_kept {D : DoorV} {G : List UInt8} (h : Kept D G) (l : List UInt8) : Kept (nextP D l).2 G := by
  unfold nextP
  split
  · exact answerP_kept h l
  · exact lookP_kept h l
  · exact fullP_kept h l
  · exact ⟨by dsimp only; decide, h.2⟩
theorem feedP_kept {D : DoorV} {G : List UInt8} (h : Kept D G) (l : List UInt8) : Kept (feedP D l).2.2 G := by
  unfold feedP
  split
  · exact h
  · split
    · exact nextP_kept h l
    · exact h
theorem changeUP_kept {D : DoorV} {G : List UInt8} (h : Kept D G) (l other : List UInt8) : Kept (changeUP D l other).2.2 G := by
  have hc : ∀ a b, Kept (whoP { D with st := 1, n := other } a b) G := fun a b => ⟨by unfold whoP; dsimp only; decide, h.2⟩
  have h3 : Kept { D with st := 3 } G := ⟨by dsimp only; decide, h.2⟩
  unfold changeUP
  split
  · exact h
  · split
    · split
      · split
        · exact changeP_kept (hc _ _)
        · exact h3
      · exact h
    · exact h
theorem door0_fit {us : List UserV} (h : GoodU us) (gc : Int) (n hello : List UInt8) (hn : n.length = 20 ∧ nonceOk n = true) : DoorFit (door0 us gc n hello) := by
  refine ⟨fun u hu => ?_, fitU_zero, hn⟩
  have hu : u ∈ us := hu
  obtain ⟨k, hk, rfl⟩ := List.mem_iff_getElem.1 hu
  have h1 := (h k hk).1
  rw [List.getD_eq_getElem?_getD, List.getElem?_eq_getElem hk, Option.getD_some] at h1
  unfold okU plainU oursP at h1
  simp only [Bool.and_eq_true, decide_eq_true_eq, Bool.or_eq_true, beq_iff_eq] at h1
  refine ⟨h1.2.2.1.1, ?_⟩
  rcases h1.2.2.2.2 with e | e
  · rw [e]; exact ⟨by decide, by decide⟩
  · rw [e]; exact ⟨by decide, by decide⟩
theorem RefIs.on {w w' : World} {S : List Nat} {g b : Nat} {D : DoorV} (h : RefIs w S g D) (k : On b w w') (hb : b ∈ S) (hne : g ≠ b) : RefIs w' S g D := by
  obtain ⟨K, aw, sv, h⟩ := h
  exact ⟨K, aw, sv, h.on k hb hne⟩
theorem RefIs.ext {w w' : World} {S : List Nat} {g : Nat} {D : DoorV} (h : RefIs w S g D) (k : Ext w w') : RefIs w' S g D := by
  obtain ⟨K, aw, sv, h⟩ := h
  exact ⟨K, aw, sv, h.ext k⟩
theorem DoorIs.more {w w' : World} {S S' : List Nat} {g : Nat} {D : DoorV} (h : DoorIs w S g D) (k : ∀ x ∈ S', x ∈ S ∨ w.heap.size ≤ x) (k2 : Ext w w') (hlt : ∀ x ∈ S', x < w'.heap.size) (hs : ∀ x ∈ S, x ∈ S') : DoorIs w' S' g D := by
  obtain ⟨K, fv, h⟩ := h
  exact ⟨K, fv, h.more k k2 hlt hs⟩
theorem RefIs.lt {w : World} {S : List Nat} {g : Nat} {D : DoorV} (h : RefIs w S g D) : ∀ x ∈ S, x < w.heap.size := by
  obtain ⟨K, aw, sv, h⟩ := h
  exact h.lt
theorem user_shape (q : Prop) [Decidable q] (u : UserV) : ∃ a b c d e, (if q then userC u else user0) = [.string (strL a), .string (strL b), .string (strL c), .string (strL d), .bool e] := by
  split
  · exact ⟨_, _, _, _, _, rfl⟩
  · exact ⟨[], [], [], [], false, rfl⟩
end Go.Proofs.YtbodppfpmpmadaaGreat

namespace Go.Proofs.YtbodppfpmpmadaaGreat
open Go.ChangeShapes Go.WideShapes Go.ChangeAt Go.RowKit

theorem wf_u8L {x : Int} (h : (Lit.int .u8 x).wf = true) : 0 ≤ x ∧ x < 256 := by
  simp [Lit.wf, IntKind.min, IntKind.max, IntKind.signed, IntKind.bits] at h
  omega
theorem addr_none {w : World} {x : Addr} {u : Value} (h : w.cell? ((x.add 0).add 0) = some u) : ∃ b o, x = ⟨b, o, none⟩ := by
  obtain ⟨ab, ao, sp⟩ := x
  cases sp with
  | none => exact ⟨ab, ao, rfl⟩
  | some s =>
    have e : ((⟨ab, ao, some s⟩ : Addr).add 0).add 0 = ⟨ab, ao, some s⟩ := rfl
    rw [e] at h
    obtain ⟨b, o, hq⟩ := addr_spot h
    exact absurd hq (by simp)
theorem list5 {α : Type} (l : List α) (h : l.length = 5) : ∃ a b c d e, l = [a, b, c, d, e] := by
  match l, h with
  | [a, b, c, d, e], _ => exact ⟨a, b, c, d, e, rfl⟩
theorem list7 {α : Type} (l : List α) (h : l.length = 7) : ∃ a b c d e f g, l = [a, b, c, d, e, f, g] := by
  match l, h with
  | [a, b, c, d, e, f, g], _ => exact ⟨a, b, c, d, e, f, g, rfl⟩
instance : Inhabited UserV := ⟨userZ⟩
section
variable {H : Type} {enc : TypeId × Value → H} {w : World} {r : Reach} {b0 : Nat}
set_option maxRecDepth 100000 in
theorem users_arg {v : Value} {d : DataW H} {p : List MemPlace} (hv : Value.okWide Tryz.prog w r b0 54 v) (h : DataW.Trod enc Tryz.prog w 0 (fun _ => true) true 54 v d p) :
    ∃ us : List UserV, Recs w 5 v (us.map userC) ∧ ∀ k, k < us.length → (us.getD k userZ).name.length ≤ maxLen ∧ (us.getD k userZ).pw.length ≤ maxLen ∧ (us.getD k userZ).sc.length ≤ maxLen := by
  have US := Tryz.underlying54
  have U := Tryz.underlying32
  have CU : Tryz.prog.cellsOf 32 = 5 := by kernel_rfl
  have Cs : Tryz.prog.cellsOf 9 = 1 := by kernel_rfl
  have Cb : Tryz.prog.cellsOf 4 = 1 := by kernel_rfl
  obtain ⟨a, len, cap, rfl⟩ := okWide_slice US hv
  obtain ⟨fuel, hf⟩ := h
  rcases Go.Deep.open_slice US hf with ⟨hcs, _⟩ | ⟨x, l, c, m, n, D, Pl, hcs, _, hl, hm, hmm, hx, hcell⟩
  · simp [Value.cells] at hcs
    obtain ⟨rfl, rfl, rfl⟩ := hcs
    exact ⟨[], Recs.nil w 5, fun k hk => by simp at hk⟩
  · simp [Value.cells] at hcs
    obtain ⟨rfl, rfl, rfl⟩ := hcs
    have hlm : len ≤ m := by rw [hmm]; split <;> omega
    have each : ∀ i, i < len → ∃ u : UserV, (∀ j v, (userC u)[j]? = some v → w.cell? ((x.add (i * 5)).add j) = some v) ∧ u.name.length ≤ maxLen ∧ u.pw.length ≤ maxLen ∧ u.sc.length ≤ maxLen := by
      intro i hi
      obtain ⟨cs, h1, h2⟩ := hcell i (by omega)
      rw [CU] at h1
      obtain ⟨_, hlen, hc⟩ := World.cells?_some h1
      obtain ⟨x0, x1, x2, x3, x4, rfl⟩ := list5 cs hlen
      obtain ⟨m0, y0, e0⟩ := field_at U h2 0 _ rfl 1 Cs
      obtain ⟨s0, k0, z0⟩ := leaf_str Tryz.underlying9 e0
      obtain rfl : x0 = .string s0 := (List.cons.inj (show [x0] = [.string s0] from k0)).1
      obtain ⟨m1, y1, e1⟩ := field_at U h2 1 _ rfl 1 Cs
      obtain ⟨s1, k1, z1⟩ := leaf_str Tryz.underlying9 e1
      obtain rfl : x1 = .string s1 := (List.cons.inj (show [x1] = [.string s1] from k1)).1
      obtain ⟨m2, y2, e2⟩ := field_at U h2 2 _ rfl 1 Cs
      obtain ⟨s2, k2, z2⟩ := leaf_str Tryz.underlying9 e2
      obtain rfl : x2 = .string s2 := (List.cons.inj (show [x2] = [.string s2] from k2)).1
      obtain ⟨m3, y3, e3⟩ := field_at U h2 3 _ rfl 1 Cs
      obtain ⟨s3, k3, z3⟩ := leaf_str Tryz.underlying9 e3
      obtain rfl : x3 = .string s3 := (List.cons.inj (show [x3] = [.string s3] from k3)).1
      obtain ⟨m4, y4, e4⟩ := field_at U h2 4 _ rfl 1 Cb
      obtain ⟨s4, k4⟩ := leaf_bool Tryz.underlying4 e4
      obtain rfl : x4 = .bool s4 := (List.cons.inj (show [x4] = [.bool s4] from k4)).1
      refine ⟨⟨s0.data.toList, s1.data.toList, s2.data.toList, s3.data.toList, s4⟩, fun j v hj => ?_, by rw [size_toList]; exact z0, by rw [size_toList]; exact z1, by rw [size_toList]; exact z3⟩
      unfold userC at hj
      simp only [strL_of] at hj
      have hj5 : j < 5 := by
        rcases Nat.lt_or_ge j 5 with h | h
        · exact h
        · rw [List.getElem?_eq_none (by simpa using h)] at hj; cases hj
      rw [hc j hj5]
      exact hj
    obtain ⟨F, hF⟩ := Go.Deep.choose_lt each
    have hlen : ((List.range len).map F).length = len := by simp
    have hget : ∀ j, j < len → ((List.range len).map F).getD j userZ = F j := fun j hj => by
      simp [List.getD, hj]
    have hget2 : ∀ j, j < len → (((List.range len).map F).map userC).getD j [] = userC (F j) := fun j hj => by
      simp [List.getD, hj]
    refine ⟨(List.range len).map F, ⟨some x, cap, by rw [List.length_map, hlen], by rw [List.length_map, hlen]; exact hl, hm, fun hne => ?_⟩, fun j hj => ?_⟩
    · have h0 : 0 < len := by
        rcases Nat.eq_zero_or_pos len with h | h
        · subst h; exact absurd rfl hne
        · exact h
      have h1 := (hF 0 h0).1 0 _ rfl
      rw [Nat.zero_mul] at h1
      obtain ⟨b, o, rfl⟩ := addr_none h1
      refine ⟨b, o, rfl, fun j hj => ?_⟩
      rw [List.length_map, hlen] at hj
      rw [hget2 j hj]
      intro i v hi
      have h2 := (hF j hj).1 i v hi
      rw [addrk, addrk] at h2
      exact h2
    · rw [hlen] at hj
      rw [hget j hj]
      exact (hF j hj).2
set_option maxRecDepth 100000 in
theorem greeting_arg {v : Value} {d : DataW H} {p : List MemPlace} (hv : Value.okWide Tryz.prog w r b0 29 v) (h : DataW.Trod enc Tryz.prog w 0 (fun _ => true) true 29 v d p) :
    ∃ (ver n pl : List UInt8) (thr caps ch st : Int) (vn : Value), v = .agg #[.string (strL ver), .int .u32 thr, vn, .int .u32 caps, .int .u8 ch, .int .u16 st, .string (strL pl)] ∧ Rd w vn n ∧ (0 ≤ thr ∧ thr < 4294967296) ∧ (0 ≤ caps ∧ caps < 4294967296) ∧ (0 ≤ ch ∧ ch < 256) ∧ (0 ≤ st ∧ st < 65536) ∧ ver.length ≤ maxLen ∧ pl.length ≤ maxLen := by
  have U := Tryz.underlying29
  have C : Tryz.prog.cellsOf 29 = 7 := by kernel_rfl
  have Cs : Tryz.prog.cellsOf 9 = 1 := by kernel_rfl
  have C8 : Tryz.prog.cellsOf 5 = 1 := by kernel_rfl
  have C16 : Tryz.prog.cellsOf 27 = 1 := by kernel_rfl
  have C32 : Tryz.prog.cellsOf 25 = 1 := by kernel_rfl
  have Cc : Tryz.prog.cellsOf 26 = 1 := by kernel_rfl
  have Cl : Tryz.prog.cellsOf 22 = 1 := by kernel_rfl
  obtain ⟨cs, rfl, hsz⟩ := okWide_struct U hv
  obtain ⟨l⟩ := cs
  obtain ⟨x0, x1, x2, x3, x4, x5, x6, rfl⟩ := list7 l (by rw [← C]; exact hsz)
  obtain ⟨fuel, h2⟩ := h
  obtain ⟨m0, y0, e0⟩ := field_at U h2 0 _ rfl 1 Cs
  obtain ⟨s0, k0, z0⟩ := leaf_str Tryz.underlying9 e0
  obtain rfl : x0 = .string s0 := (List.cons.inj (show [x0] = [.string s0] from k0)).1
  obtain ⟨m1, y1, e1⟩ := field_at U h2 1 _ rfl 1 C32
  obtain ⟨thr, k1, w1⟩ := leaf_int Tryz.underlying25 e1
  obtain rfl : x1 = .int .u32 thr := (List.cons.inj (show [x1] = [.int .u32 thr] from k1)).1
  obtain ⟨m2, y2, e2⟩ := field_at U h2 2 _ rfl 1 Cl
  obtain ⟨vn, n, k2, w2⟩ := leaf_rd bt C8 e2
  obtain rfl : x2 = vn := (List.cons.inj (show [x2] = [vn] from k2)).1
  obtain ⟨m3, y3, e3⟩ := field_at U h2 3 _ rfl 1 Cc
  obtain ⟨caps, k3, w3⟩ := leaf_int Tryz.underlying26 e3
  obtain rfl : x3 = .int .u32 caps := (List.cons.inj (show [x3] = [.int .u32 caps] from k3)).1
  obtain ⟨m4, y4, e4⟩ := field_at U h2 4 _ rfl 1 C8
  obtain ⟨ch, k4, w4⟩ := leaf_int Tryz.underlying5 e4
  obtain rfl : x4 = .int .u8 ch := (List.cons.inj (show [x4] = [.int .u8 ch] from k4)).1
  obtain ⟨m5, y5, e5⟩ := field_at U h2 5 _ rfl 1 C16
  obtain ⟨st, k5, w5⟩ := leaf_int Tryz.underlying27 e5
  obtain rfl : x5 = .int .u16 st := (List.cons.inj (show [x5] = [.int .u16 st] from k5)).1
  obtain ⟨m6, y6, e6⟩ := field_at U h2 6 _ rfl 1 Cs
  obtain ⟨s6, k6, z6⟩ := leaf_str Tryz.underlying9 e6
  obtain rfl : x6 = .string s6 := (List.cons.inj (show [x6] = [.string s6] from k6)).1
  exact ⟨s0.data.toList, n, s6.data.toList, thr, caps, ch, st, _, by rw [strL_of, strL_of], w2, wf_u32 w1, wf_u32 w3, wf_u8L w4, wf_u16 w5, by rw [size_toList]; exact z0, by rw [size_toList]; exact z6⟩
def Bls (w : World) (v : Value) (bs : List Bool) : Prop := Cells w v bs.length (fun j => .bool (bs.getD j false))
theorem Bls.ext {w w' : World} {v : Value} {bs : List Bool} (h : Bls w v bs) (k : Ext w w') : Bls w' v bs := by
  obtain ⟨A, cap, h1, h2, h3, h4⟩ := h
  refine ⟨A, cap, h1, h2, h3, fun hn => ?_⟩
  obtain ⟨b, o, hA, hc⟩ := h4 hn
  exact ⟨b, o, hA, fun j hj => k.cell (hc j hj)⟩
set_option maxRecDepth 100000 in
theorem bools_arg {v : Value} {d : DataW H} {p : List MemPlace} (hv : Value.okWide Tryz.prog w r b0 55 v) (h : DataW.Trod enc Tryz.prog w 0 (fun _ => true) true 55 v d p) : ∃ bs, Bls w v bs := by
  have US := Tryz.underlying55
  have Cb : Tryz.prog.cellsOf 4 = 1 := by kernel_rfl
  obtain ⟨a, len, cap, rfl⟩ := okWide_slice US hv
  obtain ⟨fuel, hf⟩ := h
  rcases Go.Deep.open_slice1 US Cb hf with ⟨hcs, _⟩ | ⟨x, l, c, m, n, V, D, Pl, hcs, _, hl, hm, hmm, hx, hcell⟩
  · simp [Value.cells] at hcs
    obtain ⟨rfl, rfl, rfl⟩ := hcs
    exact ⟨[], none, 0, rfl, Nat.le_refl _, by unfold maxLen; simp, fun h => by simp at h⟩
  · simp [Value.cells] at hcs
    obtain ⟨rfl, rfl, rfl⟩ := hcs
    have hlm : len ≤ m := by rw [hmm]; split <;> omega
    have each : ∀ i, i < len → ∃ q : Bool, w.cell? (x.add i) = some (.bool q) := fun i hi => by
      obtain ⟨h1, h2⟩ := hcell i (by omega)
      obtain ⟨q, hq⟩ := leaf_bool Tryz.underlying4 h2
      rw [(List.cons.inj hq).1] at h1
      exact ⟨q, h1⟩
    obtain ⟨F, hF⟩ := Go.Deep.choose_lt each
    have hlen : ((List.range len).map F).length = len := by simp
    refine ⟨(List.range len).map F, some x, cap, by rw [hlen], by rw [hlen]; exact hl, hm, fun h0 => ?_⟩
    rw [hlen] at h0
    obtain ⟨b, o, rfl⟩ := addr_spot (x := x) (hcell 0 (by omega)).1
    refine ⟨b, o, rfl, fun j hj => ?_⟩
    rw [hlen] at hj
    have := hF j hj
    rw [addrk] at this
    rw [this]
    simp [List.getD, hj]
end
end Go.Proofs.YtbodppfpmpmadaaGreat

namespace Go.Proofs.YtbodppfpmpmadaaGreat
open Go.RowKit

def GoodAt (us : List UserV) (k : Nat) : Prop := okU (us.getD k userZ) = true ∧ findU (us.take k) (us.getD k userZ).name = none
def DoorMay (us : List UserV) (g : GreV) : Prop := GoodU us ∧ us.length ≤ 64 ∧ GreOk g ∧ checkC g.caps = 0
set_option maxRecDepth 100000 in
set_option maxHeartbeats 4000000 in
theorem newDoor_no (w : World) (v : Value) (us : List UserV) (ver n pl : List UInt8) (thr caps ch st : Int) (vn : Value) (hus : Recs w 5 v (us.map userC)) (h1k : us.length ≤ 1000) (hnl : ∀ k, k < us.length → (us.getD k userZ).name.length ≤ 9223372036854775807) (hn : Rd w vn n)
    (ht : 0 ≤ thr ∧ thr < 4294967296) (hcaps : 0 ≤ caps ∧ caps < 4294967296) (hch : 0 ≤ ch ∧ ch < 256) (hst : 0 ≤ st ∧ st < 65536) (hpl : pl.length ≤ 10000) (hvl : ver.length ≤ 10000) (hbad : ¬ DoorMay us ⟨ver, thr, n, caps, ch, st, pl⟩) :
    Calls Tryz.prog 21 #[v, .agg #[.string (strL ver), .int .u32 thr, vn, .int .u32 caps, .int .u8 ch, .int .u16 st, .string (strL pl)]] w fun e w' => e = .returned (.tuple #[.pointer none, .int .i64 2]) ∧ Ext w w' := by
  have HUS := Lib.hid hus
  obtain ⟨A, cap, hv, hle, hm⟩ := hus.shape
  rw [List.length_map] at hv hle
  unfold maxLen at hm
  obtain ⟨N, hN⟩ : ∃ N, N = us.length := ⟨_, rfl⟩
  rw [← hN] at hv hle h1k
  subst hv
  have HN := Lib.hid hN
  obtain ⟨An, cn, rfl, _⟩ := id hn
  have HNN := Lib.hid hn
  have HG : ∃ (X : List UInt8) (er : Int), (er = 0 → GreOk ⟨ver, thr, n, caps, ch, st, pl⟩) ∧ ∀ w v, Rd w v n → Calls Tryz.prog 55 #[.slice none 0 0, .agg #[.string (strL ver), .int .u32 thr, v, .int .u32 caps, .int .u8 ch, .int .u16 st, .string (strL pl)]] w (RetBE w X er) := by
    by_cases hok : GreOk ⟨ver, thr, n, caps, ch, st, pl⟩
    · exact ⟨_, 0, fun _ => hok, fun w v hv => appendGreeting_g w ver n pl thr caps ch st v hv hok.ver hok.pl hok.n20 hok.nonce hok.core hok.plF ht hcaps hch hst hpl hvl⟩
    · exact ⟨[], 2, (fun h => by cases h), fun w v hv => appendGreeting_z w ver n pl thr caps ch st v hv ht hcaps hch hst hok⟩
  obtain ⟨X, er, her, HG⟩ := HG
  replace HG := Lib.hid HG
  have HER := Lib.hid her
  have HBAD := Lib.hid hbad
  have HNL := Lib.hid hnl
  have hmm := @run_makeMap Tryz.prog
  clear hus hN hn her hbad hnl ht hcaps hch hst hpl hvl
  go_enter Tryz.func21, Tryz.ntmps21
  go_upto_region 1 with fail
  generalize hW0 : w.alloc _ = wS
  have hb0 : BoxF wS w.heap.size [.string (strL ver), .int .u32 thr, .slice An n.length cn, .int .u32 caps, .int .u8 ch, .int .u16 st, .string (strL pl)] := by rw [← hW0]; exact BoxF.new w _ _
  have hx0 : Ext w wS := by rw [← hW0]; exact (Ext.refl w).alloc _
  have hs0 : w.heap.size < wS.heap.size := by rw [← hW0]; simp
  clear hW0
  have HB0 := Lib.hid hb0
  have HX0 := Lib.hid hx0
  clear hb0 hx0
  go_wp2_with fail
  have hM0 : MapN (wS.alloc (.map #[] 0)) wS.heap.size 0 (us.take 0) := World.ownsMap_made wS Tryz.prog TS userR
  have hX1 : Ext w (wS.alloc (.map #[] 0)) := HX0.out.alloc _
  have hB1 := HB0.out.ext ((Ext.refl wS).alloc (.map #[] 0))
  go_loopw [8, 9, 10, 17] (fun _ _ _ i W => ∃ k : Nat, k ≤ N ∧ i = .int .i64 k ∧ MapN W wS.heap.size k (us.take k) ∧ Ext w W ∧ BoxF W w.heap.size [.string (strL ver), .int .u32 thr, .slice An n.length cn, .int .u32 caps, .int .u8 ch, .int .u16 st, .string (strL pl)] ∧ wS.heap.size ≤ W.heap.size ∧ Hid (∀ j, j < k → GoodAt us j)) (fun _ _ _ i _ => N - (intOf i).toNat)
  case atStart => exact ⟨0, Nat.zero_le _, rfl, hM0, hX1, hB1, by simp, Lib.hid (fun j hj => by omega)⟩
  case round =>
    clear hM0 hX1 hB1
    obtain ⟨k, hk, rfl, hM, hx, hb, hsz, HJ⟩ := hrel
    by_cases hkN : k < N
    · have hbk : (k : Int) < (N : Int) := by omega
      obtain ⟨b0, o0, rfl, hn2, hcs⟩ := (HUS.out.ext hx).at_ (A := A) (n := N) (cap := cap) (by omega)
      have hck := hcs k hkN
      rw [rangeAt_userC us k (by have := HN.out; omega)] at hck
      have hus1 := take_snoc us k (by have := HN.out; omega)
      have hnmk := HNL.out k (by have := HN.out; omega)
      obtain ⟨good, hgood⟩ : ∃ g : Prop, g = GoodAt us k := ⟨_, rfl⟩
      have HGD := Lib.hid hgood
      unfold GoodAt at hgood
      generalize us.getD k userZ = u at hck hus1 hnmk hgood
      obtain ⟨nm, pw, plg, sc, ad⟩ := u
      dsimp only at hnmk hgood
      have HCKk := Lib.hid (show wr.rangeAt b0 (o0 + k * 5) [.string (strL nm), .string (strL pw), .string (strL plg), .string (strL sc), .bool ad] from hck)
      have HNM := Lib.hid (show nm.length ≤ maxLen by unfold maxLen; omega)
      have HKEY := Lib.hid (show keyOf Tryz.prog TS (Value.string (strL nm)) = some (Lit.string nm) from Go.WideMaps.keyOf_string_mk Tryz.underlying9 (s := strL nm) (by rw [strL_size]; exact HNM.out))
      have HUS1 := Lib.hid hus1
      have HM := Lib.hid hM
      have HB := Lib.hid hb
      have HGOOD := Lib.hid hgood
      clear hck hus1 hM hb hcs hn2 hnmk hgood
      have tok1 : True := trivial
      cases hf : findU (us.take k) nm with
      | none =>
        have HF0 := Lib.hid (show (findU (us.take k) nm).getD userZ = ⟨[], [], [], [], false⟩ by rw [hf]; rfl)
        have HF1 := Lib.hid (show (findU (us.take k) nm).isSome = false by rw [hf]; rfl)
        have HF := Lib.hid hf
        clear hf
        cases ho : okU ⟨nm, pw, plg, sc, ad⟩ with
        | true =>
          have HCU := Lib.hid (show checkU ⟨nm, pw, plg, sc, ad⟩ = 0 by unfold checkU; rw [ho]; rfl)
          have HOO := Lib.hid ho
          clear ho
          go_wp2_with (first
            | ((with_reducible show AtS 20); refine wpl_load_rec rfl _ _ rfl b0 _ rfl HCKk.out Tryz.underlying32 rfl (by kernel_rfl) ?_)
            | ((with_reducible show wpList _ _ _ (⟨some 8, Op.alloc _, _, _, _, _⟩ :: _) _ _); refine wpl_alloc rfl _ rfl user0 (by kernel_rfl) ?_; intro w1 B1 hx1)
            | ((with_reducible show AtW 32); have _t := tok1; refine wpl_store_box rfl _ _ _ rfl _ [.string (strL nm), .string (strL pw), .string (strL plg), .string (strL sc), .bool ad] rfl rfl B1 rfl (by kernel_rfl) (by rfl) ?_; intro w2 B2 O2; have hx2 : Ext wr w2 := hx1.on O2 (Nat.le_refl _); have c0 := B2.at (j := 0) rfl; clear tok1 B1 O2 hx1)
            | ((with_reducible show AtS 25); refine wpl_lookU rfl _ _ rfl (HM.out.ext hx2).u rfl nm rfl HNM.out HF0.out HF1.out ?_)
            | ((with_reducible show wpList _ _ _ (⟨some 9, Op.alloc _, _, _, _, _⟩ :: _) _ _); refine wpl_alloc rfl _ rfl user0 (by kernel_rfl) ?_; intro w3 B3 hx3)
            | ((with_reducible show AtW 32); refine wpl_store_box rfl _ _ _ rfl _ [.string (strL []), .string (strL []), .string (strL []), .string (strL []), .bool false] rfl rfl B3 rfl (by kernel_rfl) (by rfl) ?_; intro w4 B4 O4; have hx24 : Ext w2 w4 := hx3.on O4 (Nat.le_refl _); have hx4 : Ext wr w4 := hx2.trans hx24; have B24 := B2.ext hx24; have d0 := B24.at (j := 0) rfl; have d1 := B24.at (j := 1) rfl; have d2 := B24.at (j := 2) rfl; have d3 := B24.at (j := 3) rfl; have d4 := B24.at (j := 4) rfl; clear c0 B2 B3 B4 O4 hx3 hx24 hx2)
            | (go_at_call 19; refine (checkU_c _ nm pw plg sc ad).mono ?_; rintro e w5 ⟨rfl, hx5⟩; rw [HCU.out]; have B25 := B24.ext hx5; have e0 := B25.at (j := 0) rfl; have hx45 := hx4.trans hx5; clear d0 d1 d2 d3 d4 B24)
            | ((with_reducible show AtS 37); refine wpl_load_box rfl _ _ rfl _ rfl B25 Tryz.underlying32 rfl (by kernel_rfl) ?_)
            | ((with_reducible show wpList _ _ _ (⟨none, Op.mapUpdate _ _ _ _, _, _, _, _⟩ :: _) _ _); (refine wpList_mapUpdate_own _ rfl _ _ _ TM rfl TS 32 lawS Tryz.underlying24 userR wS.heap.size k (usD (us.take k)) rfl (HM.out.ext hx45) (by unfold maxLen; omega) (.string (strL nm)) (.agg #[.string (strL nm), .string (strL pw), .string (strL plg), .string (strL sc), .bool ad]) (.string nm) rfl rfl HKEY.out (userD ⟨nm, pw, plg, sc, ad⟩) [] (userR_mk ⟨nm, pw, plg, sc, ad⟩) ?_; intro w6 hM6 hg6))
            | fail)
          go_roundw
          case rel =>
            have hO6 : On wS.heap.size w5 w6 := hg6
            exact ⟨k + 1, by omega, by go_num, by rw [HUS1.out]; unfold MapN; rw [usD_snoc]; exact hM6, (hx.trans hx45).on hO6 (Ext.size HX0.out), (HB.out.ext hx45).on hO6 (by omega), Nat.le_trans hsz (Nat.le_trans (Ext.size hx45) hO6.size), Lib.hid (fun j hj => by
            rcases Nat.lt_succ_iff_lt_or_eq.1 hj with h9 | h9
            · exact HJ.out j h9
            · subst h9
              rw [← HGD.out, HGOOD.out]
              exact ⟨HOO.out, HF.out⟩)⟩
          case measure => simp [intOf]; omega
        | false =>
          have HCU := Lib.hid (show checkU ⟨nm, pw, plg, sc, ad⟩ = 2 by unfold checkU; rw [ho]; rfl)
          clear ho
          go_wp2_with (first
            | ((with_reducible show AtS 20); refine wpl_load_rec rfl _ _ rfl b0 _ rfl HCKk.out Tryz.underlying32 rfl (by kernel_rfl) ?_)
            | ((with_reducible show wpList _ _ _ (⟨some 8, Op.alloc _, _, _, _, _⟩ :: _) _ _); refine wpl_alloc rfl _ rfl user0 (by kernel_rfl) ?_; intro w1 B1 hx1)
            | ((with_reducible show AtW 32); have _t := tok1; refine wpl_store_box rfl _ _ _ rfl _ [.string (strL nm), .string (strL pw), .string (strL plg), .string (strL sc), .bool ad] rfl rfl B1 rfl (by kernel_rfl) (by rfl) ?_; intro w2 B2 O2; have hx2 : Ext wr w2 := hx1.on O2 (Nat.le_refl _); have c0 := B2.at (j := 0) rfl; clear tok1 B1 O2 hx1)
            | ((with_reducible show AtS 25); refine wpl_lookU rfl _ _ rfl (HM.out.ext hx2).u rfl nm rfl HNM.out HF0.out HF1.out ?_)
            | ((with_reducible show wpList _ _ _ (⟨some 9, Op.alloc _, _, _, _, _⟩ :: _) _ _); refine wpl_alloc rfl _ rfl user0 (by kernel_rfl) ?_; intro w3 B3 hx3)
            | ((with_reducible show AtW 32); refine wpl_store_box rfl _ _ _ rfl _ [.string (strL []), .string (strL []), .string (strL []), .string (strL []), .bool false] rfl rfl B3 rfl (by kernel_rfl) (by rfl) ?_; intro w4 B4 O4; have hx24 : Ext w2 w4 := hx3.on O4 (Nat.le_refl _); have hx4 : Ext wr w4 := hx2.trans hx24; have B24 := B2.ext hx24; have d0 := B24.at (j := 0) rfl; have d1 := B24.at (j := 1) rfl; have d2 := B24.at (j := 2) rfl; have d3 := B24.at (j := 3) rfl; have d4 := B24.at (j := 4) rfl; clear c0 B2 B3 B4 O4 hx3 hx24 hx2)
            | (go_at_call 19; refine (checkU_c _ nm pw plg sc ad).mono ?_; rintro e w5 ⟨rfl, hx5⟩; rw [HCU.out]; have B25 := B24.ext hx5; have e0 := B25.at (j := 0) rfl; have hx45 := hx4.trans hx5; clear d0 d1 d2 d3 d4 B24)
            | fail)
          go_ret2
          exact ⟨rfl, hx.trans hx45⟩
      | some uf =>
        obtain ⟨f1, f2, f3, f4, f5⟩ := uf
        have HF0 := Lib.hid (show (findU (us.take k) nm).getD userZ = ⟨f1, f2, f3, f4, f5⟩ by rw [hf]; rfl)
        have HF1 := Lib.hid (show (findU (us.take k) nm).isSome = true by rw [hf]; rfl)
        clear hf
        go_wp2_with (first
          | ((with_reducible show AtS 20); refine wpl_load_rec rfl _ _ rfl b0 _ rfl HCKk.out Tryz.underlying32 rfl (by kernel_rfl) ?_)
          | ((with_reducible show wpList _ _ _ (⟨some 8, Op.alloc _, _, _, _, _⟩ :: _) _ _); refine wpl_alloc rfl _ rfl user0 (by kernel_rfl) ?_; intro w1 B1 hx1)
          | ((with_reducible show AtW 32); have _t := tok1; refine wpl_store_box rfl _ _ _ rfl _ [.string (strL nm), .string (strL pw), .string (strL plg), .string (strL sc), .bool ad] rfl rfl B1 rfl (by kernel_rfl) (by rfl) ?_; intro w2 B2 O2; have hx2 : Ext wr w2 := hx1.on O2 (Nat.le_refl _); have c0 := B2.at (j := 0) rfl; clear tok1 B1 O2 hx1)
          | ((with_reducible show AtS 25); refine wpl_lookU rfl _ _ rfl (HM.out.ext hx2).u rfl nm rfl HNM.out HF0.out HF1.out ?_)
          | ((with_reducible show wpList _ _ _ (⟨some 9, Op.alloc _, _, _, _, _⟩ :: _) _ _); refine wpl_alloc rfl _ rfl user0 (by kernel_rfl) ?_; intro w3 B3 hx3)
          | ((with_reducible show AtW 32); refine wpl_store_box rfl _ _ _ rfl _ [.string (strL f1), .string (strL f2), .string (strL f3), .string (strL f4), .bool f5] rfl rfl B3 rfl (by kernel_rfl) (by rfl) ?_; intro w4 B4 O4; have hx24 : Ext w2 w4 := hx3.on O4 (Nat.le_refl _); have hx4 : Ext wr w4 := hx2.trans hx24; have B24 := B2.ext hx24; have d0 := B24.at (j := 0) rfl; have d1 := B24.at (j := 1) rfl; have d2 := B24.at (j := 2) rfl; have d3 := B24.at (j := 3) rfl; have d4 := B24.at (j := 4) rfl; clear c0 B2 B3 B4 O4 hx3 hx24 hx2)
          | fail)
        go_ret2
        exact ⟨rfl, hx.trans hx4⟩
    · obtain rfl : k = N := by omega
      have hb9 : ¬ (k : Int) < (k : Int) := by omega
      have hgu : GoodU us := fun j hj => HJ.out j (by rw [HN.out]; exact hj)
      have HGU := Lib.hid hgu
      have HB := Lib.hid hb
      have HX := Lib.hid hx
      clear hM hb hx hsz hgu HJ
      by_cases h64 : k ≤ 64
      · have h64i : ¬ (k : Int) > 64 := by omega
        by_cases he : er = 0
        · subst he
          have hck : checkC caps ≠ 0 := fun hc => HBAD.out ⟨HGU.out, by rw [← HN.out]; exact h64, HER.out rfl, hc⟩
          obtain ⟨ck, hck2⟩ : ∃ ck, checkC caps = ck := ⟨_, rfl⟩
          rw [hck2] at hck
          have HCK := Lib.hid hck2
          have hq : (ck != 0) = true := by simpa using hck
          clear hck hck2 h64
          go_wp2_with (first
            | ((with_reducible show AtS 40); refine wpl_load_box rfl _ _ rfl _ rfl HB.out Tryz.underlying29 rfl (by kernel_rfl) ?_)
            | (go_at_call 55; refine (HG.out _ _ (HNN.out.ext HX.out)).mono ?_; rintro e w1 ⟨v1, rfl, ho1, hx1⟩; have B1 := HB.out.ext hx1; have g3 := B1.at (j := 3) rfl)
            | (go_at_call 56; refine (capsCheck_c _ caps).mono ?_; rintro e wx ⟨rfl, rfl⟩; rw [HCK.out])
            | fail)
          go_ret2
          exact ⟨rfl, HX.out.trans hx1⟩
        · have hq : (er != 0) = true := by simpa using he
          clear he h64
          go_wp2_with (first
            | ((with_reducible show AtS 40); refine wpl_load_box rfl _ _ rfl _ rfl HB.out Tryz.underlying29 rfl (by kernel_rfl) ?_)
            | (go_at_call 55; refine (HG.out _ _ (HNN.out.ext HX.out)).mono ?_; rintro e w1 ⟨v1, rfl, ho1, hx1⟩)
            | fail)
          go_ret2
          exact ⟨rfl, HX.out.trans hx1⟩
      · have h64i : (k : Int) > 64 := by omega
        clear h64
        go_wp2_with (first
          | ((with_reducible show AtS 40); refine wpl_load_box rfl _ _ rfl _ rfl HB.out Tryz.underlying29 rfl (by kernel_rfl) ?_)
          | (go_at_call 55; refine (HG.out _ _ (HNN.out.ext HX.out)).mono ?_; rintro e w1 ⟨v1, rfl, ho1, hx1⟩)
          | fail)
        go_ret2
        exact ⟨rfl, HX.out.trans hx1⟩
end Go.Proofs.YtbodppfpmpmadaaGreat

namespace Go.Proofs.YtbodppfpmpmadaaGreat
open Go.RowKit

theorem getD_take (us : List UserV) (k j : Nat) (hj : j < k) : (us.take k).getD j userZ = us.getD j userZ := by
  rw [List.getD_eq_getElem?_getD, List.getD_eq_getElem?_getD, List.getElem?_take, if_pos hj]
theorem findU_take_none (us : List UserV) (k : Nat) (nm : List UInt8) (h : ∀ j, j < k → (us.getD j userZ).name ≠ nm) : findU (us.take k) nm = none :=
  findU_none _ _ fun j hj => by
    have hjk : j < k := by rw [List.length_take] at hj; omega
    rw [getD_take us k j hjk]
    exact h j hjk
theorem findU_mem (us : List UserV) (nm : List UInt8) (j : Nat) (hj : j < us.length) (hn : (us.getD j userZ).name = nm) : findU us nm ≠ none := by
  induction us using list_snoc_induct generalizing j with
  | h0 => simp at hj
  | h1 us u ih =>
    rw [findU_snoc]
    split
    · simp
    · rename_i hu
      rcases Nat.lt_or_ge j us.length with h | h
      · rw [getD_snoc_lt us u j h] at hn
        exact ih j h hn
      · have : j = us.length := by simp at hj; omega
        subst this
        rw [getD_snoc_eq] at hn
        exact absurd (by simpa using hn) hu
theorem findU_take_some (us : List UserV) (k j : Nat) (nm : List UInt8) (hjk : j < k) (hk : k ≤ us.length) (hn : (us.getD j userZ).name = nm) : findU (us.take k) nm ≠ none :=
  findU_mem _ _ j (by rw [List.length_take]; omega) (by rw [getD_take us k j hjk]; exact hn)
end Go.Proofs.YtbodppfpmpmadaaGreat

