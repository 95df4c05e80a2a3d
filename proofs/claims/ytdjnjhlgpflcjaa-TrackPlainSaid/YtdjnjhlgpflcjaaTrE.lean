/- One change is read: the reference. (Printed by gen_trD.py.) -/
import Derived.Test.YtdjnjhlgpflcjaaTrD
import Derived.Deep.RegionHeld3
namespace Go.Proofs.Ytdjnjhlgpflcjaa
open Go.RowKit

set_option maxRecDepth 100000 in
set_option maxHeartbeats 2000000 in
theorem oner_0e (w : World) (v : Value) (s : List UInt8) (hr : Rd w v s) (x1 : List UInt8) (n1 : Nat) (r1 : Int) (h1 : readT s = (x1, n1, r1)) (hr1 : r1 ≠ 0) :
    Calls Try.prog 32 #[.int .i64 0, v] w (RetOne w (oneP 0 s)) := by
  have HRES := Lib.hid (oneP_0e s _ _ _ h1 hr1)
  obtain ⟨A3, k3, rfl, hk3, hm3, _, _⟩ := id hr
  have H1 := Lib.hid h1
  have hb1' : (r1 == 0) = false := by simpa using hr1
  have HR := Lib.hid hr
  clear h1 hr1 hr hk3 hm3
  go_enter Try.func32, Try.ntmps32
  go_wp2_with (first
    | (go_at_call 31; obtain ⟨B3, C3, hE⟩ := two_boxes w ((w.alloc (.cells #[.int .i64 0, .string ⟨#[]⟩, .string ⟨#[]⟩] 28)).alloc (.cells #[.int .i64 0, .string ⟨#[]⟩, .string ⟨#[]⟩] 28)) 0 0 _ _ _ _ rfl rfl (Ext.refl _); generalize (World.alloc (World.alloc w _) _) = w3 at B3 C3 hE ⊢; refine (rt_r _ _ s _ _ _ (HR.out.ext hE) H1.out).mono ?_; rintro e w4 ⟨rfl, rfl⟩)
    | ((with_reducible show wpList _ _ _ (⟨some 25, _, _, _, _, _⟩ :: _) _ _); refine wpl_load_box rfl _ _ rfl _ rfl C3 Try.underlying28 rfl (by kernel_rfl) ?_)
    | ((with_reducible show wpList _ _ _ (⟨none, Op.store _ _ _, _, _, _, _⟩ :: _) _ _); refine wpl_store_box rfl _ _ _ rfl _ [.int .i64 0, .string ⟨#[]⟩, .string ⟨#[]⟩] rfl rfl B3 rfl (by kernel_rfl) (by rfl) ?_; intro w9 B9 O9)
    | fail)
  try simp only [Exit.inBlock, Exit.then]
  refine ret_box rfl rfl rfl rfl B9 Try.underlying28 rfl (by kernel_rfl) ?_
  exact RetOne.no HRES.out _ _ _ (hE.on O9 (Nat.le_refl _))

set_option maxRecDepth 100000 in
set_option maxHeartbeats 2000000 in
theorem oner_0r (w : World) (v : Value) (s : List UInt8) (hr : Rd w v s) (x1 : List UInt8) (n1 : Nat) (h1 : readT s = (x1, n1, 0)) (x2 : List UInt8) (n2 : Nat) (r2 : Int) (h2 : readT (s.drop n1) = (x2, n2, r2)) (hr2 : r2 ≠ 0) :
    Calls Try.prog 32 #[.int .i64 0, v] w (RetOne w (oneP 0 s)) := by
  have HRES := Lib.hid ((oneP_0 s _ _ h1).trans (tail_r _ _ _ _ _ _ h2 hr2))
  obtain ⟨A3, k3, rfl, hk3, hm3, _, _⟩ := id hr
  have H1 := Lib.hid h1
  have hn1 := (readT_len h1).1
  obtain ⟨t, ht⟩ : ∃ t, t = s.drop n1 := ⟨_, rfl⟩
  rw [← ht] at h2
  have HT := Lib.hid ht
  have H2 := Lib.hid h2
  have hb2 : (r2 == 0) = false := by simpa using hr2
  have tok : True := trivial
  have tok1 : True := trivial
  have HR := Lib.hid hr
  clear h1 ht h2 hr2 hr hk3 hm3
  go_enter Try.func32, Try.ntmps32
  go_wp2_with (first
    | (go_at_call 31; have _t := tok1; obtain ⟨B3, C3, hE⟩ := two_boxes w ((w.alloc (.cells #[.int .i64 0, .string ⟨#[]⟩, .string ⟨#[]⟩] 28)).alloc (.cells #[.int .i64 0, .string ⟨#[]⟩, .string ⟨#[]⟩] 28)) 0 0 _ _ _ _ rfl rfl (Ext.refl _); generalize (World.alloc (World.alloc w _) _) = w3 at B3 C3 hE ⊢; refine (rt_r _ _ s _ _ _ (HR.out.ext hE) H1.out).mono ?_; rintro e w4 ⟨rfl, rfl⟩; clear tok1)
    | ((with_reducible show wpList _ _ _ (⟨none, Op.store _ _ _, _, _, _, _⟩ :: _) _ _); have _t := tok; clear tok; refine wpl_store_cell rfl _ _ _ rfl (w.heap.size + 1) 1 (.string (strL x1)) rfl rfl rfl rfl (by kernel_rfl) C3 (by simp) ?_; intro w5 C5 O5; have tok2 : True := trivial; have B5 := B3.on O5 (by omega); have hE5 := hE.on O5 (by omega))
    | ((with_reducible show wpList _ _ _ (⟨some 30, _, _, _, _, _⟩ :: _) _ _); refine wpl_cut_lo bt HR.out (n1 : Int) (by omega) (by omega) rfl _ _ _ rfl rfl rfl ?_; intro A5 m5 k5 hr5; rw [Int.toNat_natCast, ← HT.out] at hr5; obtain ⟨rfl, hk5⟩ := rd_shape hr5; replace hr5 := Lib.hid hr5; clear hk5)
    | (go_at_call 31; refine (rt_r _ _ t _ _ _ (hr5.out.ext hE5) H2.out).mono ?_; rintro e w6 ⟨rfl, rfl⟩)
    | ((with_reducible show wpList _ _ _ (⟨some 59, _, _, _, _, _⟩ :: _) _ _); refine wpl_load_box rfl _ _ rfl _ rfl (show BoxF _ _ [.int .i64 0, .string (strL x1), .string ⟨#[]⟩] from C5) Try.underlying28 rfl (by kernel_rfl) ?_)
    | ((with_reducible show wpList _ _ _ (⟨none, Op.store _ _ _, _, _, _, _⟩ :: _) _ _); refine wpl_store_box rfl _ _ _ rfl _ [.int .i64 0, .string (strL x1), .string ⟨#[]⟩] rfl rfl B5 rfl (by kernel_rfl) (by rfl) ?_; intro w9 B9 O9)
    | fail)
  try simp only [Exit.inBlock, Exit.then]
  refine ret_box rfl rfl rfl rfl B9 Try.underlying28 rfl (by kernel_rfl) ?_
  exact RetOne.no HRES.out _ _ _ (hE5.on O9 (Nat.le_refl _))

set_option maxRecDepth 100000 in
set_option maxHeartbeats 2000000 in
theorem oner_0n (w : World) (v : Value) (s : List UInt8) (hr : Rd w v s) (x1 : List UInt8) (n1 : Nat) (h1 : readT s = (x1, n1, 0)) (x2 : List UInt8) (n2 : Nat) (h2 : readT (s.drop n1) = (x2, n2, 0)) (hn2 : n2 ≠ (s.drop n1).length) :
    Calls Try.prog 32 #[.int .i64 0, v] w (RetOne w (oneP 0 s)) := by
  have HRES := Lib.hid ((oneP_0 s _ _ h1).trans (tail_n _ _ _ _ _ h2 hn2))
  obtain ⟨A3, k3, rfl, hk3, hm3, _, _⟩ := id hr
  have H1 := Lib.hid h1
  have hn1 := (readT_len h1).1
  obtain ⟨t, ht⟩ : ∃ t, t = s.drop n1 := ⟨_, rfl⟩
  rw [← ht] at h2 hn2
  have HT := Lib.hid ht
  have H2 := Lib.hid h2
  have hb2 : ((n2 : Int) == (t.length : Int)) = false := by simp; omega
  have tok : True := trivial
  have tok1 : True := trivial
  have HR := Lib.hid hr
  clear h1 ht h2 hn2 hr hk3 hm3
  go_enter Try.func32, Try.ntmps32
  go_wp2_with (first
    | (go_at_call 31; have _t := tok1; obtain ⟨B3, C3, hE⟩ := two_boxes w ((w.alloc (.cells #[.int .i64 0, .string ⟨#[]⟩, .string ⟨#[]⟩] 28)).alloc (.cells #[.int .i64 0, .string ⟨#[]⟩, .string ⟨#[]⟩] 28)) 0 0 _ _ _ _ rfl rfl (Ext.refl _); generalize (World.alloc (World.alloc w _) _) = w3 at B3 C3 hE ⊢; refine (rt_r _ _ s _ _ _ (HR.out.ext hE) H1.out).mono ?_; rintro e w4 ⟨rfl, rfl⟩; clear tok1)
    | ((with_reducible show wpList _ _ _ (⟨none, Op.store _ _ _, _, _, _, _⟩ :: _) _ _); have _t := tok; clear tok; refine wpl_store_cell rfl _ _ _ rfl (w.heap.size + 1) 1 (.string (strL x1)) rfl rfl rfl rfl (by kernel_rfl) C3 (by simp) ?_; intro w5 C5 O5; have tok2 : True := trivial; have B5 := B3.on O5 (by omega); have hE5 := hE.on O5 (by omega))
    | ((with_reducible show wpList _ _ _ (⟨some 30, _, _, _, _, _⟩ :: _) _ _); refine wpl_cut_lo bt HR.out (n1 : Int) (by omega) (by omega) rfl _ _ _ rfl rfl rfl ?_; intro A5 m5 k5 hr5; rw [Int.toNat_natCast, ← HT.out] at hr5; obtain ⟨rfl, hk5⟩ := rd_shape hr5; replace hr5 := Lib.hid hr5; clear hk5)
    | (go_at_call 31; refine (rt_r _ _ t _ _ _ (hr5.out.ext hE5) H2.out).mono ?_; rintro e w6 ⟨rfl, rfl⟩)
    | ((with_reducible show wpList _ _ _ (⟨some 59, _, _, _, _, _⟩ :: _) _ _); refine wpl_load_box rfl _ _ rfl _ rfl (show BoxF _ _ [.int .i64 0, .string (strL x1), .string ⟨#[]⟩] from C5) Try.underlying28 rfl (by kernel_rfl) ?_)
    | ((with_reducible show wpList _ _ _ (⟨none, Op.store _ _ _, _, _, _, _⟩ :: _) _ _); refine wpl_store_box rfl _ _ _ rfl _ [.int .i64 0, .string (strL x1), .string ⟨#[]⟩] rfl rfl B5 rfl (by kernel_rfl) (by rfl) ?_; intro w9 B9 O9)
    | fail)
  try simp only [Exit.inBlock, Exit.then]
  refine ret_box rfl rfl rfl rfl B9 Try.underlying28 rfl (by kernel_rfl) ?_
  exact RetOne.no HRES.out _ _ _ (hE5.on O9 (Nat.le_refl _))

set_option maxRecDepth 100000 in
set_option maxHeartbeats 2000000 in
theorem oner_0m (w : World) (v : Value) (s : List UInt8) (hr : Rd w v s) (x1 : List UInt8) (n1 : Nat) (h1 : readT s = (x1, n1, 0)) (x2 : List UInt8) (n2 : Nat) (h2 : readT (s.drop n1) = (x2, n2, 0)) (hn2 : n2 = (s.drop n1).length) (b : Bool) (hm : mayP (0, x1, x2) = b) :
    Calls Try.prog 32 #[.int .i64 0, v] w (RetOne w (oneP 0 s)) := by
  have HRES := Lib.hid ((oneP_0 s _ _ h1).trans (tail_m _ _ _ _ _ _ h2 hn2 hm))
  obtain ⟨A3, k3, rfl, hk3, hm3, _, _⟩ := id hr
  have H1 := Lib.hid h1
  have hn1 := (readT_len h1).1
  obtain ⟨t, ht⟩ : ∃ t, t = s.drop n1 := ⟨_, rfl⟩
  rw [← ht] at h2 hn2
  have HT := Lib.hid ht
  have H2 := Lib.hid h2
  subst hn2
  have HM := Lib.hid hm
  have tok : True := trivial
  have tok1 : True := trivial
  have HR := Lib.hid hr
  clear h1 ht h2 hm hr hk3 hm3
  go_enter Try.func32, Try.ntmps32
  go_wp2_with (first
    | (go_at_call 31; have _t := tok1; obtain ⟨B3, C3, hE⟩ := two_boxes w ((w.alloc (.cells #[.int .i64 0, .string ⟨#[]⟩, .string ⟨#[]⟩] 28)).alloc (.cells #[.int .i64 0, .string ⟨#[]⟩, .string ⟨#[]⟩] 28)) 0 0 _ _ _ _ rfl rfl (Ext.refl _); generalize (World.alloc (World.alloc w _) _) = w3 at B3 C3 hE ⊢; refine (rt_r _ _ s _ _ _ (HR.out.ext hE) H1.out).mono ?_; rintro e w4 ⟨rfl, rfl⟩; clear tok1)
    | ((with_reducible show wpList _ _ _ (⟨none, Op.store _ _ _, _, _, _, _⟩ :: _) _ _); have _t := tok; clear tok; refine wpl_store_cell rfl _ _ _ rfl (w.heap.size + 1) 1 (.string (strL x1)) rfl rfl rfl rfl (by kernel_rfl) C3 (by simp) ?_; intro w5 C5 O5; have tok2 : True := trivial; have B5 := B3.on O5 (by omega); have hE5 := hE.on O5 (by omega))
    | ((with_reducible show wpList _ _ _ (⟨some 30, _, _, _, _, _⟩ :: _) _ _); refine wpl_cut_lo bt HR.out (n1 : Int) (by omega) (by omega) rfl _ _ _ rfl rfl rfl ?_; intro A5 m5 k5 hr5; rw [Int.toNat_natCast, ← HT.out] at hr5; obtain ⟨rfl, hk5⟩ := rd_shape hr5; replace hr5 := Lib.hid hr5; clear hk5)
    | (go_at_call 31; refine (rt_r _ _ t _ _ _ (hr5.out.ext hE5) H2.out).mono ?_; rintro e w6 ⟨rfl, rfl⟩)
    | ((with_reducible show wpList _ _ _ (⟨none, Op.store _ _ _, _, _, _, _⟩ :: _) _ _); clear tok2; refine wpl_store_cell rfl _ _ _ rfl (w.heap.size + 1) 2 (.string (strL x2)) rfl rfl rfl rfl (by kernel_rfl) C5 (by simp) ?_; intro w6 C6 O6; have B6 := B5.on O6 (by omega); have hE6 := hE5.on O6 (by omega))
    | fail)
  clear O6
  have C7 : BoxF w6 (w.heap.size + 1) [.int .i64 0, .string (strL x1), .string (strL x2)] := C6
  have B7 : BoxF w6 w.heap.size (chg0 0) := B6
  have hE7 : Ext w w6 := hE6
  clear B6 C6 hE6
  obtain ⟨z0, z1, z2⟩ := B7.c3
  obtain ⟨y0, y1, y2⟩ := B7.f3
  have za0 : ∀ o, (w6.alloc o).cell? ⟨w.heap.size, 0, none⟩ = _ := fun o => (B7.ext ((Ext.refl _).alloc o)).c3.1
  have ya0 : ∀ o, (w6.alloc o).frozen? ⟨w.heap.size, 0, none⟩ = false := fun o => (B7.ext ((Ext.refl _).alloc o)).f3.1
  have za1 : ∀ o, (w6.alloc o).cell? ⟨w.heap.size, 1, none⟩ = _ := fun o => (B7.ext ((Ext.refl _).alloc o)).c3.2.1
  have ya1 : ∀ o, (w6.alloc o).frozen? ⟨w.heap.size, 1, none⟩ = false := fun o => (B7.ext ((Ext.refl _).alloc o)).f3.2.1
  have za2 : ∀ o, (w6.alloc o).cell? ⟨w.heap.size, 2, none⟩ = _ := fun o => (B7.ext ((Ext.refl _).alloc o)).c3.2.2
  have ya2 : ∀ o, (w6.alloc o).frozen? ⟨w.heap.size, 2, none⟩ = false := fun o => (B7.ext ((Ext.refl _).alloc o)).f3.2.2
  go_region_held3 (fun W' => W'.cell? ⟨w.heap.size + 1, 0, none⟩ = some (.int .i64 0) ∧ W'.cell? ⟨w.heap.size + 1, 1, none⟩ = some (.string (strL x1)) ∧ W'.cell? ⟨w.heap.size + 1, 2, none⟩ = some (.string (strL x2))) ((refine BoxF.c3 ?_; first | exact C7.ext (Ext.refl _).drew | exact C7.ext ((Ext.refl _).drew.alloc _) | exact C7.ext ((Ext.refl _).alloc _).drew | exact (C7.ext ((Ext.refl _).drew.alloc _)).on (g := w.heap.size + 1) (On.sets _ 0 [.int .i64 0, .string (strL x1), .string (strL x2)]) (by omega) | exact (C7.ext ((Ext.refl _).alloc _).drew).on (On.sets _ 0 [.int .i64 0, .string (strL x1), .string (strL x2)]) (by omega) | fail))
    (first
      | (go_at_call 29; go_must (refine (may_r _ 0 x1 x2 _ HM.out).mono ?_; rintro e w8 ⟨rfl, rfl⟩))
      | fail)
  all_goals
    go_wp2_with fail
    try simp only [Exit.inBlock, Exit.then]
    first
      | (have B9 := ((B7.ext ((Ext.refl _).alloc (.cells #[.int .i64 0, .string (strL x1), .string (strL x2)] 28))).sets (ds := [.int .i64 0, .string (strL x1), .string (strL x2)]) rfl).ext (Ext.refl _).drew; have O9 := ((hE7.trans ((Ext.refl _).alloc (.cells #[.int .i64 0, .string (strL x1), .string (strL x2)] 28))).on (On.sets (g := w.heap.size) _ 0 [.int .i64 0, .string (strL x1), .string (strL x2)]) (Nat.le_refl _)).drew; refine ret_box rfl rfl rfl rfl B9 Try.underlying28 rfl (by kernel_rfl) ?_; exact RetOne.may 0 x1 x2 b HRES.out O9)
      | fail

set_option maxRecDepth 100000 in
set_option maxHeartbeats 2000000 in
theorem oner_3l (w : World) (v : Value) (s : List UInt8) (hr : Rd w v s) (hp : s.length = 0) :
    Calls Try.prog 32 #[.int .i64 3, v] w (RetOne w (oneP 3 s)) := by
  have HRES := Lib.hid (oneP_3l s hp)
  obtain ⟨A3, k3, rfl, hk3, hm3, _, _⟩ := id hr
  have hpi : (s.length : Int) = 0 := by omega
  have HR := Lib.hid hr
  clear hp hr hk3 hm3
  go_enter Try.func32, Try.ntmps32
  go_wp2_with (first
    | ((with_reducible show wpList _ _ _ (⟨some 42, _, _, _, _, _⟩ :: _) _ _); obtain ⟨B3, C3, hE⟩ := two_boxes w ((w.alloc (.cells #[.int .i64 0, .string ⟨#[]⟩, .string ⟨#[]⟩] 28)).alloc (.cells #[.int .i64 3, .string ⟨#[]⟩, .string ⟨#[]⟩] 28)) 0 3 _ _ _ _ rfl rfl (Ext.refl _); generalize (World.alloc (World.alloc w _) _) = w3 at B3 C3 hE ⊢; refine wpl_load_box rfl _ _ rfl _ rfl C3 Try.underlying28 rfl (by kernel_rfl) ?_)
    | ((with_reducible show wpList _ _ _ (⟨none, Op.store _ _ _, _, _, _, _⟩ :: _) _ _); refine wpl_store_box rfl _ _ _ rfl _ [.int .i64 3, .string ⟨#[]⟩, .string ⟨#[]⟩] rfl rfl B3 rfl (by kernel_rfl) (by rfl) ?_; intro w9 B9 O9)
    | fail)
  try simp only [Exit.inBlock, Exit.then]
  refine ret_box rfl rfl rfl rfl B9 Try.underlying28 rfl (by kernel_rfl) ?_
  exact RetOne.no HRES.out _ _ _ (hE.on O9 (Nat.le_refl _))

set_option maxRecDepth 100000 in
set_option maxHeartbeats 2000000 in
theorem oner_3z (w : World) (v : Value) (s : List UInt8) (hr : Rd w v s) (hp : 0 < s.length) (h0 : s.getD 0 0 ≠ 0) :
    Calls Try.prog 32 #[.int .i64 3, v] w (RetOne w (oneP 3 s)) := by
  have HRES := Lib.hid (oneP_3n s hp h0)
  obtain ⟨A3, k3, rfl, hk3, hm3, _, _⟩ := id hr
  obtain ⟨b3, o3, rfl, hc3⟩ := rd_first hr hp
  obtain ⟨x0, hx0⟩ : ∃ x0 : Int, ((s.getD 0 0).toNat : Int) = x0 := ⟨_, rfl⟩
  rw [hx0] at hc3
  have hb0 : (x0 == 0) = false := by rw [← hx0]; simp only [beq_eq_false_iff_ne]; intro e; exact h0 (UInt8.toNat_inj.1 (by rw [show UInt8.toNat 0 = 0 from rfl]; omega))
  have hb0' : (x0 != 0) = true := by rw [bne, hb0]; rfl
  have hpi : ¬ ((s.length : Int) = 0) := by omega
  have hpb : ((s.length : Int) == 0) = false := by simpa using hpi
  have hd3 : ∀ o1 o2, ((w.alloc o1).alloc o2).cell? ⟨b3, o3, none⟩ = _ := fun o1 o2 => Ext.cell (((Ext.refl w).alloc o1).alloc o2) hc3
  have HR := Lib.hid hr
  clear hx0 h0 hc3 hr hk3 hm3
  go_enter Try.func32, Try.ntmps32
  go_wp2_with (first
    | ((with_reducible show wpList _ _ _ (⟨some 42, _, _, _, _, _⟩ :: _) _ _); obtain ⟨B3, C3, hE⟩ := two_boxes w ((w.alloc (.cells #[.int .i64 0, .string ⟨#[]⟩, .string ⟨#[]⟩] 28)).alloc (.cells #[.int .i64 3, .string ⟨#[]⟩, .string ⟨#[]⟩] 28)) 0 3 _ _ _ _ rfl rfl (Ext.refl _); generalize (World.alloc (World.alloc w _) _) = w3 at B3 C3 hE ⊢; refine wpl_load_box rfl _ _ rfl _ rfl C3 Try.underlying28 rfl (by kernel_rfl) ?_)
    | ((with_reducible show wpList _ _ _ (⟨none, Op.store _ _ _, _, _, _, _⟩ :: _) _ _); refine wpl_store_box rfl _ _ _ rfl _ [.int .i64 3, .string ⟨#[]⟩, .string ⟨#[]⟩] rfl rfl B3 rfl (by kernel_rfl) (by rfl) ?_; intro w9 B9 O9)
    | fail)
  try simp only [Exit.inBlock, Exit.then]
  refine ret_box rfl rfl rfl rfl B9 Try.underlying28 rfl (by kernel_rfl) ?_
  exact RetOne.no HRES.out _ _ _ (hE.on O9 (Nat.le_refl _))

set_option maxRecDepth 100000 in
set_option maxHeartbeats 2000000 in
theorem oner_3r (w : World) (v : Value) (s : List UInt8) (hr : Rd w v s) (hp : 0 < s.length) (h0 : s.getD 0 0 = 0) (x2 : List UInt8) (n2 : Nat) (r2 : Int) (h2 : readT (s.drop 1) = (x2, n2, r2)) (hr2 : r2 ≠ 0) :
    Calls Try.prog 32 #[.int .i64 3, v] w (RetOne w (oneP 3 s)) := by
  have HRES := Lib.hid ((oneP_3 s hp h0).trans (tail_r _ _ _ _ _ _ h2 hr2))
  obtain ⟨A3, k3, rfl, hk3, hm3, _, _⟩ := id hr
  obtain ⟨b3, o3, rfl, hc3⟩ := rd_first hr hp
  obtain ⟨x0, hx0⟩ : ∃ x0 : Int, ((s.getD 0 0).toNat : Int) = x0 := ⟨_, rfl⟩
  rw [hx0] at hc3
  have hb0 : x0 = 0 := by rw [← hx0, h0]; rfl
  subst hb0
  have hpi : ¬ ((s.length : Int) = 0) := by omega
  have hpb : ((s.length : Int) == 0) = false := by simpa using hpi
  have hd3 : ∀ o1 o2, ((w.alloc o1).alloc o2).cell? ⟨b3, o3, none⟩ = _ := fun o1 o2 => Ext.cell (((Ext.refl w).alloc o1).alloc o2) hc3
  obtain ⟨t, ht⟩ : ∃ t, t = s.drop 1 := ⟨_, rfl⟩
  rw [← ht] at h2
  have HT := Lib.hid ht
  have H2 := Lib.hid h2
  have hb2 : (r2 == 0) = false := by simpa using hr2
  have tok : True := trivial
  have tok1 : True := trivial
  have HR := Lib.hid hr
  clear hx0 h0 hc3 ht h2 hr2 hr hk3 hm3
  go_enter Try.func32, Try.ntmps32
  go_wp2_with (first
    | ((with_reducible show wpList _ _ _ (⟨some 44, _, _, _, _, _⟩ :: _) _ _); refine wpl_cut_lo bt HR.out 1 (by omega) (by omega) rfl _ _ _ rfl rfl rfl ?_; intro A5 m5 k5 hr5; rw [show (1 : Int).toNat = 1 from rfl, ← HT.out] at hr5; obtain ⟨rfl, hk5⟩ := rd_shape hr5; replace hr5 := Lib.hid hr5; clear hk5)
    | (go_at_call 31; obtain ⟨B3, C3, hE⟩ := two_boxes w ((w.alloc (.cells #[.int .i64 0, .string ⟨#[]⟩, .string ⟨#[]⟩] 28)).alloc (.cells #[.int .i64 3, .string ⟨#[]⟩, .string ⟨#[]⟩] 28)) 0 3 _ _ _ _ rfl rfl (Ext.refl _); generalize (World.alloc (World.alloc w _) _) = w3 at B3 C3 hE ⊢; refine (rt_r _ _ t _ _ _ (hr5.out.ext hE) H2.out).mono ?_; rintro e w6 ⟨rfl, rfl⟩)
    | ((with_reducible show wpList _ _ _ (⟨some 59, _, _, _, _, _⟩ :: _) _ _); refine wpl_load_box rfl _ _ rfl _ rfl (show BoxF _ _ [.int .i64 3, .string ⟨#[]⟩, .string ⟨#[]⟩] from C3) Try.underlying28 rfl (by kernel_rfl) ?_)
    | ((with_reducible show wpList _ _ _ (⟨none, Op.store _ _ _, _, _, _, _⟩ :: _) _ _); refine wpl_store_box rfl _ _ _ rfl _ [.int .i64 3, .string ⟨#[]⟩, .string ⟨#[]⟩] rfl rfl B3 rfl (by kernel_rfl) (by rfl) ?_; intro w9 B9 O9)
    | fail)
  try simp only [Exit.inBlock, Exit.then]
  refine ret_box rfl rfl rfl rfl B9 Try.underlying28 rfl (by kernel_rfl) ?_
  exact RetOne.no HRES.out _ _ _ (hE.on O9 (Nat.le_refl _))

set_option maxRecDepth 100000 in
set_option maxHeartbeats 2000000 in
theorem oner_3n (w : World) (v : Value) (s : List UInt8) (hr : Rd w v s) (hp : 0 < s.length) (h0 : s.getD 0 0 = 0) (x2 : List UInt8) (n2 : Nat) (h2 : readT (s.drop 1) = (x2, n2, 0)) (hn2 : n2 ≠ (s.drop 1).length) :
    Calls Try.prog 32 #[.int .i64 3, v] w (RetOne w (oneP 3 s)) := by
  have HRES := Lib.hid ((oneP_3 s hp h0).trans (tail_n _ _ _ _ _ h2 hn2))
  obtain ⟨A3, k3, rfl, hk3, hm3, _, _⟩ := id hr
  obtain ⟨b3, o3, rfl, hc3⟩ := rd_first hr hp
  obtain ⟨x0, hx0⟩ : ∃ x0 : Int, ((s.getD 0 0).toNat : Int) = x0 := ⟨_, rfl⟩
  rw [hx0] at hc3
  have hb0 : x0 = 0 := by rw [← hx0, h0]; rfl
  subst hb0
  have hpi : ¬ ((s.length : Int) = 0) := by omega
  have hpb : ((s.length : Int) == 0) = false := by simpa using hpi
  have hd3 : ∀ o1 o2, ((w.alloc o1).alloc o2).cell? ⟨b3, o3, none⟩ = _ := fun o1 o2 => Ext.cell (((Ext.refl w).alloc o1).alloc o2) hc3
  obtain ⟨t, ht⟩ : ∃ t, t = s.drop 1 := ⟨_, rfl⟩
  rw [← ht] at h2 hn2
  have HT := Lib.hid ht
  have H2 := Lib.hid h2
  have hb2 : ((n2 : Int) == (t.length : Int)) = false := by simp; omega
  have tok : True := trivial
  have tok1 : True := trivial
  have HR := Lib.hid hr
  clear hx0 h0 hc3 ht h2 hn2 hr hk3 hm3
  go_enter Try.func32, Try.ntmps32
  go_wp2_with (first
    | ((with_reducible show wpList _ _ _ (⟨some 44, _, _, _, _, _⟩ :: _) _ _); refine wpl_cut_lo bt HR.out 1 (by omega) (by omega) rfl _ _ _ rfl rfl rfl ?_; intro A5 m5 k5 hr5; rw [show (1 : Int).toNat = 1 from rfl, ← HT.out] at hr5; obtain ⟨rfl, hk5⟩ := rd_shape hr5; replace hr5 := Lib.hid hr5; clear hk5)
    | (go_at_call 31; obtain ⟨B3, C3, hE⟩ := two_boxes w ((w.alloc (.cells #[.int .i64 0, .string ⟨#[]⟩, .string ⟨#[]⟩] 28)).alloc (.cells #[.int .i64 3, .string ⟨#[]⟩, .string ⟨#[]⟩] 28)) 0 3 _ _ _ _ rfl rfl (Ext.refl _); generalize (World.alloc (World.alloc w _) _) = w3 at B3 C3 hE ⊢; refine (rt_r _ _ t _ _ _ (hr5.out.ext hE) H2.out).mono ?_; rintro e w6 ⟨rfl, rfl⟩)
    | ((with_reducible show wpList _ _ _ (⟨some 59, _, _, _, _, _⟩ :: _) _ _); refine wpl_load_box rfl _ _ rfl _ rfl (show BoxF _ _ [.int .i64 3, .string ⟨#[]⟩, .string ⟨#[]⟩] from C3) Try.underlying28 rfl (by kernel_rfl) ?_)
    | ((with_reducible show wpList _ _ _ (⟨none, Op.store _ _ _, _, _, _, _⟩ :: _) _ _); refine wpl_store_box rfl _ _ _ rfl _ [.int .i64 3, .string ⟨#[]⟩, .string ⟨#[]⟩] rfl rfl B3 rfl (by kernel_rfl) (by rfl) ?_; intro w9 B9 O9)
    | fail)
  try simp only [Exit.inBlock, Exit.then]
  refine ret_box rfl rfl rfl rfl B9 Try.underlying28 rfl (by kernel_rfl) ?_
  exact RetOne.no HRES.out _ _ _ (hE.on O9 (Nat.le_refl _))

set_option maxRecDepth 100000 in
set_option maxHeartbeats 2000000 in
theorem oner_3m (w : World) (v : Value) (s : List UInt8) (hr : Rd w v s) (hp : 0 < s.length) (h0 : s.getD 0 0 = 0) (x2 : List UInt8) (n2 : Nat) (h2 : readT (s.drop 1) = (x2, n2, 0)) (hn2 : n2 = (s.drop 1).length) (b : Bool) (hm : mayP (3, [], x2) = b) :
    Calls Try.prog 32 #[.int .i64 3, v] w (RetOne w (oneP 3 s)) := by
  have HRES := Lib.hid ((oneP_3 s hp h0).trans (tail_m _ _ _ _ _ _ h2 hn2 hm))
  obtain ⟨A3, k3, rfl, hk3, hm3, _, _⟩ := id hr
  obtain ⟨b3, o3, rfl, hc3⟩ := rd_first hr hp
  obtain ⟨x0, hx0⟩ : ∃ x0 : Int, ((s.getD 0 0).toNat : Int) = x0 := ⟨_, rfl⟩
  rw [hx0] at hc3
  have hb0 : x0 = 0 := by rw [← hx0, h0]; rfl
  subst hb0
  have hpi : ¬ ((s.length : Int) = 0) := by omega
  have hpb : ((s.length : Int) == 0) = false := by simpa using hpi
  have hd3 : ∀ o1 o2, ((w.alloc o1).alloc o2).cell? ⟨b3, o3, none⟩ = _ := fun o1 o2 => Ext.cell (((Ext.refl w).alloc o1).alloc o2) hc3
  obtain ⟨t, ht⟩ : ∃ t, t = s.drop 1 := ⟨_, rfl⟩
  rw [← ht] at h2 hn2
  have HT := Lib.hid ht
  have H2 := Lib.hid h2
  subst hn2
  have HM := Lib.hid hm
  have tok : True := trivial
  have tok1 : True := trivial
  have HR := Lib.hid hr
  clear hx0 h0 hc3 ht h2 hm hr hk3 hm3
  go_enter Try.func32, Try.ntmps32
  go_wp2_with (first
    | ((with_reducible show wpList _ _ _ (⟨some 44, _, _, _, _, _⟩ :: _) _ _); refine wpl_cut_lo bt HR.out 1 (by omega) (by omega) rfl _ _ _ rfl rfl rfl ?_; intro A5 m5 k5 hr5; rw [show (1 : Int).toNat = 1 from rfl, ← HT.out] at hr5; obtain ⟨rfl, hk5⟩ := rd_shape hr5; replace hr5 := Lib.hid hr5; clear hk5)
    | (go_at_call 31; obtain ⟨B3, C3, hE⟩ := two_boxes w ((w.alloc (.cells #[.int .i64 0, .string ⟨#[]⟩, .string ⟨#[]⟩] 28)).alloc (.cells #[.int .i64 3, .string ⟨#[]⟩, .string ⟨#[]⟩] 28)) 0 3 _ _ _ _ rfl rfl (Ext.refl _); generalize (World.alloc (World.alloc w _) _) = w3 at B3 C3 hE ⊢; refine (rt_r _ _ t _ _ _ (hr5.out.ext hE) H2.out).mono ?_; rintro e w6 ⟨rfl, rfl⟩)
    | ((with_reducible show wpList _ _ _ (⟨none, Op.store _ _ _, _, _, _, _⟩ :: _) _ _); clear tok; refine wpl_store_cell rfl _ _ _ rfl (w.heap.size + 1) 2 (.string (strL x2)) rfl rfl rfl rfl (by kernel_rfl) C3 (by simp) ?_; intro w6 C6 O6; have B6 := B3.on O6 (by omega); have hE6 := hE.on O6 (by omega))
    | fail)
  clear O6
  have C7 : BoxF w6 (w.heap.size + 1) [.int .i64 3, .string (strL []), .string (strL x2)] := C6
  have B7 : BoxF w6 w.heap.size (chg0 0) := B6
  have hE7 : Ext w w6 := hE6
  clear B6 C6 hE6
  obtain ⟨z0, z1, z2⟩ := B7.c3
  obtain ⟨y0, y1, y2⟩ := B7.f3
  have za0 : ∀ o, (w6.alloc o).cell? ⟨w.heap.size, 0, none⟩ = _ := fun o => (B7.ext ((Ext.refl _).alloc o)).c3.1
  have ya0 : ∀ o, (w6.alloc o).frozen? ⟨w.heap.size, 0, none⟩ = false := fun o => (B7.ext ((Ext.refl _).alloc o)).f3.1
  have za1 : ∀ o, (w6.alloc o).cell? ⟨w.heap.size, 1, none⟩ = _ := fun o => (B7.ext ((Ext.refl _).alloc o)).c3.2.1
  have ya1 : ∀ o, (w6.alloc o).frozen? ⟨w.heap.size, 1, none⟩ = false := fun o => (B7.ext ((Ext.refl _).alloc o)).f3.2.1
  have za2 : ∀ o, (w6.alloc o).cell? ⟨w.heap.size, 2, none⟩ = _ := fun o => (B7.ext ((Ext.refl _).alloc o)).c3.2.2
  have ya2 : ∀ o, (w6.alloc o).frozen? ⟨w.heap.size, 2, none⟩ = false := fun o => (B7.ext ((Ext.refl _).alloc o)).f3.2.2
  go_region_held3 (fun W' => W'.cell? ⟨w.heap.size + 1, 0, none⟩ = some (.int .i64 3) ∧ W'.cell? ⟨w.heap.size + 1, 1, none⟩ = some (.string (strL [])) ∧ W'.cell? ⟨w.heap.size + 1, 2, none⟩ = some (.string (strL x2))) ((refine BoxF.c3 ?_; first | exact C7.ext (Ext.refl _).drew | exact C7.ext ((Ext.refl _).drew.alloc _) | exact C7.ext ((Ext.refl _).alloc _).drew | exact (C7.ext ((Ext.refl _).drew.alloc _)).on (g := w.heap.size + 1) (On.sets _ 0 [.int .i64 3, .string (strL []), .string (strL x2)]) (by omega) | exact (C7.ext ((Ext.refl _).alloc _).drew).on (On.sets _ 0 [.int .i64 3, .string (strL []), .string (strL x2)]) (by omega) | fail))
    (first
      | (go_at_call 29; go_must (refine (may_r _ 3 [] x2 _ HM.out).mono ?_; rintro e w8 ⟨rfl, rfl⟩))
      | fail)
  all_goals
    go_wp2_with fail
    try simp only [Exit.inBlock, Exit.then]
    first
      | (have B9 := ((B7.ext ((Ext.refl _).alloc (.cells #[.int .i64 3, .string (strL []), .string (strL x2)] 28))).sets (ds := [.int .i64 3, .string (strL []), .string (strL x2)]) rfl).ext (Ext.refl _).drew; have O9 := ((hE7.trans ((Ext.refl _).alloc (.cells #[.int .i64 3, .string (strL []), .string (strL x2)] 28))).on (On.sets (g := w.heap.size) _ 0 [.int .i64 3, .string (strL []), .string (strL x2)]) (Nat.le_refl _)).drew; refine ret_box rfl rfl rfl rfl B9 Try.underlying28 rfl (by kernel_rfl) ?_; exact RetOne.may 3 [] x2 b HRES.out O9)
      | fail

set_option maxRecDepth 100000 in
set_option maxHeartbeats 2000000 in
theorem oner_1r (w : World) (v : Value) (s : List UInt8) (hr : Rd w v s) (x2 : List UInt8) (n2 : Nat) (r2 : Int) (h2 : readT (s) = (x2, n2, r2)) (hr2 : r2 ≠ 0) :
    Calls Try.prog 32 #[.int .i64 1, v] w (RetOne w (oneP 1 s)) := by
  have HRES := Lib.hid ((show oneP 1 s = tailP 1 [] s from by unfold oneP; rw [if_neg (by decide), if_neg (by decide)]).trans (tail_r _ _ _ _ _ _ h2 hr2))
  obtain ⟨A3, k3, rfl, hk3, hm3, _, _⟩ := id hr
  obtain ⟨t, ht⟩ : ∃ t, t = s := ⟨_, rfl⟩
  rw [← ht] at h2
  subst ht
  have H2 := Lib.hid h2
  have hb2 : (r2 == 0) = false := by simpa using hr2
  have tok : True := trivial
  have tok1 : True := trivial
  have HR := Lib.hid hr
  clear h2 hr2 hr hk3 hm3
  go_enter Try.func32, Try.ntmps32
  go_wp2_with (first
    | (go_at_call 31; obtain ⟨B3, C3, hE⟩ := two_boxes w ((w.alloc (.cells #[.int .i64 0, .string ⟨#[]⟩, .string ⟨#[]⟩] 28)).alloc (.cells #[.int .i64 1, .string ⟨#[]⟩, .string ⟨#[]⟩] 28)) 0 1 _ _ _ _ rfl rfl (Ext.refl _); generalize (World.alloc (World.alloc w _) _) = w3 at B3 C3 hE ⊢; refine (rt_r _ _ _ _ _ _ (HR.out.ext hE) H2.out).mono ?_; rintro e w6 ⟨rfl, rfl⟩)
    | ((with_reducible show wpList _ _ _ (⟨some 59, _, _, _, _, _⟩ :: _) _ _); refine wpl_load_box rfl _ _ rfl _ rfl (show BoxF _ _ [.int .i64 1, .string ⟨#[]⟩, .string ⟨#[]⟩] from C3) Try.underlying28 rfl (by kernel_rfl) ?_)
    | ((with_reducible show wpList _ _ _ (⟨none, Op.store _ _ _, _, _, _, _⟩ :: _) _ _); refine wpl_store_box rfl _ _ _ rfl _ [.int .i64 1, .string ⟨#[]⟩, .string ⟨#[]⟩] rfl rfl B3 rfl (by kernel_rfl) (by rfl) ?_; intro w9 B9 O9)
    | fail)
  try simp only [Exit.inBlock, Exit.then]
  refine ret_box rfl rfl rfl rfl B9 Try.underlying28 rfl (by kernel_rfl) ?_
  exact RetOne.no HRES.out _ _ _ (hE.on O9 (Nat.le_refl _))

set_option maxRecDepth 100000 in
set_option maxHeartbeats 2000000 in
theorem oner_1n (w : World) (v : Value) (s : List UInt8) (hr : Rd w v s) (x2 : List UInt8) (n2 : Nat) (h2 : readT (s) = (x2, n2, 0)) (hn2 : n2 ≠ (s).length) :
    Calls Try.prog 32 #[.int .i64 1, v] w (RetOne w (oneP 1 s)) := by
  have HRES := Lib.hid ((show oneP 1 s = tailP 1 [] s from by unfold oneP; rw [if_neg (by decide), if_neg (by decide)]).trans (tail_n _ _ _ _ _ h2 hn2))
  obtain ⟨A3, k3, rfl, hk3, hm3, _, _⟩ := id hr
  obtain ⟨t, ht⟩ : ∃ t, t = s := ⟨_, rfl⟩
  rw [← ht] at h2 hn2
  subst ht
  have H2 := Lib.hid h2
  have hb2 : ((n2 : Int) == (t.length : Int)) = false := by simp; omega
  have tok : True := trivial
  have tok1 : True := trivial
  have HR := Lib.hid hr
  clear h2 hn2 hr hk3 hm3
  go_enter Try.func32, Try.ntmps32
  go_wp2_with (first
    | (go_at_call 31; obtain ⟨B3, C3, hE⟩ := two_boxes w ((w.alloc (.cells #[.int .i64 0, .string ⟨#[]⟩, .string ⟨#[]⟩] 28)).alloc (.cells #[.int .i64 1, .string ⟨#[]⟩, .string ⟨#[]⟩] 28)) 0 1 _ _ _ _ rfl rfl (Ext.refl _); generalize (World.alloc (World.alloc w _) _) = w3 at B3 C3 hE ⊢; refine (rt_r _ _ _ _ _ _ (HR.out.ext hE) H2.out).mono ?_; rintro e w6 ⟨rfl, rfl⟩)
    | ((with_reducible show wpList _ _ _ (⟨some 59, _, _, _, _, _⟩ :: _) _ _); refine wpl_load_box rfl _ _ rfl _ rfl (show BoxF _ _ [.int .i64 1, .string ⟨#[]⟩, .string ⟨#[]⟩] from C3) Try.underlying28 rfl (by kernel_rfl) ?_)
    | ((with_reducible show wpList _ _ _ (⟨none, Op.store _ _ _, _, _, _, _⟩ :: _) _ _); refine wpl_store_box rfl _ _ _ rfl _ [.int .i64 1, .string ⟨#[]⟩, .string ⟨#[]⟩] rfl rfl B3 rfl (by kernel_rfl) (by rfl) ?_; intro w9 B9 O9)
    | fail)
  try simp only [Exit.inBlock, Exit.then]
  refine ret_box rfl rfl rfl rfl B9 Try.underlying28 rfl (by kernel_rfl) ?_
  exact RetOne.no HRES.out _ _ _ (hE.on O9 (Nat.le_refl _))

set_option maxRecDepth 100000 in
set_option maxHeartbeats 2000000 in
theorem oner_1m (w : World) (v : Value) (s : List UInt8) (hr : Rd w v s) (x2 : List UInt8) (n2 : Nat) (h2 : readT (s) = (x2, n2, 0)) (hn2 : n2 = (s).length) (b : Bool) (hm : mayP (1, [], x2) = b) :
    Calls Try.prog 32 #[.int .i64 1, v] w (RetOne w (oneP 1 s)) := by
  have HRES := Lib.hid ((show oneP 1 s = tailP 1 [] s from by unfold oneP; rw [if_neg (by decide), if_neg (by decide)]).trans (tail_m _ _ _ _ _ _ h2 hn2 hm))
  obtain ⟨A3, k3, rfl, hk3, hm3, _, _⟩ := id hr
  obtain ⟨t, ht⟩ : ∃ t, t = s := ⟨_, rfl⟩
  rw [← ht] at h2 hn2
  subst ht
  have H2 := Lib.hid h2
  subst hn2
  have HM := Lib.hid hm
  have tok : True := trivial
  have tok1 : True := trivial
  have HR := Lib.hid hr
  clear h2 hm hr hk3 hm3
  go_enter Try.func32, Try.ntmps32
  go_wp2_with (first
    | (go_at_call 31; obtain ⟨B3, C3, hE⟩ := two_boxes w ((w.alloc (.cells #[.int .i64 0, .string ⟨#[]⟩, .string ⟨#[]⟩] 28)).alloc (.cells #[.int .i64 1, .string ⟨#[]⟩, .string ⟨#[]⟩] 28)) 0 1 _ _ _ _ rfl rfl (Ext.refl _); generalize (World.alloc (World.alloc w _) _) = w3 at B3 C3 hE ⊢; refine (rt_r _ _ _ _ _ _ (HR.out.ext hE) H2.out).mono ?_; rintro e w6 ⟨rfl, rfl⟩)
    | ((with_reducible show wpList _ _ _ (⟨none, Op.store _ _ _, _, _, _, _⟩ :: _) _ _); clear tok; refine wpl_store_cell rfl _ _ _ rfl (w.heap.size + 1) 2 (.string (strL x2)) rfl rfl rfl rfl (by kernel_rfl) C3 (by simp) ?_; intro w6 C6 O6; have B6 := B3.on O6 (by omega); have hE6 := hE.on O6 (by omega))
    | fail)
  clear O6
  have C7 : BoxF w6 (w.heap.size + 1) [.int .i64 1, .string (strL []), .string (strL x2)] := C6
  have B7 : BoxF w6 w.heap.size (chg0 0) := B6
  have hE7 : Ext w w6 := hE6
  clear B6 C6 hE6
  obtain ⟨z0, z1, z2⟩ := B7.c3
  obtain ⟨y0, y1, y2⟩ := B7.f3
  have za0 : ∀ o, (w6.alloc o).cell? ⟨w.heap.size, 0, none⟩ = _ := fun o => (B7.ext ((Ext.refl _).alloc o)).c3.1
  have ya0 : ∀ o, (w6.alloc o).frozen? ⟨w.heap.size, 0, none⟩ = false := fun o => (B7.ext ((Ext.refl _).alloc o)).f3.1
  have za1 : ∀ o, (w6.alloc o).cell? ⟨w.heap.size, 1, none⟩ = _ := fun o => (B7.ext ((Ext.refl _).alloc o)).c3.2.1
  have ya1 : ∀ o, (w6.alloc o).frozen? ⟨w.heap.size, 1, none⟩ = false := fun o => (B7.ext ((Ext.refl _).alloc o)).f3.2.1
  have za2 : ∀ o, (w6.alloc o).cell? ⟨w.heap.size, 2, none⟩ = _ := fun o => (B7.ext ((Ext.refl _).alloc o)).c3.2.2
  have ya2 : ∀ o, (w6.alloc o).frozen? ⟨w.heap.size, 2, none⟩ = false := fun o => (B7.ext ((Ext.refl _).alloc o)).f3.2.2
  go_region_held3 (fun W' => W'.cell? ⟨w.heap.size + 1, 0, none⟩ = some (.int .i64 1) ∧ W'.cell? ⟨w.heap.size + 1, 1, none⟩ = some (.string (strL [])) ∧ W'.cell? ⟨w.heap.size + 1, 2, none⟩ = some (.string (strL x2))) ((refine BoxF.c3 ?_; first | exact C7.ext (Ext.refl _).drew | exact C7.ext ((Ext.refl _).drew.alloc _) | exact C7.ext ((Ext.refl _).alloc _).drew | exact (C7.ext ((Ext.refl _).drew.alloc _)).on (g := w.heap.size + 1) (On.sets _ 0 [.int .i64 1, .string (strL []), .string (strL x2)]) (by omega) | exact (C7.ext ((Ext.refl _).alloc _).drew).on (On.sets _ 0 [.int .i64 1, .string (strL []), .string (strL x2)]) (by omega) | fail))
    (first
      | (go_at_call 29; go_must (refine (may_r _ 1 [] x2 _ HM.out).mono ?_; rintro e w8 ⟨rfl, rfl⟩))
      | fail)
  all_goals
    go_wp2_with fail
    try simp only [Exit.inBlock, Exit.then]
    first
      | (have B9 := ((B7.ext ((Ext.refl _).alloc (.cells #[.int .i64 1, .string (strL []), .string (strL x2)] 28))).sets (ds := [.int .i64 1, .string (strL []), .string (strL x2)]) rfl).ext (Ext.refl _).drew; have O9 := ((hE7.trans ((Ext.refl _).alloc (.cells #[.int .i64 1, .string (strL []), .string (strL x2)] 28))).on (On.sets (g := w.heap.size) _ 0 [.int .i64 1, .string (strL []), .string (strL x2)]) (Nat.le_refl _)).drew; refine ret_box rfl rfl rfl rfl B9 Try.underlying28 rfl (by kernel_rfl) ?_; exact RetOne.may 1 [] x2 b HRES.out O9)
      | fail

set_option maxRecDepth 100000 in
set_option maxHeartbeats 2000000 in
theorem oner_2r (w : World) (v : Value) (s : List UInt8) (hr : Rd w v s) (x2 : List UInt8) (n2 : Nat) (r2 : Int) (h2 : readT (s) = (x2, n2, r2)) (hr2 : r2 ≠ 0) :
    Calls Try.prog 32 #[.int .i64 2, v] w (RetOne w (oneP 2 s)) := by
  have HRES := Lib.hid ((show oneP 2 s = tailP 2 [] s from by unfold oneP; rw [if_neg (by decide), if_neg (by decide)]).trans (tail_r _ _ _ _ _ _ h2 hr2))
  obtain ⟨A3, k3, rfl, hk3, hm3, _, _⟩ := id hr
  obtain ⟨t, ht⟩ : ∃ t, t = s := ⟨_, rfl⟩
  rw [← ht] at h2
  subst ht
  have H2 := Lib.hid h2
  have hb2 : (r2 == 0) = false := by simpa using hr2
  have tok : True := trivial
  have tok1 : True := trivial
  have HR := Lib.hid hr
  clear h2 hr2 hr hk3 hm3
  go_enter Try.func32, Try.ntmps32
  go_wp2_with (first
    | (go_at_call 31; obtain ⟨B3, C3, hE⟩ := two_boxes w ((w.alloc (.cells #[.int .i64 0, .string ⟨#[]⟩, .string ⟨#[]⟩] 28)).alloc (.cells #[.int .i64 2, .string ⟨#[]⟩, .string ⟨#[]⟩] 28)) 0 2 _ _ _ _ rfl rfl (Ext.refl _); generalize (World.alloc (World.alloc w _) _) = w3 at B3 C3 hE ⊢; refine (rt_r _ _ _ _ _ _ (HR.out.ext hE) H2.out).mono ?_; rintro e w6 ⟨rfl, rfl⟩)
    | ((with_reducible show wpList _ _ _ (⟨some 59, _, _, _, _, _⟩ :: _) _ _); refine wpl_load_box rfl _ _ rfl _ rfl (show BoxF _ _ [.int .i64 2, .string ⟨#[]⟩, .string ⟨#[]⟩] from C3) Try.underlying28 rfl (by kernel_rfl) ?_)
    | ((with_reducible show wpList _ _ _ (⟨none, Op.store _ _ _, _, _, _, _⟩ :: _) _ _); refine wpl_store_box rfl _ _ _ rfl _ [.int .i64 2, .string ⟨#[]⟩, .string ⟨#[]⟩] rfl rfl B3 rfl (by kernel_rfl) (by rfl) ?_; intro w9 B9 O9)
    | fail)
  try simp only [Exit.inBlock, Exit.then]
  refine ret_box rfl rfl rfl rfl B9 Try.underlying28 rfl (by kernel_rfl) ?_
  exact RetOne.no HRES.out _ _ _ (hE.on O9 (Nat.le_refl _))

set_option maxRecDepth 100000 in
set_option maxHeartbeats 2000000 in
theorem oner_2n (w : World) (v : Value) (s : List UInt8) (hr : Rd w v s) (x2 : List UInt8) (n2 : Nat) (h2 : readT (s) = (x2, n2, 0)) (hn2 : n2 ≠ (s).length) :
    Calls Try.prog 32 #[.int .i64 2, v] w (RetOne w (oneP 2 s)) := by
  have HRES := Lib.hid ((show oneP 2 s = tailP 2 [] s from by unfold oneP; rw [if_neg (by decide), if_neg (by decide)]).trans (tail_n _ _ _ _ _ h2 hn2))
  obtain ⟨A3, k3, rfl, hk3, hm3, _, _⟩ := id hr
  obtain ⟨t, ht⟩ : ∃ t, t = s := ⟨_, rfl⟩
  rw [← ht] at h2 hn2
  subst ht
  have H2 := Lib.hid h2
  have hb2 : ((n2 : Int) == (t.length : Int)) = false := by simp; omega
  have tok : True := trivial
  have tok1 : True := trivial
  have HR := Lib.hid hr
  clear h2 hn2 hr hk3 hm3
  go_enter Try.func32, Try.ntmps32
  go_wp2_with (first
    | (go_at_call 31; obtain ⟨B3, C3, hE⟩ := two_boxes w ((w.alloc (.cells #[.int .i64 0, .string ⟨#[]⟩, .string ⟨#[]⟩] 28)).alloc (.cells #[.int .i64 2, .string ⟨#[]⟩, .string ⟨#[]⟩] 28)) 0 2 _ _ _ _ rfl rfl (Ext.refl _); generalize (World.alloc (World.alloc w _) _) = w3 at B3 C3 hE ⊢; refine (rt_r _ _ _ _ _ _ (HR.out.ext hE) H2.out).mono ?_; rintro e w6 ⟨rfl, rfl⟩)
    | ((with_reducible show wpList _ _ _ (⟨some 59, _, _, _, _, _⟩ :: _) _ _); refine wpl_load_box rfl _ _ rfl _ rfl (show BoxF _ _ [.int .i64 2, .string ⟨#[]⟩, .string ⟨#[]⟩] from C3) Try.underlying28 rfl (by kernel_rfl) ?_)
    | ((with_reducible show wpList _ _ _ (⟨none, Op.store _ _ _, _, _, _, _⟩ :: _) _ _); refine wpl_store_box rfl _ _ _ rfl _ [.int .i64 2, .string ⟨#[]⟩, .string ⟨#[]⟩] rfl rfl B3 rfl (by kernel_rfl) (by rfl) ?_; intro w9 B9 O9)
    | fail)
  try simp only [Exit.inBlock, Exit.then]
  refine ret_box rfl rfl rfl rfl B9 Try.underlying28 rfl (by kernel_rfl) ?_
  exact RetOne.no HRES.out _ _ _ (hE.on O9 (Nat.le_refl _))

set_option maxRecDepth 100000 in
set_option maxHeartbeats 2000000 in
theorem oner_2m (w : World) (v : Value) (s : List UInt8) (hr : Rd w v s) (x2 : List UInt8) (n2 : Nat) (h2 : readT (s) = (x2, n2, 0)) (hn2 : n2 = (s).length) (b : Bool) (hm : mayP (2, [], x2) = b) :
    Calls Try.prog 32 #[.int .i64 2, v] w (RetOne w (oneP 2 s)) := by
  have HRES := Lib.hid ((show oneP 2 s = tailP 2 [] s from by unfold oneP; rw [if_neg (by decide), if_neg (by decide)]).trans (tail_m _ _ _ _ _ _ h2 hn2 hm))
  obtain ⟨A3, k3, rfl, hk3, hm3, _, _⟩ := id hr
  obtain ⟨t, ht⟩ : ∃ t, t = s := ⟨_, rfl⟩
  rw [← ht] at h2 hn2
  subst ht
  have H2 := Lib.hid h2
  subst hn2
  have HM := Lib.hid hm
  have tok : True := trivial
  have tok1 : True := trivial
  have HR := Lib.hid hr
  clear h2 hm hr hk3 hm3
  go_enter Try.func32, Try.ntmps32
  go_wp2_with (first
    | (go_at_call 31; obtain ⟨B3, C3, hE⟩ := two_boxes w ((w.alloc (.cells #[.int .i64 0, .string ⟨#[]⟩, .string ⟨#[]⟩] 28)).alloc (.cells #[.int .i64 2, .string ⟨#[]⟩, .string ⟨#[]⟩] 28)) 0 2 _ _ _ _ rfl rfl (Ext.refl _); generalize (World.alloc (World.alloc w _) _) = w3 at B3 C3 hE ⊢; refine (rt_r _ _ _ _ _ _ (HR.out.ext hE) H2.out).mono ?_; rintro e w6 ⟨rfl, rfl⟩)
    | ((with_reducible show wpList _ _ _ (⟨none, Op.store _ _ _, _, _, _, _⟩ :: _) _ _); clear tok; refine wpl_store_cell rfl _ _ _ rfl (w.heap.size + 1) 2 (.string (strL x2)) rfl rfl rfl rfl (by kernel_rfl) C3 (by simp) ?_; intro w6 C6 O6; have B6 := B3.on O6 (by omega); have hE6 := hE.on O6 (by omega))
    | fail)
  clear O6
  have C7 : BoxF w6 (w.heap.size + 1) [.int .i64 2, .string (strL []), .string (strL x2)] := C6
  have B7 : BoxF w6 w.heap.size (chg0 0) := B6
  have hE7 : Ext w w6 := hE6
  clear B6 C6 hE6
  obtain ⟨z0, z1, z2⟩ := B7.c3
  obtain ⟨y0, y1, y2⟩ := B7.f3
  have za0 : ∀ o, (w6.alloc o).cell? ⟨w.heap.size, 0, none⟩ = _ := fun o => (B7.ext ((Ext.refl _).alloc o)).c3.1
  have ya0 : ∀ o, (w6.alloc o).frozen? ⟨w.heap.size, 0, none⟩ = false := fun o => (B7.ext ((Ext.refl _).alloc o)).f3.1
  have za1 : ∀ o, (w6.alloc o).cell? ⟨w.heap.size, 1, none⟩ = _ := fun o => (B7.ext ((Ext.refl _).alloc o)).c3.2.1
  have ya1 : ∀ o, (w6.alloc o).frozen? ⟨w.heap.size, 1, none⟩ = false := fun o => (B7.ext ((Ext.refl _).alloc o)).f3.2.1
  have za2 : ∀ o, (w6.alloc o).cell? ⟨w.heap.size, 2, none⟩ = _ := fun o => (B7.ext ((Ext.refl _).alloc o)).c3.2.2
  have ya2 : ∀ o, (w6.alloc o).frozen? ⟨w.heap.size, 2, none⟩ = false := fun o => (B7.ext ((Ext.refl _).alloc o)).f3.2.2
  go_region_held3 (fun W' => W'.cell? ⟨w.heap.size + 1, 0, none⟩ = some (.int .i64 2) ∧ W'.cell? ⟨w.heap.size + 1, 1, none⟩ = some (.string (strL [])) ∧ W'.cell? ⟨w.heap.size + 1, 2, none⟩ = some (.string (strL x2))) ((refine BoxF.c3 ?_; first | exact C7.ext (Ext.refl _).drew | exact C7.ext ((Ext.refl _).drew.alloc _) | exact C7.ext ((Ext.refl _).alloc _).drew | exact (C7.ext ((Ext.refl _).drew.alloc _)).on (g := w.heap.size + 1) (On.sets _ 0 [.int .i64 2, .string (strL []), .string (strL x2)]) (by omega) | exact (C7.ext ((Ext.refl _).alloc _).drew).on (On.sets _ 0 [.int .i64 2, .string (strL []), .string (strL x2)]) (by omega) | fail))
    (first
      | (go_at_call 29; go_must (refine (may_r _ 2 [] x2 _ HM.out).mono ?_; rintro e w8 ⟨rfl, rfl⟩))
      | fail)
  all_goals
    go_wp2_with fail
    try simp only [Exit.inBlock, Exit.then]
    first
      | (have B9 := ((B7.ext ((Ext.refl _).alloc (.cells #[.int .i64 2, .string (strL []), .string (strL x2)] 28))).sets (ds := [.int .i64 2, .string (strL []), .string (strL x2)]) rfl).ext (Ext.refl _).drew; have O9 := ((hE7.trans ((Ext.refl _).alloc (.cells #[.int .i64 2, .string (strL []), .string (strL x2)] 28))).on (On.sets (g := w.heap.size) _ 0 [.int .i64 2, .string (strL []), .string (strL x2)]) (Nat.le_refl _)).drew; refine ret_box rfl rfl rfl rfl B9 Try.underlying28 rfl (by kernel_rfl) ?_; exact RetOne.may 2 [] x2 b HRES.out O9)
      | fail

set_option maxRecDepth 100000 in
set_option maxHeartbeats 2000000 in
theorem oner_4r (w : World) (v : Value) (s : List UInt8) (hr : Rd w v s) (x2 : List UInt8) (n2 : Nat) (r2 : Int) (h2 : readT (s) = (x2, n2, r2)) (hr2 : r2 ≠ 0) :
    Calls Try.prog 32 #[.int .i64 4, v] w (RetOne w (oneP 4 s)) := by
  have HRES := Lib.hid ((show oneP 4 s = tailP 4 [] s from by unfold oneP; rw [if_neg (by decide), if_neg (by decide)]).trans (tail_r _ _ _ _ _ _ h2 hr2))
  obtain ⟨A3, k3, rfl, hk3, hm3, _, _⟩ := id hr
  obtain ⟨t, ht⟩ : ∃ t, t = s := ⟨_, rfl⟩
  rw [← ht] at h2
  subst ht
  have H2 := Lib.hid h2
  have hb2 : (r2 == 0) = false := by simpa using hr2
  have tok : True := trivial
  have tok1 : True := trivial
  have HR := Lib.hid hr
  clear h2 hr2 hr hk3 hm3
  go_enter Try.func32, Try.ntmps32
  go_wp2_with (first
    | (go_at_call 31; obtain ⟨B3, C3, hE⟩ := two_boxes w ((w.alloc (.cells #[.int .i64 0, .string ⟨#[]⟩, .string ⟨#[]⟩] 28)).alloc (.cells #[.int .i64 4, .string ⟨#[]⟩, .string ⟨#[]⟩] 28)) 0 4 _ _ _ _ rfl rfl (Ext.refl _); generalize (World.alloc (World.alloc w _) _) = w3 at B3 C3 hE ⊢; refine (rt_r _ _ _ _ _ _ (HR.out.ext hE) H2.out).mono ?_; rintro e w6 ⟨rfl, rfl⟩)
    | ((with_reducible show wpList _ _ _ (⟨some 59, _, _, _, _, _⟩ :: _) _ _); refine wpl_load_box rfl _ _ rfl _ rfl (show BoxF _ _ [.int .i64 4, .string ⟨#[]⟩, .string ⟨#[]⟩] from C3) Try.underlying28 rfl (by kernel_rfl) ?_)
    | ((with_reducible show wpList _ _ _ (⟨none, Op.store _ _ _, _, _, _, _⟩ :: _) _ _); refine wpl_store_box rfl _ _ _ rfl _ [.int .i64 4, .string ⟨#[]⟩, .string ⟨#[]⟩] rfl rfl B3 rfl (by kernel_rfl) (by rfl) ?_; intro w9 B9 O9)
    | fail)
  try simp only [Exit.inBlock, Exit.then]
  refine ret_box rfl rfl rfl rfl B9 Try.underlying28 rfl (by kernel_rfl) ?_
  exact RetOne.no HRES.out _ _ _ (hE.on O9 (Nat.le_refl _))

set_option maxRecDepth 100000 in
set_option maxHeartbeats 2000000 in
theorem oner_4n (w : World) (v : Value) (s : List UInt8) (hr : Rd w v s) (x2 : List UInt8) (n2 : Nat) (h2 : readT (s) = (x2, n2, 0)) (hn2 : n2 ≠ (s).length) :
    Calls Try.prog 32 #[.int .i64 4, v] w (RetOne w (oneP 4 s)) := by
  have HRES := Lib.hid ((show oneP 4 s = tailP 4 [] s from by unfold oneP; rw [if_neg (by decide), if_neg (by decide)]).trans (tail_n _ _ _ _ _ h2 hn2))
  obtain ⟨A3, k3, rfl, hk3, hm3, _, _⟩ := id hr
  obtain ⟨t, ht⟩ : ∃ t, t = s := ⟨_, rfl⟩
  rw [← ht] at h2 hn2
  subst ht
  have H2 := Lib.hid h2
  have hb2 : ((n2 : Int) == (t.length : Int)) = false := by simp; omega
  have tok : True := trivial
  have tok1 : True := trivial
  have HR := Lib.hid hr
  clear h2 hn2 hr hk3 hm3
  go_enter Try.func32, Try.ntmps32
  go_wp2_with (first
    | (go_at_call 31; obtain ⟨B3, C3, hE⟩ := two_boxes w ((w.alloc (.cells #[.int .i64 0, .string ⟨#[]⟩, .string ⟨#[]⟩] 28)).alloc (.cells #[.int .i64 4, .string ⟨#[]⟩, .string ⟨#[]⟩] 28)) 0 4 _ _ _ _ rfl rfl (Ext.refl _); generalize (World.alloc (World.alloc w _) _) = w3 at B3 C3 hE ⊢; refine (rt_r _ _ _ _ _ _ (HR.out.ext hE) H2.out).mono ?_; rintro e w6 ⟨rfl, rfl⟩)
    | ((with_reducible show wpList _ _ _ (⟨some 59, _, _, _, _, _⟩ :: _) _ _); refine wpl_load_box rfl _ _ rfl _ rfl (show BoxF _ _ [.int .i64 4, .string ⟨#[]⟩, .string ⟨#[]⟩] from C3) Try.underlying28 rfl (by kernel_rfl) ?_)
    | ((with_reducible show wpList _ _ _ (⟨none, Op.store _ _ _, _, _, _, _⟩ :: _) _ _); refine wpl_store_box rfl _ _ _ rfl _ [.int .i64 4, .string ⟨#[]⟩, .string ⟨#[]⟩] rfl rfl B3 rfl (by kernel_rfl) (by rfl) ?_; intro w9 B9 O9)
    | fail)
  try simp only [Exit.inBlock, Exit.then]
  refine ret_box rfl rfl rfl rfl B9 Try.underlying28 rfl (by kernel_rfl) ?_
  exact RetOne.no HRES.out _ _ _ (hE.on O9 (Nat.le_refl _))

set_option maxRecDepth 100000 in
set_option maxHeartbeats 2000000 in
theorem oner_4m (w : World) (v : Value) (s : List UInt8) (hr : Rd w v s) (x2 : List UInt8) (n2 : Nat) (h2 : readT (s) = (x2, n2, 0)) (hn2 : n2 = (s).length) (b : Bool) (hm : mayP (4, [], x2) = b) :
    Calls Try.prog 32 #[.int .i64 4, v] w (RetOne w (oneP 4 s)) := by
  have HRES := Lib.hid ((show oneP 4 s = tailP 4 [] s from by unfold oneP; rw [if_neg (by decide), if_neg (by decide)]).trans (tail_m _ _ _ _ _ _ h2 hn2 hm))
  obtain ⟨A3, k3, rfl, hk3, hm3, _, _⟩ := id hr
  obtain ⟨t, ht⟩ : ∃ t, t = s := ⟨_, rfl⟩
  rw [← ht] at h2 hn2
  subst ht
  have H2 := Lib.hid h2
  subst hn2
  have HM := Lib.hid hm
  have tok : True := trivial
  have tok1 : True := trivial
  have HR := Lib.hid hr
  clear h2 hm hr hk3 hm3
  go_enter Try.func32, Try.ntmps32
  go_wp2_with (first
    | (go_at_call 31; obtain ⟨B3, C3, hE⟩ := two_boxes w ((w.alloc (.cells #[.int .i64 0, .string ⟨#[]⟩, .string ⟨#[]⟩] 28)).alloc (.cells #[.int .i64 4, .string ⟨#[]⟩, .string ⟨#[]⟩] 28)) 0 4 _ _ _ _ rfl rfl (Ext.refl _); generalize (World.alloc (World.alloc w _) _) = w3 at B3 C3 hE ⊢; refine (rt_r _ _ _ _ _ _ (HR.out.ext hE) H2.out).mono ?_; rintro e w6 ⟨rfl, rfl⟩)
    | ((with_reducible show wpList _ _ _ (⟨none, Op.store _ _ _, _, _, _, _⟩ :: _) _ _); clear tok; refine wpl_store_cell rfl _ _ _ rfl (w.heap.size + 1) 2 (.string (strL x2)) rfl rfl rfl rfl (by kernel_rfl) C3 (by simp) ?_; intro w6 C6 O6; have B6 := B3.on O6 (by omega); have hE6 := hE.on O6 (by omega))
    | fail)
  clear O6
  have C7 : BoxF w6 (w.heap.size + 1) [.int .i64 4, .string (strL []), .string (strL x2)] := C6
  have B7 : BoxF w6 w.heap.size (chg0 0) := B6
  have hE7 : Ext w w6 := hE6
  clear B6 C6 hE6
  obtain ⟨z0, z1, z2⟩ := B7.c3
  obtain ⟨y0, y1, y2⟩ := B7.f3
  have za0 : ∀ o, (w6.alloc o).cell? ⟨w.heap.size, 0, none⟩ = _ := fun o => (B7.ext ((Ext.refl _).alloc o)).c3.1
  have ya0 : ∀ o, (w6.alloc o).frozen? ⟨w.heap.size, 0, none⟩ = false := fun o => (B7.ext ((Ext.refl _).alloc o)).f3.1
  have za1 : ∀ o, (w6.alloc o).cell? ⟨w.heap.size, 1, none⟩ = _ := fun o => (B7.ext ((Ext.refl _).alloc o)).c3.2.1
  have ya1 : ∀ o, (w6.alloc o).frozen? ⟨w.heap.size, 1, none⟩ = false := fun o => (B7.ext ((Ext.refl _).alloc o)).f3.2.1
  have za2 : ∀ o, (w6.alloc o).cell? ⟨w.heap.size, 2, none⟩ = _ := fun o => (B7.ext ((Ext.refl _).alloc o)).c3.2.2
  have ya2 : ∀ o, (w6.alloc o).frozen? ⟨w.heap.size, 2, none⟩ = false := fun o => (B7.ext ((Ext.refl _).alloc o)).f3.2.2
  go_region_held3 (fun W' => W'.cell? ⟨w.heap.size + 1, 0, none⟩ = some (.int .i64 4) ∧ W'.cell? ⟨w.heap.size + 1, 1, none⟩ = some (.string (strL [])) ∧ W'.cell? ⟨w.heap.size + 1, 2, none⟩ = some (.string (strL x2))) ((refine BoxF.c3 ?_; first | exact C7.ext (Ext.refl _).drew | exact C7.ext ((Ext.refl _).drew.alloc _) | exact C7.ext ((Ext.refl _).alloc _).drew | exact (C7.ext ((Ext.refl _).drew.alloc _)).on (g := w.heap.size + 1) (On.sets _ 0 [.int .i64 4, .string (strL []), .string (strL x2)]) (by omega) | exact (C7.ext ((Ext.refl _).alloc _).drew).on (On.sets _ 0 [.int .i64 4, .string (strL []), .string (strL x2)]) (by omega) | fail))
    (first
      | (go_at_call 29; go_must (refine (may_r _ 4 [] x2 _ HM.out).mono ?_; rintro e w8 ⟨rfl, rfl⟩))
      | fail)
  all_goals
    go_wp2_with fail
    try simp only [Exit.inBlock, Exit.then]
    first
      | (have B9 := ((B7.ext ((Ext.refl _).alloc (.cells #[.int .i64 4, .string (strL []), .string (strL x2)] 28))).sets (ds := [.int .i64 4, .string (strL []), .string (strL x2)]) rfl).ext (Ext.refl _).drew; have O9 := ((hE7.trans ((Ext.refl _).alloc (.cells #[.int .i64 4, .string (strL []), .string (strL x2)] 28))).on (On.sets (g := w.heap.size) _ 0 [.int .i64 4, .string (strL []), .string (strL x2)]) (Nat.le_refl _)).drew; refine ret_box rfl rfl rfl rfl B9 Try.underlying28 rfl (by kernel_rfl) ?_; exact RetOne.may 4 [] x2 b HRES.out O9)
      | fail

set_option maxRecDepth 100000 in
set_option maxHeartbeats 2000000 in
theorem oner_5r (w : World) (v : Value) (s : List UInt8) (hr : Rd w v s) (x2 : List UInt8) (n2 : Nat) (r2 : Int) (h2 : readT (s) = (x2, n2, r2)) (hr2 : r2 ≠ 0) :
    Calls Try.prog 32 #[.int .i64 5, v] w (RetOne w (oneP 5 s)) := by
  have HRES := Lib.hid ((show oneP 5 s = tailP 5 [] s from by unfold oneP; rw [if_neg (by decide), if_neg (by decide)]).trans (tail_r _ _ _ _ _ _ h2 hr2))
  obtain ⟨A3, k3, rfl, hk3, hm3, _, _⟩ := id hr
  obtain ⟨t, ht⟩ : ∃ t, t = s := ⟨_, rfl⟩
  rw [← ht] at h2
  subst ht
  have H2 := Lib.hid h2
  have hb2 : (r2 == 0) = false := by simpa using hr2
  have tok : True := trivial
  have tok1 : True := trivial
  have HR := Lib.hid hr
  clear h2 hr2 hr hk3 hm3
  go_enter Try.func32, Try.ntmps32
  go_wp2_with (first
    | (go_at_call 31; obtain ⟨B3, C3, hE⟩ := two_boxes w ((w.alloc (.cells #[.int .i64 0, .string ⟨#[]⟩, .string ⟨#[]⟩] 28)).alloc (.cells #[.int .i64 5, .string ⟨#[]⟩, .string ⟨#[]⟩] 28)) 0 5 _ _ _ _ rfl rfl (Ext.refl _); generalize (World.alloc (World.alloc w _) _) = w3 at B3 C3 hE ⊢; refine (rt_r _ _ _ _ _ _ (HR.out.ext hE) H2.out).mono ?_; rintro e w6 ⟨rfl, rfl⟩)
    | ((with_reducible show wpList _ _ _ (⟨some 59, _, _, _, _, _⟩ :: _) _ _); refine wpl_load_box rfl _ _ rfl _ rfl (show BoxF _ _ [.int .i64 5, .string ⟨#[]⟩, .string ⟨#[]⟩] from C3) Try.underlying28 rfl (by kernel_rfl) ?_)
    | ((with_reducible show wpList _ _ _ (⟨none, Op.store _ _ _, _, _, _, _⟩ :: _) _ _); refine wpl_store_box rfl _ _ _ rfl _ [.int .i64 5, .string ⟨#[]⟩, .string ⟨#[]⟩] rfl rfl B3 rfl (by kernel_rfl) (by rfl) ?_; intro w9 B9 O9)
    | fail)
  try simp only [Exit.inBlock, Exit.then]
  refine ret_box rfl rfl rfl rfl B9 Try.underlying28 rfl (by kernel_rfl) ?_
  exact RetOne.no HRES.out _ _ _ (hE.on O9 (Nat.le_refl _))

set_option maxRecDepth 100000 in
set_option maxHeartbeats 2000000 in
theorem oner_5n (w : World) (v : Value) (s : List UInt8) (hr : Rd w v s) (x2 : List UInt8) (n2 : Nat) (h2 : readT (s) = (x2, n2, 0)) (hn2 : n2 ≠ (s).length) :
    Calls Try.prog 32 #[.int .i64 5, v] w (RetOne w (oneP 5 s)) := by
  have HRES := Lib.hid ((show oneP 5 s = tailP 5 [] s from by unfold oneP; rw [if_neg (by decide), if_neg (by decide)]).trans (tail_n _ _ _ _ _ h2 hn2))
  obtain ⟨A3, k3, rfl, hk3, hm3, _, _⟩ := id hr
  obtain ⟨t, ht⟩ : ∃ t, t = s := ⟨_, rfl⟩
  rw [← ht] at h2 hn2
  subst ht
  have H2 := Lib.hid h2
  have hb2 : ((n2 : Int) == (t.length : Int)) = false := by simp; omega
  have tok : True := trivial
  have tok1 : True := trivial
  have HR := Lib.hid hr
  clear h2 hn2 hr hk3 hm3
  go_enter Try.func32, Try.ntmps32
  go_wp2_with (first
    | (go_at_call 31; obtain ⟨B3, C3, hE⟩ := two_boxes w ((w.alloc (.cells #[.int .i64 0, .string ⟨#[]⟩, .string ⟨#[]⟩] 28)).alloc (.cells #[.int .i64 5, .string ⟨#[]⟩, .string ⟨#[]⟩] 28)) 0 5 _ _ _ _ rfl rfl (Ext.refl _); generalize (World.alloc (World.alloc w _) _) = w3 at B3 C3 hE ⊢; refine (rt_r _ _ _ _ _ _ (HR.out.ext hE) H2.out).mono ?_; rintro e w6 ⟨rfl, rfl⟩)
    | ((with_reducible show wpList _ _ _ (⟨some 59, _, _, _, _, _⟩ :: _) _ _); refine wpl_load_box rfl _ _ rfl _ rfl (show BoxF _ _ [.int .i64 5, .string ⟨#[]⟩, .string ⟨#[]⟩] from C3) Try.underlying28 rfl (by kernel_rfl) ?_)
    | ((with_reducible show wpList _ _ _ (⟨none, Op.store _ _ _, _, _, _, _⟩ :: _) _ _); refine wpl_store_box rfl _ _ _ rfl _ [.int .i64 5, .string ⟨#[]⟩, .string ⟨#[]⟩] rfl rfl B3 rfl (by kernel_rfl) (by rfl) ?_; intro w9 B9 O9)
    | fail)
  try simp only [Exit.inBlock, Exit.then]
  refine ret_box rfl rfl rfl rfl B9 Try.underlying28 rfl (by kernel_rfl) ?_
  exact RetOne.no HRES.out _ _ _ (hE.on O9 (Nat.le_refl _))

set_option maxRecDepth 100000 in
set_option maxHeartbeats 2000000 in
theorem oner_5m (w : World) (v : Value) (s : List UInt8) (hr : Rd w v s) (x2 : List UInt8) (n2 : Nat) (h2 : readT (s) = (x2, n2, 0)) (hn2 : n2 = (s).length) (b : Bool) (hm : mayP (5, [], x2) = b) :
    Calls Try.prog 32 #[.int .i64 5, v] w (RetOne w (oneP 5 s)) := by
  have HRES := Lib.hid ((show oneP 5 s = tailP 5 [] s from by unfold oneP; rw [if_neg (by decide), if_neg (by decide)]).trans (tail_m _ _ _ _ _ _ h2 hn2 hm))
  obtain ⟨A3, k3, rfl, hk3, hm3, _, _⟩ := id hr
  obtain ⟨t, ht⟩ : ∃ t, t = s := ⟨_, rfl⟩
  rw [← ht] at h2 hn2
  subst ht
  have H2 := Lib.hid h2
  subst hn2
  have HM := Lib.hid hm
  have tok : True := trivial
  have tok1 : True := trivial
  have HR := Lib.hid hr
  clear h2 hm hr hk3 hm3
  go_enter Try.func32, Try.ntmps32
  go_wp2_with (first
    | (go_at_call 31; obtain ⟨B3, C3, hE⟩ := two_boxes w ((w.alloc (.cells #[.int .i64 0, .string ⟨#[]⟩, .string ⟨#[]⟩] 28)).alloc (.cells #[.int .i64 5, .string ⟨#[]⟩, .string ⟨#[]⟩] 28)) 0 5 _ _ _ _ rfl rfl (Ext.refl _); generalize (World.alloc (World.alloc w _) _) = w3 at B3 C3 hE ⊢; refine (rt_r _ _ _ _ _ _ (HR.out.ext hE) H2.out).mono ?_; rintro e w6 ⟨rfl, rfl⟩)
    | ((with_reducible show wpList _ _ _ (⟨none, Op.store _ _ _, _, _, _, _⟩ :: _) _ _); clear tok; refine wpl_store_cell rfl _ _ _ rfl (w.heap.size + 1) 2 (.string (strL x2)) rfl rfl rfl rfl (by kernel_rfl) C3 (by simp) ?_; intro w6 C6 O6; have B6 := B3.on O6 (by omega); have hE6 := hE.on O6 (by omega))
    | fail)
  clear O6
  have C7 : BoxF w6 (w.heap.size + 1) [.int .i64 5, .string (strL []), .string (strL x2)] := C6
  have B7 : BoxF w6 w.heap.size (chg0 0) := B6
  have hE7 : Ext w w6 := hE6
  clear B6 C6 hE6
  obtain ⟨z0, z1, z2⟩ := B7.c3
  obtain ⟨y0, y1, y2⟩ := B7.f3
  have za0 : ∀ o, (w6.alloc o).cell? ⟨w.heap.size, 0, none⟩ = _ := fun o => (B7.ext ((Ext.refl _).alloc o)).c3.1
  have ya0 : ∀ o, (w6.alloc o).frozen? ⟨w.heap.size, 0, none⟩ = false := fun o => (B7.ext ((Ext.refl _).alloc o)).f3.1
  have za1 : ∀ o, (w6.alloc o).cell? ⟨w.heap.size, 1, none⟩ = _ := fun o => (B7.ext ((Ext.refl _).alloc o)).c3.2.1
  have ya1 : ∀ o, (w6.alloc o).frozen? ⟨w.heap.size, 1, none⟩ = false := fun o => (B7.ext ((Ext.refl _).alloc o)).f3.2.1
  have za2 : ∀ o, (w6.alloc o).cell? ⟨w.heap.size, 2, none⟩ = _ := fun o => (B7.ext ((Ext.refl _).alloc o)).c3.2.2
  have ya2 : ∀ o, (w6.alloc o).frozen? ⟨w.heap.size, 2, none⟩ = false := fun o => (B7.ext ((Ext.refl _).alloc o)).f3.2.2
  go_region_held3 (fun W' => W'.cell? ⟨w.heap.size + 1, 0, none⟩ = some (.int .i64 5) ∧ W'.cell? ⟨w.heap.size + 1, 1, none⟩ = some (.string (strL [])) ∧ W'.cell? ⟨w.heap.size + 1, 2, none⟩ = some (.string (strL x2))) ((refine BoxF.c3 ?_; first | exact C7.ext (Ext.refl _).drew | exact C7.ext ((Ext.refl _).drew.alloc _) | exact C7.ext ((Ext.refl _).alloc _).drew | exact (C7.ext ((Ext.refl _).drew.alloc _)).on (g := w.heap.size + 1) (On.sets _ 0 [.int .i64 5, .string (strL []), .string (strL x2)]) (by omega) | exact (C7.ext ((Ext.refl _).alloc _).drew).on (On.sets _ 0 [.int .i64 5, .string (strL []), .string (strL x2)]) (by omega) | fail))
    (first
      | (go_at_call 29; go_must (refine (may_r _ 5 [] x2 _ HM.out).mono ?_; rintro e w8 ⟨rfl, rfl⟩))
      | fail)
  all_goals
    go_wp2_with fail
    try simp only [Exit.inBlock, Exit.then]
    first
      | (have B9 := ((B7.ext ((Ext.refl _).alloc (.cells #[.int .i64 5, .string (strL []), .string (strL x2)] 28))).sets (ds := [.int .i64 5, .string (strL []), .string (strL x2)]) rfl).ext (Ext.refl _).drew; have O9 := ((hE7.trans ((Ext.refl _).alloc (.cells #[.int .i64 5, .string (strL []), .string (strL x2)] 28))).on (On.sets (g := w.heap.size) _ 0 [.int .i64 5, .string (strL []), .string (strL x2)]) (Nat.le_refl _)).drew; refine ret_box rfl rfl rfl rfl B9 Try.underlying28 rfl (by kernel_rfl) ?_; exact RetOne.may 5 [] x2 b HRES.out O9)
      | fail
end Go.Proofs.Ytdjnjhlgpflcjaa
