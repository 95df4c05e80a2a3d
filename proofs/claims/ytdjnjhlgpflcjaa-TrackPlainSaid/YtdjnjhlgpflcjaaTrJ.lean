/- What is known of a session, made anew by a class: on a fresh one. -/
import Derived.Test.YtdjnjhlgpflcjaaTrI
namespace Go.Proofs.Ytdjnjhlgpflcjaa
open Go.RowKit

theorem two_rows (w w3 : World) (l1 l2 : List Value) (t1 t2 : TypeId) (c1 c2 : Array Value) (h1 : c1 = l1.toArray) (h2 : c2 = l2.toArray) (hx : Ext ((w.alloc (.cells c1 t1)).alloc (.cells c2 t2)) w3) :
    BoxF w3 w.heap.size l1 ∧ BoxF w3 (w.heap.size + 1) l2 ∧ Ext w w3 := by
  subst h1 h2
  have C := BoxF.new1 w (.cells l1.toArray t1) l2 t2
  exact ⟨((BoxF.new w l1 t1).ext ((Ext.refl _).alloc _)).ext hx, C.ext hx, (((Ext.refl w).alloc _).alloc _).trans hx⟩
theorem BoxF.new2 (w : World) (o1 o2 : Obj) (cs : List Value) (t : TypeId) : BoxF (((w.alloc o1).alloc o2).alloc (.cells cs.toArray t)) (w.heap.size + 2) cs := by
  have := BoxF.new1 (w.alloc o1) o2 cs t
  rwa [show (w.alloc o1).heap.size + 1 = w.heap.size + 2 by simp] at this
theorem Box.newg (w : World) (cs : List Value) (C : Array Value) (hC : C = cs.toArray) (t : TypeId) (g : Nat) (hg : g = w.heap.size) : Box (w.alloc (.cells C t)) g cs := by
  subst hC hg
  exact Box.new w cs t
def OwnV (w : World) (base : Nat) (v : Value) (l : List (List Value)) : Prop := OwnR 54 2 w base v l

set_option maxRecDepth 100000 in
set_option maxHeartbeats 2000000 in
theorem set_nil (w : World) (s : ByteArray) : Calls Try.prog 28 #[.agg (trC s nilV nilV false false false false).toArray, .string ⟨#[97]⟩, .string ⟨#[49]⟩] w fun e w' =>
    ∃ A c, e = .returned (.agg (trC s (.slice A 1 c) nilV false false false false).toArray) ∧ OwnV w' w.heap.size (.slice A 1 c) [[.string ⟨#[97]⟩, .string ⟨#[49]⟩]] ∧ Ext w w' := by
  go_enter Try.func28, Try.ntmps28
  go_wp2_with (first
    | (go_at_call 26; refine (bsf_nil _ _ _).mono ?_; rintro e w1 ⟨rfl, rfl⟩)
    | (go_at_call 42; refine (cloneV_nil _).mono ?_; rintro e w1 ⟨rfl, rfl⟩)
    | (go_at_call 43; refine (insert_nil _ _ _ ⟨#[97]⟩ ⟨#[49]⟩ (Box.newg _ _ _ (by rfl) _ _ (by simp))).mono ?_; rintro e w2 ⟨v2, rfl, ho2, hx2⟩; obtain ⟨A2, c2, rfl, hc2, hm2⟩ := (OwnR.recs ho2).shape; obtain ⟨B2, C2, hE2⟩ := two_rows w w2 (trC s nilV nilV false false false false) (trC ⟨#[]⟩ nilV nilV false false false false) _ _ _ _ rfl rfl (((Ext.refl _).alloc _).trans hx2))
    | ((with_reducible show wpList _ _ _ (⟨none, Op.store 32 _ _, _, _, _, _⟩ :: _) _ _); refine wpl_store_cell rfl _ _ _ rfl w.heap.size 1 (.slice A2 1 c2) rfl rfl rfl rfl (by kernel_rfl) B2 (by simp) ?_; intro w3 B3 O3; have C3 := C2.on O3 (by omega); have hE3 := hE2.on O3 (Nat.le_refl _))
    | ((with_reducible show wpList _ _ _ (⟨none, Op.store 35 _ _, _, _, _, _⟩ :: _) _ _); refine wpl_store_box rfl _ _ _ rfl _ (trC s (.slice A2 1 c2) nilV false false false false) rfl rfl C3 rfl (by kernel_rfl) (by rfl) ?_; intro w4 C4 O4)
    | ((with_reducible show wpList _ _ _ (⟨some 57, _, _, _, _, _⟩ :: _) _ _); refine wpl_load_box rfl _ _ rfl _ rfl B3 Try.underlying35 rfl (by kernel_rfl) ?_)
    | fail)
  try simp only [Exit.inBlock, Exit.then]
  refine ret_one rfl rfl rfl C4 Try.underlying35 rfl (by kernel_rfl) ?_
  exact ⟨A2, c2, rfl, OwnR.more ((OwnR.on ho2 O3 (by simp; omega)).on O4 (by simp)) (by simp; omega), hE3.on O4 (by omega)⟩

set_option maxRecDepth 100000 in
set_option maxHeartbeats 2000000 in
theorem made_set (w : World) (s : ByteArray) : Calls Try.prog 25 #[.agg (trC s nilV nilV false false false false).toArray, .agg #[.int .i64 5, .string ⟨#[97]⟩, .string ⟨#[49]⟩]] w fun e w' =>
    ∃ A c, e = .returned (.agg (trC s (.slice A 1 c) nilV false false false false).toArray) ∧ OwnV w' w.heap.size (.slice A 1 c) [[.string ⟨#[97]⟩, .string ⟨#[49]⟩]] ∧ Ext w w' := by
  go_enter Try.func25, Try.ntmps25
  go_wp2_with (first
    | (go_at_call 37; refine (bs_nil _ _).mono ?_; rintro e w1 ⟨rfl, rfl⟩)
    | (go_at_call 28; refine (set_nil _ s).mono ?_; rintro e w2 ⟨A2, c2, rfl, ho2, hx2⟩; have B2 := (BoxF.new2 w _ _ (trC ⟨#[]⟩ nilV nilV false false false false) 35).ext hx2; have hE2 : Ext w w2 := ((((Ext.refl w).alloc _).alloc _).alloc _).trans hx2)
    | ((with_reducible show wpList _ _ _ (⟨none, Op.store 35 _ _, _, _, _, _⟩ :: _) _ _); refine wpl_store_box rfl _ _ _ rfl _ (trC s (.slice A2 1 c2) nilV false false false false) rfl rfl B2 rfl (by kernel_rfl) (by rfl) ?_; intro w4 C4 O4)
    | fail)
  try simp only [Exit.inBlock, Exit.then]
  refine ret_one rfl rfl rfl C4 Try.underlying35 rfl (by kernel_rfl) ?_
  exact ⟨A2, c2, rfl, OwnR.more (OwnR.on ho2 O4 (by simp)) (by simp; omega), hE2.on O4 (by omega)⟩

def AnyBS (w : World) (vt : Value) (nm : ByteArray) : Prop := ∀ w', Ext w w' → Calls Try.prog 37 #[vt, .string nm] w' fun e w'' => (∃ i b, e = .returned (.tuple #[.int .i64 i, .bool b])) ∧ w' = w''
theorem AnyBS.nil (w : World) (nm : ByteArray) : AnyBS w nilV nm := fun w' _ => (bs_nil w' nm).mono fun _ _ h => ⟨⟨0, false, h.1⟩, h.2⟩

set_option maxRecDepth 100000 in
set_option maxHeartbeats 2000000 in
theorem made_1 (w : World) (s : ByteArray) (Av At : Option Addr) (nv cv nt ct : Nat) (tr us lk od : Bool) (nm vl : ByteArray) (hbs : AnyBS w (.slice At nt ct) nm) :
    Calls Try.prog 25 #[.agg (trC s (.slice Av nv cv) (.slice At nt ct) tr us lk od).toArray, .agg #[.int .i64 1, .string nm, .string vl]] w fun e w' => e = .returned (.agg (trC s (.slice Av nv cv) (.slice At nt ct) tr us lk od).toArray) ∧ Ext w w' := by
  have HBS := Lib.hid hbs
  clear hbs
  go_enter Try.func25, Try.ntmps25
  go_wp2_with (first
    | (go_at_call 37; refine (HBS.out _ ((((Ext.refl w).alloc _).alloc _).alloc _)).mono ?_; rintro e w1 ⟨⟨i, b, rfl⟩, rfl⟩)
    | fail)
  try simp only [Exit.inBlock, Exit.then]
  refine ret_one rfl rfl rfl (BoxF.new2 w _ _ (trC s (.slice Av nv cv) (.slice At nt ct) tr us lk od) _) Try.underlying35 rfl (by kernel_rfl) ?_
  exact ⟨rfl, (((Ext.refl w).alloc _).alloc _).alloc _⟩

set_option maxRecDepth 100000 in
set_option maxHeartbeats 2000000 in
theorem made_2 (w : World) (s : ByteArray) (Av At : Option Addr) (nv cv nt ct : Nat) (tr us lk od : Bool) (nm vl : ByteArray) (hbs : AnyBS w (.slice At nt ct) nm) :
    Calls Try.prog 25 #[.agg (trC s (.slice Av nv cv) (.slice At nt ct) tr us lk od).toArray, .agg #[.int .i64 2, .string nm, .string vl]] w fun e w' => e = .returned (.agg (trC s (.slice Av nv cv) (.slice At nt ct) tr us lk od).toArray) ∧ Ext w w' := by
  have HBS := Lib.hid hbs
  clear hbs
  go_enter Try.func25, Try.ntmps25
  go_wp2_with (first
    | (go_at_call 37; refine (HBS.out _ ((((Ext.refl w).alloc _).alloc _).alloc _)).mono ?_; rintro e w1 ⟨⟨i, b, rfl⟩, rfl⟩)
    | fail)
  try simp only [Exit.inBlock, Exit.then]
  refine ret_one rfl rfl rfl (BoxF.new2 w _ _ (trC s (.slice Av nv cv) (.slice At nt ct) tr us lk od) _) Try.underlying35 rfl (by kernel_rfl) ?_
  exact ⟨rfl, (((Ext.refl w).alloc _).alloc _).alloc _⟩

set_option maxRecDepth 100000 in
set_option maxHeartbeats 2000000 in
theorem made_3 (w : World) (s : ByteArray) (Av At : Option Addr) (nv cv nt ct : Nat) (tr us lk od : Bool) (nm vl : ByteArray) (hbs : AnyBS w (.slice At nt ct) nm) :
    Calls Try.prog 25 #[.agg (trC s (.slice Av nv cv) (.slice At nt ct) tr us lk od).toArray, .agg #[.int .i64 3, .string nm, .string vl]] w fun e w' => e = .returned (.agg (trC s (.slice Av nv cv) (.slice At nt ct) tr us lk od).toArray) ∧ Ext w w' := by
  have HBS := Lib.hid hbs
  clear hbs
  go_enter Try.func25, Try.ntmps25
  go_wp2_with (first
    | (go_at_call 37; refine (HBS.out _ ((((Ext.refl w).alloc _).alloc _).alloc _)).mono ?_; rintro e w1 ⟨⟨i, b, rfl⟩, rfl⟩)
    | fail)
  try simp only [Exit.inBlock, Exit.then]
  refine ret_one rfl rfl rfl (BoxF.new2 w _ _ (trC s (.slice Av nv cv) (.slice At nt ct) tr us lk od) _) Try.underlying35 rfl (by kernel_rfl) ?_
  exact ⟨rfl, (((Ext.refl w).alloc _).alloc _).alloc _⟩

set_option maxRecDepth 100000 in
set_option maxHeartbeats 2000000 in
theorem made_7 (w : World) (s : ByteArray) (Av At : Option Addr) (nv cv nt ct : Nat) (tr us lk od : Bool) (nm vl : ByteArray) (hbs : AnyBS w (.slice At nt ct) nm) :
    Calls Try.prog 25 #[.agg (trC s (.slice Av nv cv) (.slice At nt ct) tr us lk od).toArray, .agg #[.int .i64 7, .string nm, .string vl]] w fun e w' => e = .returned (.agg (trC s (.slice Av nv cv) (.slice At nt ct) tr true lk od).toArray) ∧ Ext w w' := by
  have HBS := Lib.hid hbs
  clear hbs
  go_enter Try.func25, Try.ntmps25
  go_wp2_with (first
    | (go_at_call 37; refine (HBS.out _ ((((Ext.refl w).alloc _).alloc _).alloc _)).mono ?_; rintro e w1 ⟨⟨i, b, rfl⟩, rfl⟩)
    | fail)
  try simp only [Exit.inBlock, Exit.then]
  refine ret_one rfl rfl rfl (BoxF.new2 w _ _ (trC s (.slice Av nv cv) (.slice At nt ct) tr true lk od) _) Try.underlying35 rfl (by kernel_rfl) ?_
  exact ⟨rfl, (((Ext.refl w).alloc _).alloc _).alloc _⟩

end Go.Proofs.Ytdjnjhlgpflcjaa
