/- A hash: made, written to, its length. -/
import Derived.Test.YtimelnihiocngaaShaF
namespace Go.Proofs.Ytimelnihiocngaa
open Go.RowKit

/-- The words of a kind, ahead of all bytes. -/
def start (kind : Int) : List Int := if kind = 1 then [1732584193, 4023233417, 2562383102, 271733878, 3285377520, 0, 0, 0] else [1779033703, 3144134277, 1013904242, 2773480762, 1359893119, 2600822924, 528734635, 1541459225]
theorem start_length (kind : Int) : (start kind).length = 8 := by unfold start; split <;> rfl
def initH (kind : Int) : List Int × List UInt8 × Nat := (start kind, List.replicate 64 0, 0)
theorem goodH_init (kind : Int) : goodH (initH kind) := ⟨start_length kind, rfl, by show 0 < 64; omega⟩

set_option maxRecDepth 100000 in
set_option maxHeartbeats 1000000 in
theorem starts_c (w : World) (kind : Int) : Calls Try.prog 58 #[.int .i64 kind] w fun e w' => e = .returned (.agg (wc (start kind)).toArray) ∧ Ext w w' := by
  by_cases hk : kind = 1
  · subst hk
    go_enter Try.func58, Try.ntmps58
    go_wp2_with (first
      | ((with_reducible show wpList _ _ _ (⟨some 2, Op.alloc _, _, _, _, _⟩ :: _) _ _); refine wpl_alloc rfl _ rfl (wc [0, 0, 0, 0, 0, 0, 0, 0]) (by kernel_rfl) ?_; intro w1 B1 hx1)
      | ((with_reducible show wpList _ _ _ (⟨none, Op.store _ _ _, _, _, _, _⟩ :: _) _ _); refine wpl_store_box rfl _ _ _ rfl w.heap.size (wc (start 1)) rfl rfl B1 (by kernel_rfl) (by kernel_rfl) (by kernel_rfl) ?_; intro w2 B2 O2)
      | fail)
    exact ret_box1 (p := 2) (ty := 38) rfl rfl rfl B2 Try.underlying38 rfl (by kernel_rfl) ⟨rfl, hx1.on O2 (Nat.le_refl _)⟩
  · have hkb : (kind == 1) = false := by simpa using hk
    have e : start kind = [1779033703, 3144134277, 1013904242, 2773480762, 1359893119, 2600822924, 528734635, 1541459225] := by rw [start, if_neg hk]
    rw [e]
    clear e
    go_enter Try.func58, Try.ntmps58
    go_wp2_with (first
      | ((with_reducible show wpList _ _ _ (⟨some 2, Op.alloc _, _, _, _, _⟩ :: _) _ _); refine wpl_alloc rfl _ rfl (wc [0, 0, 0, 0, 0, 0, 0, 0]) (by kernel_rfl) ?_; intro w1 B1 hx1)
      | ((with_reducible show wpList _ _ _ (⟨none, Op.store _ _ _, _, _, _, _⟩ :: _) _ _); refine wpl_store_box rfl _ _ _ rfl w.heap.size (wc [1779033703, 3144134277, 1013904242, 2773480762, 1359893119, 2600822924, 528734635, 1541459225]) rfl rfl B1 (by kernel_rfl) (by kernel_rfl) (by kernel_rfl) ?_; intro w2 B2 O2)
      | fail)
    exact ret_box1 (p := 2) (ty := 38) rfl rfl rfl B2 Try.underlying38 rfl (by kernel_rfl) ⟨rfl, hx1.on O2 (Nat.le_refl _)⟩

set_option maxRecDepth 100000 in
set_option maxHeartbeats 1000000 in
theorem new_c (w : World) (kind : Int) (hk : kind = 1 ∨ kind = 2) : Calls Try.prog 13 #[.int .i64 kind] w fun e w' => ∃ g, e = .returned (.tuple #[.pointer (some ⟨g, 0, none⟩), .int .i64 0]) ∧ w.heap.size ≤ g ∧ Ext w w' ∧ BoxF w' g (hashS kind (initH kind) 0) := by
  rcases hk with rfl | rfl
  · go_enter Try.func13, Try.ntmps13
    go_wp2_with (first
      | (go_at_call 58; refine (starts_c _ _).mono ?_; rintro e w1 ⟨rfl, hx1⟩)
      | fail)
    go_ret2
    exact ⟨_, rfl, Ext.size hx1, hx1.alloc _, BoxF.new w1 (hashS 1 (initH 1) 0) _⟩
  · go_enter Try.func13, Try.ntmps13
    go_wp2_with (first
      | (go_at_call 58; refine (starts_c _ _).mono ?_; rintro e w1 ⟨rfl, hx1⟩)
      | fail)
    go_ret2
    exact ⟨_, rfl, Ext.size hx1, hx1.alloc _, BoxF.new w1 (hashS 2 (initH 2) 0) _⟩

/-- Another kind: there is no hash. -/
theorem new_bad (w : World) (kind : Int) (hk : kind ≠ 1) (hk2 : kind ≠ 2) : Calls Try.prog 13 #[.int .i64 kind] w fun e w' => e = .returned (.tuple #[.pointer none, .int .i64 2]) ∧ w = w' := by
  have e1 : (kind != 1) = true := by simpa using hk
  have e2 : (kind != 2) = true := by simpa using hk2
  go_enter Try.func13, Try.ntmps13
  go_wp2_with fail
  go_ret2
  exact ⟨rfl, rfl⟩

theorem none_c (w : World) (h : Nat) (kind : Int) (hk : kind ≠ 0) (hc : w.cell? ⟨h, 0, none⟩ = some (.int .i64 kind)) : Calls Try.prog 66 #[.pointer (some ⟨h, 0, none⟩)] w fun e w' => e = .returned (.bool false) ∧ w = w' := by
  have e1 : (kind == 0) = false := by simpa using hk
  go_enter Try.func66, Try.ntmps66
  go_wp2_with fail
  go_ret
  exact ⟨rfl, rfl⟩
/-- Nobody's hash. -/
def NoHash (w : World) (p : Option Addr) : Prop := p = none ∨ ∃ h, p = some ⟨h, 0, none⟩ ∧ w.cell? ⟨h, 0, none⟩ = some (.int .i64 0)
theorem none_n (w : World) (p : Option Addr) (hp : NoHash w p) : Calls Try.prog 66 #[.pointer p] w fun e w' => e = .returned (.bool true) ∧ w = w' := by
  rcases hp with rfl | ⟨h, rfl, hc⟩
  · go_enter Try.func66, Try.ntmps66
    go_wp2_with fail
    go_ret
    exact ⟨rfl, rfl⟩
  · go_enter Try.func66, Try.ntmps66
    go_wp2_with fail
    go_ret
    exact ⟨rfl, rfl⟩
theorem len_n (w : World) (p : Option Addr) (hp : NoHash w p) : Calls Try.prog 24 #[.pointer p] w fun e w' => e = .returned (.int .i64 0) ∧ w = w' := by
  have HP := Lib.hid hp
  clear hp
  go_enter Try.func24, Try.ntmps24
  go_wp2_with (go_at_call 66; refine (none_n _ _ HP.out).mono ?_; rintro e w1 ⟨rfl, rfl⟩)
  go_ret
  exact ⟨rfl, rfl⟩
theorem write_n (w : World) (p : Option Addr) (v : Value) (hp : NoHash w p) : Calls Try.prog 23 #[.pointer p, v] w fun e w' => e = .returned (.int .i64 1) ∧ w = w' := by
  have HP := Lib.hid hp
  clear hp
  go_enter Try.func23, Try.ntmps23
  go_wp2_with (go_at_call 66; refine (none_n _ _ HP.out).mono ?_; rintro e w1 ⟨rfl, rfl⟩)
  go_ret
  exact ⟨rfl, rfl⟩
theorem sum_n (w : World) (p : Option Addr) (hp : NoHash w p) : Calls Try.prog 25 #[.pointer p] w fun e w' => e = .returned (.slice none 0 0) ∧ w = w' := by
  have HP := Lib.hid hp
  clear hp
  go_enter Try.func25, Try.ntmps25
  go_wp2_with (go_at_call 66; refine (none_n _ _ HP.out).mono ?_; rintro e w1 ⟨rfl, rfl⟩)
  go_ret
  exact ⟨rfl, rfl⟩
theorem len_c (w : World) (h : Nat) (kind : Int) (s : List Int × List UInt8 × Nat) (all : Int) (H : BoxF w h (hashS kind s all)) (hg : goodH s) (hk : kind ≠ 0) :
    Calls Try.prog 24 #[.pointer (some ⟨h, 0, none⟩)] w fun e w' => e = .returned (.int .i64 all) ∧ w = w' := by
  have HK := Lib.hid hk
  have p0 : w.cell? ⟨h, 0, none⟩ = some (.int .i64 kind) := H.at rfl
  have P0 := Lib.hid p0
  have p74 := H.at (hashC_all hg.1 hg.2.1)
  clear hk H hg p0
  go_enter Try.func24, Try.ntmps24
  go_wp2_with (go_at_call 66; refine (none_c _ h kind HK.out P0.out).mono ?_; rintro e w1 ⟨rfl, rfl⟩)
  go_ret
  exact ⟨rfl, rfl⟩
set_option maxRecDepth 100000 in
set_option maxHeartbeats 1000000 in
theorem write_c (w : World) (h : Nat) (kind : Int) (s : List Int × List UInt8 × Nat) (all : Nat) (v : Value) (l : List UInt8) (H : BoxF w h (hashS kind s (all : Int))) (hg : goodH s) (hk : kind ≠ 0) (hr : Rd w v l) (hne : l ≠ [] → v.ownBlock ≠ some h) (hall : all + l.length ≤ 100000000) :
    Calls Try.prog 23 #[.pointer (some ⟨h, 0, none⟩), v] w fun e w' => e = .returned (.int .i64 0) ∧ On h w w' ∧ BoxF w' h (hashS kind (feedH kind s l) ((all + l.length : Nat) : Int)) := by
  have HK := Lib.hid hk
  have p0 : w.cell? ⟨h, 0, none⟩ = some (.int .i64 kind) := H.at rfl
  have P0 := Lib.hid p0
  have H0 := Lib.hid H
  have HG := Lib.hid hg
  obtain ⟨A, cap, rfl, hle, hm, hA, hc⟩ := id hr
  clear hk H hg p0 hA hc
  obtain ⟨N, hN⟩ : ∃ N, N = l.length := ⟨_, rfl⟩
  rw [← hN] at hall hle hr hne ⊢
  have HR := Lib.hid hr
  have HN := Lib.hid hne
  clear hr hne
  have HNN := Lib.hid hN
  clear hN
  have hG := goodH_feed kind l HG.out
  have HG1 := Lib.hid hG.1
  have HG2 := Lib.hid hG.2.1
  clear hG
  have hsum : ((all + N : Nat) : Int) = (all : Int) + (N : Int) := by omega
  rw [hsum]
  clear hsum
  go_enter Try.func23, Try.ntmps23
  go_wp2_with (first
    | (go_at_call 66; refine (none_c _ h kind HK.out P0.out).mono ?_; rintro e w1 ⟨rfl, rfl⟩)
    | (go_at_call 67; refine (add_c _ h kind s _ _ l H0.out HG.out HR.out HN.out).mono ?_; rintro e w1 ⟨rfl, O1, B1⟩; unfold hashS at B1; have p74 := B1.at (hashC_all HG1.out HG2.out))
    | ((with_reducible show wpList _ _ _ (⟨none, Op.store _ _ _, _, _, _, _⟩ :: _) _ _); refine wpl_store_cell rfl _ _ _ rfl h 74 (.int .i64 ((all : Int) + (N : Int))) rfl rfl rfl rfl (by kernel_rfl) B1 (by rw [hashC_length, HG1.out, HG2.out]; omega) ?_; intro W2 B2 O2; rw [hashC_set_all HG1.out HG2.out] at B2)
    | fail)
  go_ret
  exact ⟨rfl, O1.trans O2, B2⟩
end Go.Proofs.Ytimelnihiocngaa
