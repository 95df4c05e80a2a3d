import Derived.Test.YtbodppfpmpmadaaGreatL17C
import Derived.Test.YtbodppfpmpmadaaGreatL18C
namespace Go.Proofs.YtbodppfpmpmadaaGreat
open Go.RowKit

theorem okU_sizes {u : UserV} (h : okU u = true) : u.name.length ≤ 9223372036854775807 ∧ u.pw.length ≤ 9223372036854775807 ∧ u.sc.length ≤ 9223372036854775807 := by
  unfold okU plainU at h
  simp only [Bool.and_eq_true, decide_eq_true_eq] at h
  have h1 := h.2.1.1
  have h2 := h.2.2.1.1
  have h3 := h.2.2.2.1.1
  omega
theorem refDoor_made (w w7 wX : World) (us : List UserV) (ver n pl : List UInt8) (thr caps ch st : Int) (A8 A9 A6 : Option Addr) (c8 c9 c6 : Nat) (t : TypeId) (hx7 : Ext w w7) (hE : Ext w7 wX)
    (hr8 : Recs wX 5 (.slice A8 us.length c8) (us.map userC)) (hf8 : Fresh w7.heap.size wX (.slice A8 us.length c8)) (hr9 : Rd wX (.slice A9 n.length c9) n) (hf9 : Fresh w7.heap.size wX (.slice A9 n.length c9))
    (hr6 : Rd wX (.slice A6 n.length c6) n) (hf6 : ∀ h, (Value.slice A6 n.length c6).ownBlock = some h → w.heap.size < h ∧ h < w7.heap.size)
    (hgood : GoodU us) (hok : GreOk ⟨ver, thr, n, caps, ch, st, pl⟩) (hl : ver.length ≤ 10000 ∧ pl.length ≤ 10000) (S : List Nat) (hS : wX.heap.size ∈ S) (hlt : ∀ x ∈ S, x = wX.heap.size ∨ x < w.heap.size) :
    RefIs (wX.alloc (.cells (rcs ⟨A8, c8, ⟨ver, thr, n, caps, ch, st, pl⟩, A6, c6, A9, c9⟩ (door0 us caps n (greetBs ver thr n caps ch st pl)) 0 []).toArray t)) S wX.heap.size (door0 us caps n (greetBs ver thr n caps ch st pl)) := by
  have h1 := Ext.size hx7
  have h2 := Ext.size hE
  have hx : Ext wX (wX.alloc (.cells (rcs ⟨A8, c8, ⟨ver, thr, n, caps, ch, st, pl⟩, A6, c6, A9, c9⟩ (door0 us caps n (greetBs ver thr n caps ch st pl)) 0 []).toArray t)) := (Ext.refl _).alloc _
  have h3 : wX.heap.size < (wX.alloc (.cells (rcs ⟨A8, c8, ⟨ver, thr, n, caps, ch, st, pl⟩, A6, c6, A9, c9⟩ (door0 us caps n (greetBs ver thr n caps ch st pl)) 0 []).toArray t)).heap.size := by simp
  have off : ∀ v : Value, Fresh w7.heap.size wX v → Off (wX.alloc (.cells (rcs ⟨A8, c8, ⟨ver, thr, n, caps, ch, st, pl⟩, A6, c6, A9, c9⟩ (door0 us caps n (greetBs ver thr n caps ch st pl)) 0 []).toArray t)) S v := fun v hv b hb => by
    have h4 := hv b hb
    refine ⟨fun hm => ?_, by omega⟩
    rcases hlt b hm with h5 | h5 <;> omega
  refine ⟨⟨A8, c8, ⟨ver, thr, n, caps, ch, st, pl⟩, A6, c6, A9, c9⟩, 0, [], BoxF.new wX _ t, hr8.ext hx, off _ hf8, hr9.ext hx, off _ hf9, hr6.ext hx, fun b hb => ?_, hgood, hok, rfl, rfl, hl, ⟨fun _ => rfl, (fun e => by cases e), fun e => absurd e (by show ¬ ((1 : Int) = 2); decide), fun _ e => absurd e (by show ¬ ((0 : Nat) = 1 ∨ (0 : Nat) = 2); decide), (fun e => by cases e), fun e => absurd e (by show ¬ ((1 : Int) = 2); decide)⟩, hS, fun x hx => ?_⟩
  · have h4 := hf6 b hb
    refine ⟨fun hm => ?_, by omega⟩
    rcases hlt b hm with h5 | h5 <;> omega
  · rcases hlt x hx with h5 | h5 <;> omega
set_option maxRecDepth 100000 in
set_option maxHeartbeats 4000000 in
theorem newDoorR_ok (w : World) (v : Value) (us : List UserV) (ver n pl : List UInt8) (thr caps ch st : Int) (vn : Value) (hus : Recs w 5 v (us.map userC)) (hgood : GoodU us) (h64 : us.length ≤ 64) (hn : Rd w vn n) (hok : GreOk ⟨ver, thr, n, caps, ch, st, pl⟩) (hpl : pl.length ≤ 10000) (hvl : ver.length ≤ 10000) (hck : checkC caps = 0) :
    Calls Tryz.prog 22 #[v, .agg #[.string (strL ver), .int .u32 thr, vn, .int .u32 caps, .int .u8 ch, .int .u16 st, .string (strL pl)]] w fun e w' => ∃ g, e = .returned (.tuple #[.pointer (some ⟨g, 0, none⟩), .int .i64 0]) ∧
      w.heap.size ≤ g ∧ g < w'.heap.size ∧ Ext w w' ∧ ∀ S : List Nat, g ∈ S → (∀ x ∈ S, x = g ∨ x < w.heap.size) → RefIs w' S g (door0 us caps n (greetBs ver thr n caps ch st pl)) := by
  have HUS := Lib.hid hus
  have HGOOD := Lib.hid hgood
  obtain ⟨A, cap, hv, hle, hm⟩ := hus.shape
  rw [List.length_map] at hv hle
  unfold maxLen at hm
  obtain ⟨N, hN⟩ : ∃ N, N = us.length := ⟨_, rfl⟩
  rw [← hN] at hv hle h64
  subst hv
  have HN := Lib.hid hN
  obtain ⟨An, cn, rfl, _⟩ := id hn
  have HNN := Lib.hid hn
  have HOK := Lib.hid hok
  have HLL := Lib.hid (And.intro hvl hpl)
  have HG := Lib.hid (fun w v hv => appendGreetingR_g w ver n pl thr caps ch st v hv hok.ver hok.pl hok.n20 (greF_ok hok) hok.thr hok.caps hok.ch hok.st hpl hvl)
  have HCK := Lib.hid hck
  have H20 := Lib.hid (show n.length = 20 from hok.n20)
  clear hus hgood hN hn hok hpl hvl hck
  go_enter Tryz.func22, Tryz.ntmps22
  go_upto_region 1 with fail
  generalize hW0 : w.alloc _ = wS
  have hb0 : BoxF wS w.heap.size [.string (strL ver), .int .u32 thr, .slice An n.length cn, .int .u32 caps, .int .u8 ch, .int .u16 st, .string (strL pl)] := by rw [← hW0]; exact BoxF.new w _ _
  have hx0 : Ext w wS := by rw [← hW0]; exact (Ext.refl w).alloc _
  clear hW0
  have HB0 := Lib.hid hb0
  have HX0 := Lib.hid hx0
  clear hb0 hx0
  go_wp2_with fail
  go_loopw [6, 7] (fun i _ W => ∃ k : Nat, k ≤ N ∧ i = .int .i64 k ∧ Ext wS W) (fun i _ _ => N - (intOf i).toNat)
  case atStart => exact ⟨0, Nat.zero_le _, rfl, Ext.refl _⟩
  case round =>
    obtain ⟨k, hk, rfl, hx⟩ := hrel
    by_cases hkN : k < N
    · have hbk : (k : Int) < (N : Int) := by omega
      obtain ⟨b0, o0, rfl, hn2, hcs⟩ := (HUS.out.ext (HX0.out.trans hx)).at_ (A := A) (n := N) (cap := cap) (by omega)
      have hck := hcs k hkN
      rw [rangeAt_userC us k (by have := HN.out; omega)] at hck
      have hgk := HGOOD.out k (by have := HN.out; omega)
      generalize hu : us.getD k userZ = u at hck hgk
      obtain ⟨nm, pw, plg, sc, ad⟩ := u
      have HCKk := Lib.hid (show wr.rangeAt b0 (o0 + k * 5) [.string (strL nm), .string (strL pw), .string (strL plg), .string (strL sc), .bool ad] from hck)
      have HCU := Lib.hid (show checkU ⟨nm, pw, plg, sc, ad⟩ = 0 by unfold checkU; rw [hgk.1]; rfl)
      have HSZ := Lib.hid (okU_sizes hgk.1)
      have HNO := Lib.hid hgk.2
      have HCS := Lib.hid hcs
      have HX := Lib.hid hx
      have HU := Lib.hid hu
      clear hck hgk hcs hn2 hx hu
      go_wp2_with (first
        | ((with_reducible show AtS 22); refine wpl_load_rec rfl _ _ rfl b0 _ rfl HCKk.out Tryz.underlying32 rfl (by kernel_rfl) ?_)
        | (go_at_call 20; refine (checkUR_c _ nm pw plg sc ad HSZ.out.1 HSZ.out.2.1 HSZ.out.2.2).mono ?_; rintro e w5 ⟨rfl, hx5⟩; rw [HCU.out])
        | fail)
      have HX5 := Lib.hid hx5
      clear hx5
      go_loopw [7] (fun i W => ∃ m : Nat, m ≤ k ∧ i = .int .i64 m ∧ Ext wr W) (fun i _ => k - (intOf i).toNat)
      case atStart => exact ⟨0, Nat.zero_le _, rfl, HX5.out⟩
      case round =>
        obtain ⟨m, hm2, rfl, hx2⟩ := hrel
        by_cases hmk : m < k
        · have hbm : (m : Int) < (k : Int) := by omega
          have hbmN : (m : Int) < (N : Int) := by omega
          have hcm := HCS.out m (by omega)
          rw [rangeAt_userC us m (by have := HN.out; omega)] at hcm
          have hne : (us.getD m userZ).name ≠ nm := fun e => findU_take_some us k m nm hmk (by have := HN.out; omega) e HNO.out
          generalize us.getD m userZ = um at hcm hne
          obtain ⟨un, upw, upl, usc, uad⟩ := um
          have d1 := hx2.cell (hcm 0 (.string (strL un)) rfl)
          have d0 := hx2.cell (HCKk.out 0 (.string (strL nm)) rfl)
          rw [Nat.add_zero] at d0 d1
          have hq : ((strL un).toList == (strL nm).toList) = false := by rw [strL_tl, strL_tl]; simpa using hne
          have HX2 := Lib.hid hx2
          have HJ := Lib.hid hcm
          clear hcm hne hx2
          go_wp2_with fail
          (try dsimp only [Act.put])
          first | go_region | fail
          (try rw [hq])
          go_wp2_with fail
          go_roundw
          case rel => exact ⟨m + 1, by omega, by go_num, HX2.out.trans (Ext.refl _).drew⟩
          case measure => simp [intOf]; omega
        · have hbm : ¬ (m : Int) < (k : Int) := by omega
          go_wp2_with fail
          go_roundw
          case rel => exact ⟨k + 1, by omega, by go_num, HX.out.trans hx2⟩
          case measure => simp [intOf]; omega
    · obtain rfl : k = N := by omega
      have hb9 : ¬ (k : Int) < (k : Int) := by omega
      have HX := Lib.hid hx
      have HB := Lib.hid (HB0.out.ext hx)
      clear hx
      go_upto_region 17 with (first
        | ((with_reducible show AtS 42); refine wpl_load_box rfl _ _ rfl _ rfl HB.out Tryz.underlying29 rfl (by kernel_rfl) ?_)
        | (go_at_call 58; refine (HG.out _ _ (HNN.out.ext (HX0.out.trans HX.out))).mono ?_; rintro e w1 ⟨v1, rfl, ho1, hx1⟩; obtain ⟨A1, c1, hv1, _⟩ := id ho1.rd; subst hv1; have B1 := HB.out.ext hx1; have d3 := B1.at (j := 3) rfl; have d2 := B1.at (j := 2) rfl; have d2a := fun o => Ext.cell ((Ext.refl w1).alloc o) d2; clear d2)
        | (go_at_call 59; refine (capsCheckR_c _ caps).mono ?_; rw [HCK.out]; rintro e wx ⟨rfl, rfl⟩)
        | ((with_reducible show AtS 57); refine wpl_append_rd bt (own_nil w1 w1.heap.size w1.heap.size rfl (Nat.le_refl _)) (HNN.out.ext (((HX0.out.trans HX.out).trans hx1).alloc _)) rfl _ _ rfl rfl rfl (by have := H20.out; simp; omega) (by simp) ?_; intro v6 w6 ho6 hb6; have hx6 : Ext w1 w6 := ((Ext.refl w1).alloc _).below hb6 (Nat.le_refl _); rw [List.nil_append] at ho6; obtain ⟨A6, c6, hv6, _⟩ := id ho6.rd; subst hv6; have B6 := B1.ext hx6)
        | ((with_reducible show AtW 22); refine wpl_store_cell rfl _ _ _ rfl w.heap.size 2 (.slice A6 n.length c6) rfl rfl rfl rfl (by kernel_rfl) B6 (show 2 < 7 by decide) ?_; intro w7 B7 O7)
        | fail)
      have hx7 : Ext w w7 := (((HX0.out.trans HX.out).trans hx1).trans hx6).on O7 (Nat.le_refl _)
      have HX7 := Lib.hid hx7
      have HU7 := Lib.hid (HUS.out.ext hx7)
      have HO6 := Lib.hid ho6
      have HB7 := Lib.hid B7
      have e0 := B7.at (j := 0) rfl
      have e1 := B7.at (j := 1) rfl
      have e2 := B7.at (j := 2) rfl
      have e3 := B7.at (j := 3) rfl
      have e4 := B7.at (j := 4) rfl
      have e5 := B7.at (j := 5) rfl
      have e6 := B7.at (j := 6) rfl
      clear hx7 ho6 B7 B6 B1 d3 d2a
      have hE := Ext.refl w7
      have HR6 := Lib.hid (HO6.out.rd.on O7 (fun e => by have h1 := (World.ownsRow.lt HO6.out _ e).1; have h2 := Ext.size ((HX0.out.trans HX.out).trans hx1); have h3 := HB0.out.lt; have h4 := Ext.size hx1; have h5 := Ext.size HX.out; omega))
      have HF6 := Lib.hid (show ∀ h, (Value.slice A6 n.length c6).ownBlock = some h → w.heap.size < h ∧ h < w7.heap.size from fun h e => by have h1 := World.ownsRow.lt HO6.out _ e; have h3 := HB0.out.lt; have h4 := Ext.size hx1; have h5 := Ext.size HX.out; have h6 := O7.size; omega)
      have HROW := Lib.hid (show ∀ r ∈ us.map userC, r.length = 5 from fun r hr => by obtain ⟨u, _, rfl⟩ := List.mem_map.1 hr; rfl)
      have HONE := Lib.hid (show ∀ r ∈ us.map userC, ∀ x ∈ r, x.oneCell' = true from fun r hr x hx => by obtain ⟨u, _, rfl⟩ := List.mem_map.1 hr; simp only [userC, List.mem_cons, List.not_mem_nil, or_false] at hx; rcases hx with rfl | rfl | rfl | rfl | rfl <;> rfl)
      go_region_held3 (fun W' => W'.cell? ⟨w.heap.size, 0, none⟩ = some (.string (strL ver)) ∧ W'.cell? ⟨w.heap.size, 1, none⟩ = some (.int .u32 thr) ∧ W'.cell? ⟨w.heap.size, 2, none⟩ = some (.slice A6 n.length c6) ∧ W'.cell? ⟨w.heap.size, 3, none⟩ = some (.int .u32 caps) ∧ W'.cell? ⟨w.heap.size, 4, none⟩ = some (.int .u8 ch) ∧ W'.cell? ⟨w.heap.size, 5, none⟩ = some (.int .u16 st) ∧ W'.cell? ⟨w.heap.size, 6, none⟩ = some (.string (strL pl)) ∧ Ext w7 W') ((refine (fun h => ⟨Ext.cell h e0, Ext.cell h e1, Ext.cell h e2, Ext.cell h e3, Ext.cell h e4, Ext.cell h e5, Ext.cell h e6, h⟩) ?_; repeat' (first | with_reducible exact hE | (with_reducible refine Ext.drew ?_) | (with_reducible refine Ext.alloc ?_ _))))
        (first
          | ((with_reducible show (if Region.wanted (⟨some 61, _, _, _, _, _⟩ : Oper) _ = true then _ else _)); go_must (refine step_append_recs0 (t := 32) (sz := 5) (z := .agg #[.string ⟨#[]⟩, .string ⟨#[]⟩, .string ⟨#[]⟩, .string ⟨#[]⟩, .bool false]) (bytes := 72) Tryz.underlying54 (by kernel_rfl) (by omega) (by omega) (base := w7.heap.size) (HU7.out.ext (by repeat' (first | exact hE | (with_reducible refine Ext.drew ?_) | (with_reducible refine Ext.alloc ?_ _)))) HROW.out HONE.out (by have := HN.out; simp; omega) (by rfl) _ _ (by rfl) (by rfl) (by rfl) (by first | exact Nat.le_refl _ | (simp; done) | (simp; omega) | (have h1 := Ext.size hE; simp at h1 ⊢; omega) | (simp at hs9 ⊢; omega) | fail) (by first | exact Nat.le_refl _ | (simp; done) | (simp; omega) | (have h1 := Ext.size hE; simp at h1 ⊢; omega) | (simp at hs9 ⊢; omega) | fail) ?_; intro v8 w8 hr8 hf8 hx8; have hs8 := Ext.size hx8; (try replace hr9 := hr9.ext (Ext.trans (by repeat' (first | exact (Ext.refl _) | (with_reducible refine Ext.drew ?_) | (with_reducible refine Ext.alloc ?_ _))) hx8)); (try replace hf9 := hf9.more (Ext.size (Ext.trans (by repeat' (first | exact (Ext.refl _) | (with_reducible refine Ext.drew ?_) | (with_reducible refine Ext.alloc ?_ _))) hx8))); obtain ⟨A8, c8, hv8, _, _⟩ := hr8.shape; rw [List.length_map, ← HN.out] at hv8; subst hv8; replace hE : Ext w7 w8 := Ext.trans (by repeat' (first | exact hE | (with_reducible refine Ext.drew ?_) | (with_reducible refine Ext.alloc ?_ _))) hx8))
          | ((with_reducible show (if Region.wanted (⟨some 66, _, _, _, _, _⟩ : Oper) _ = true then _ else _)); go_must (refine step_append_rd0 (base := w7.heap.size) (m := n) bt (HR6.out.ext (by repeat' (first | exact hE | (with_reducible refine Ext.drew ?_) | (with_reducible refine Ext.alloc ?_ _)))) (by have := H20.out; omega) (by rfl) _ _ (by rfl) (by rfl) (by rfl) (by first | exact Nat.le_refl _ | (simp; done) | (simp; omega) | (have h1 := Ext.size hE; simp at h1 ⊢; omega) | (simp at hs8 ⊢; omega) | fail) (by first | exact Nat.le_refl _ | (simp; done) | (simp; omega) | (have h1 := Ext.size hE; simp at h1 ⊢; omega) | (simp at hs8 ⊢; omega) | fail) ?_; intro v9 w9 hr9 hf9 hx9; have hs9 := Ext.size hx9; (try replace hr8 := hr8.ext (Ext.trans (by repeat' (first | exact (Ext.refl _) | (with_reducible refine Ext.drew ?_) | (with_reducible refine Ext.alloc ?_ _))) hx9)); (try replace hf8 := hf8.more (Ext.size (Ext.trans (by repeat' (first | exact (Ext.refl _) | (with_reducible refine Ext.drew ?_) | (with_reducible refine Ext.alloc ?_ _))) hx9))); obtain ⟨A9, c9, hv9, _⟩ := id hr9; subst hv9; replace hE : Ext w7 w9 := Ext.trans (by repeat' (first | exact hE | (with_reducible refine Ext.drew ?_) | (with_reducible refine Ext.alloc ?_ _))) hx9))
          | fail)
      all_goals
        have HE9 := Lib.hid hE
        have HR8 := Lib.hid hr8
        have HR9 := Lib.hid hr9
        have HF8 := Lib.hid hf8
        have HF9 := Lib.hid hf9
        clear hr8 hr9 hf8 hf9
        go_wp2_with fail
        go_ret2
        have hk9 := HN.out
        subst hk9
        exact ⟨_, rfl, Ext.size (HX7.out.trans HE9.out), by simp, (HX7.out.trans HE9.out).alloc _, fun S h1 h2 => refDoor_made w w7 _ us ver n pl thr caps ch st A8 A9 A6 c8 c9 c6 _ HX7.out HE9.out HR8.out HF8.out HR9.out HF9.out (HR6.out.ext HE9.out) HF6.out HGOOD.out HOK.out HLL.out S h1 h2⟩
end Go.Proofs.YtbodppfpmpmadaaGreat

