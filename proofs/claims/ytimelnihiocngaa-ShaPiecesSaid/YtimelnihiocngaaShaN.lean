/- A hash takes bytes piece by piece. (Printed by gen_shaN.py.) -/
import Derived.Test.YtimelnihiocngaaShaM
import Derived.Test.YtimelnihiocngaaSized
namespace Go.Proofs.Ytimelnihiocngaa
open Go.RowKit

theorem Own.keep {g base : Nat} {w w' : World} {v : Value} {l : List UInt8} (h : Own w base v l) (k : On g w w') (hne : v.ownBlock ≠ some g) : Own w' base v l :=
  World.ownsRow.kept h k (.inr hne)
theorem Own.lt {base : Nat} {w : World} {v : Value} {l : List UInt8} (h : Own w base v l) {g : Nat} (hg : v.ownBlock = some g) : base ≤ g ∧ g < w.heap.size := by
  rcases h.2 with ⟨rfl, _⟩ | ⟨g', cap, cur, rfl, h1, h2, _⟩
  · cases hg
  · obtain rfl : g' = g := by simpa [Value.ownBlock] using hg
    refine ⟨h1, ?_⟩
    rcases Nat.lt_or_ge g' w.heap.size with h | h
    · exact h
    · rw [Array.getElem?_eq_none h] at h2; cases h2
theorem BoxF.below {W W' : World} {g B : Nat} {cs : List Value} (h : BoxF W g cs) (k : Below B W W') (hg : g < B) : BoxF W' g cs :=
  ⟨h.box.below k hg, fun j hj => (k.frozen hg).trans (h.free j hj), Nat.lt_of_lt_of_le h.lt (Below.size k)⟩
/-- An owned slice that is not empty: its block's cells. -/
theorem Own.boxF {w : World} {base : Nat} {v : Value} {l : List UInt8} (h : Own w base v l) (hl : l ≠ []) : ∃ g cap, v = .slice (some ⟨g, 0, none⟩) l.length cap ∧ base ≤ g ∧ BoxF w g (bc l) := by
  have hlt := fun g hg => h.lt (g := g) hg
  have hcells := fun g hg => World.ownsRow.cells h (g := g) hg
  rcases h.2 with ⟨rfl, h0⟩ | ⟨g, cap, cur, rfl, hb, hg, hn, hm, hs, ht⟩
  · exact absurd (List.eq_nil_of_length_eq_zero h0) hl
  · refine ⟨g, cap, rfl, hb, fun j hj => ?_, fun j hj => ?_, (hlt g rfl).2⟩
    · rw [bc_length] at hj
      have := hcells g rfl j _ (bc_get l j hj)
      rw [addr0] at this
      rw [this, List.getD_eq_getElem?_getD (l := bc l), bc_get l j hj]
      rfl
    · simp [World.frozen?, hg]

/-- The cells of bytes that are numbers. -/
def bi (xs : List Int) : List Value := xs.map (Value.int .u8)
theorem bi_length (l : List Int) : (bi l).length = l.length := by simp [bi]
theorem bi_get (l : List Int) (j : Nat) (h : j < l.length) : (bi l)[j]? = some (.int .u8 (l.getD j 0)) := by
  simp [bi, List.getElem?_eq_getElem h, List.getD]
theorem bi_set (l : List Int) (j : Nat) (x : Int) : (bi l).set j (.int .u8 x) = bi (l.set j x) := by simp [bi, List.map_set]
theorem bc_bi (l : List UInt8) : ∃ xs : List Int, xs.length = l.length ∧ bc l = bi xs := ⟨l.map (fun c => (c.toNat : Int)), by simp, by simp [bc, bi, List.map_map]⟩

set_option maxRecDepth 100000 in
set_option maxHeartbeats 4000000 in
theorem pieces_1 (w : World) (v : Value) (ls : List (List UInt8)) (hls : Lists w v ls) (hbd : ∀ j, (ls.getD j []).length ≤ 140737488351232) : Calls Try.prog 5 #[.int .i64 1, v] w fun e w' => e = .returned (.bool true) ∧ Ext w w' := by
  have HL := Lib.hid hls
  have HBD := Lib.hid hbd
  clear hbd
  obtain ⟨A, cap, rfl, hle, hm, hz⟩ := hls
  clear hz
  obtain ⟨N, hN⟩ : ∃ N, N = ls.length := ⟨_, rfl⟩
  rw [← hN] at HL hle ⊢
  unfold maxLen at hm
  have HN := Lib.hid hN
  clear hN
  go_enter Try.func5, Try.ntmps5
  go_wp2_with (first
    | (go_at_call 14; refine (lives07_c _).mono ?_; rintro e w0 ⟨rfl, hx0⟩)
    | (go_at_call 13; refine (new_c _ 1 (by decide)).mono ?_; rintro e w1 ⟨g, rfl, hg, hx1, B1⟩)
    | fail)
  have hxa := hx0.trans hx1
  have hgw : w.heap.size ≤ g := Nat.le_trans (Ext.size hx0) hg
  have hg1 : g < w1.heap.size := B1.lt
  have OW1 : Own w1 w1.heap.size (.slice none 0 0) [] := Own.nil w1 _
  have HG1 := Lib.hid hg1
  have HGW := Lib.hid hgw
  clear hg hg1 hgw
  go_loopw [6, 7, 8, 9, 10, 11] (fun _ va i _ _ _ W => ∃ k : Nat, ∃ alls : List UInt8, i = .int .i64 k ∧ k ≤ N ∧ alls.length ≤ 5000 ∧ Own W w1.heap.size va alls ∧ BoxF W g (hashS 1 (feedH 1 (initH 1) alls) (alls.length : Int)) ∧ Ext w W ∧ w1.heap.size ≤ W.heap.size) (fun _ _ i _ _ _ _ => N - (intOf i).toNat)
  case atStart => exact ⟨0, [], rfl, Nat.zero_le _, by simp, OW1, B1, hxa, Nat.le_refl _⟩
  case round =>
    clear OW1 B1 hxa hx0 hx1
    obtain ⟨k, alls, rfl, hkN, ha5, OW, B, hx, hsz⟩ := hrel
    have HOW := Lib.hid OW
    have HB := Lib.hid B
    have HX := Lib.hid hx
    have HSZ := Lib.hid hsz
    have va := OW.rd
    obtain ⟨Av, cv, rfl, hle2, hm2, hz⟩ := va
    clear hz OW B hx hsz
    by_cases hk : k < N
    · have hki : (k : Int) < (N : Int) := by omega
      by_cases hk60 : k < 60
      · have hki2 : (k : Int) < 60 := by omega
        obtain ⟨L, u, b, o, hLb, hA, hcw, hrw⟩ : ∃ L u b o, L.length ≤ 140737488351232 ∧ A = some ⟨b, o, none⟩ ∧ w.cell? ⟨b, o + k, none⟩ = some u ∧ Rd w u L := by
          obtain ⟨A', cap', hv, _, _, h4⟩ := HL.out
          injection hv with e1 e2 e3
          subst e1
          obtain ⟨b, o, hb, hc⟩ := h4 (by intro e; have := HN.out; subst e; simp at this; omega)
          obtain ⟨u, hu, hr⟩ := hc k (by have := HN.out; omega)
          exact ⟨_, u, b, o, HBD.out k, hb, hu, hr⟩
        subst hA
        obtain ⟨Au, cu, rfl, hleu, hmu, hz⟩ := id hrw
        clear hz
        have HRU := Lib.hid hrw
        have HCW := Lib.hid hcw
        clear hrw
        have hcu := HX.out.cell hcw
        clear hcw
        by_cases hs : alls.length + L.length ≤ 5000
        · have hsi : (alls.length : Int) + (L.length : Int) ≤ 5000 := by omega
          have hcu2 : (wr.alloc (.cells #[] 5)).cell? ⟨b, o + k, none⟩ = some (.slice Au L.length cu) := ((Ext.refl _).alloc _).cell hcu
          obtain ⟨F, hF⟩ : ∃ F, F = alls ++ L := ⟨_, rfl⟩
          have hFl : F.length = alls.length + L.length := by rw [hF, List.length_append]
          have HF := Lib.hid hF
          have HFL := Lib.hid hFl
          clear hF hFl
          go_wp2_with (first
            | ((with_reducible show wpList _ _ _ (⟨some 63, _, _, _, _, _⟩ :: _) _ _); refine wpl_clone bt (HRU.out.ext HX.out) rfl _ _ rfl rfl rfl (by omega) ?_; intro vo w2 OW2 hx2)
            | (go_at_call 23; refine (write_c _ g 1 _ _ _ _ (HB.out.ext hx2) (goodH_feed 1 alls (goodH_init 1)) (by decide) OW2.rd (fun _ e => by have h1 := (OW2.lt e).1; have h2 := HB.out.lt; omega) (by omega)).mono ?_; rintro e w3 ⟨rfl, O3, B3⟩)
            | fail)
          rw [← feedH_append, ← HF.out, ← HFL.out] at B3
          have hext3 : Ext w w3 := (HX.out.trans hx2).on O3 HGW.out
          have hva : ∀ g', wr.heap.size ≤ g' → (Value.slice Av alls.length cv).ownBlock ≠ some g' := fun g' h e => by have h1 := (HOW.out.lt e).2; omega
          have hOW3 : Own w3 w1.heap.size (.slice Av alls.length cv) alls := (HOW.out.ext hx2).keep O3 (fun e => by have h1 := (HOW.out.lt e).1; have h2 := HG1.out; omega)
          have hOv3 : Own w3 wr.heap.size vo L := OW2.keep O3 (fun e => by have h1 := (OW2.lt e).1; have h2 := HB.out.lt; omega)
          have hgr : g < wr.heap.size := HB.out.lt
          have hsz31 : w1.heap.size ≤ w3.heap.size := Nat.le_trans HSZ.out (Nat.le_trans (Ext.size hx2) O3.size)
          obtain ⟨Ao, co, hvo, hleo, hmo, hzo⟩ := hOv3.rd
          clear hzo
          subst hvo
          have hBo : L ≠ [] → ∃ go, Ao = some ⟨go, 0, none⟩ ∧ wr.heap.size ≤ go ∧ ∃ xs : List Int, xs.length = L.length ∧ BoxF w3 go (bi xs) := fun hL => by
            obtain ⟨go, co', hv, hgo, Bo⟩ := hOv3.boxF hL
            injection hv with e1 e2 e3
            obtain ⟨xs, h1, h2⟩ := bc_bi L
            exact ⟨go, e1, hgo, xs, h1, h2 ▸ Bo⟩
          have HVA := Lib.hid hva
          have HGR := Lib.hid hgr
          clear hcu2 OW2 hx2 O3 hOv3 hva hgr hcu
          have HO := Lib.hid hsi
          go_loopw [10] (fun i W => ∃ j : Nat, j ≤ L.length ∧ i = .int .i64 j ∧ Ext w W ∧ w1.heap.size ≤ W.heap.size ∧ BoxF W g (hashS 1 (feedH 1 (initH 1) F) (F.length : Int)) ∧ Own W w1.heap.size (.slice Av alls.length cv) alls ∧ (L ≠ [] → ∃ go, Ao = some ⟨go, 0, none⟩ ∧ wr.heap.size ≤ go ∧ ∃ xs : List Int, xs.length = L.length ∧ BoxF W go (bi xs))) (fun i _ => L.length - (intOf i).toNat)
          case atStart => exact ⟨0, Nat.zero_le _, rfl, hext3, hsz31, B3, hOW3, hBo⟩
          case round =>
            clear hext3 hsz31 B3 hOW3 hBo
            obtain ⟨j, hj, rfl, hx4, hw4s, B4, OW4, hBo⟩ := hrel
            have HW4S := Lib.hid hw4s
            clear hw4s
            have HX4 := Lib.hid hx4
            have HB4 := Lib.hid B4
            have HOW4 := Lib.hid OW4
            clear hx4 B4 OW4
            by_cases hjj : j < L.length ∧ j < 3
            · obtain ⟨hj1, hj2⟩ := hjj
              have hj1i : (j : Int) < (L.length : Int) := by omega
              have hj2i : (j : Int) < 3 := by omega
              obtain ⟨go, rfl, hgo, xs, hxl, Bo⟩ := hBo (by intro e; subst e; simp at hj1)
              have pj := Bo.at (bi_get xs j (by omega))
              have fj := Bo.free j (by rw [bi_length]; omega)
              generalize xs.getD j 0 = x at pj
              have HBO := Lib.hid Bo
              clear Bo
              go_wp2_with (first
                | ((with_reducible show wpList _ _ _ (⟨none, Op.store _ _ _, _, _, _, _⟩ :: _) _ _); refine wpl_store_cell rfl _ _ _ rfl go j (.int .u8 _) rfl rfl rfl rfl (by kernel_rfl) HBO.out (by rw [bi_length]; omega) ?_; intro w5 B5 O5; rw [bi_set] at B5)
                | fail)
              have hne : g ≠ go := by have := HGR.out; omega
              have hva := HVA.out go hgo
              have hgw2 : w.heap.size ≤ go := by have := HGW.out; have := HGR.out; omega
              go_roundw
              case rel => exact ⟨j + 1, by omega, by go_num, HX4.out.on O5 hgw2, Nat.le_trans HW4S.out O5.size, HB4.out.on O5 hne, HOW4.out.keep O5 hva, fun _ => ⟨go, rfl, hgo, _, by rw [List.length_set]; exact hxl, B5⟩⟩
              case measure => simp [intOf]; omega
            · have hcw4 := HX4.out.cell HCW.out
              clear hBo
              have hFi : (F.length : Int) = (alls.length : Int) + (L.length : Int) := by have := HFL.out; omega
              have HFI := Lib.hid hFi
              have hF5 : (F.length : Int) ≤ 5000 := by omega
              clear hFi
              have hjc : (L.length : Int) ≤ (j : Int) ∨ ((j : Int) < (L.length : Int) ∧ (3 : Int) ≤ (j : Int)) := by omega
              clear hjj
              rcases hjc with hj1i | ⟨hj1i, hj2i⟩
              · go_wp2_with (first
                  | ((with_reducible show wpList _ _ _ (⟨some 90, _, _, _, _, _⟩ :: _) _ _); refine wpl_append_rd bt HOW4.out (HRU.out.ext HX4.out) rfl _ _ rfl rfl rfl (by omega) HW4S.out ?_; intro v5 w5 OW5 hb5; rw [← HF.out] at OW5; have HR5 := Lib.hid OW5; obtain ⟨A5, c5, rfl, hle5, hm5, hz5⟩ := OW5.rd; clear hz5 OW5; have B5 := HB4.out.below hb5 HG1.out; have hx5 := HX4.out.below hb5 (by have := HGW.out; have := HG1.out; omega); have hs5 := Nat.le_trans HW4S.out (Below.size hb5))
                  | (go_at_call 16; refine (sum1_c _ _ F HR5.out.rd (by omega)).mono ?_; rintro e w6 ⟨v6, rfl, ho6, hx6⟩)
                  | (go_at_call 24; refine (len_c _ g 1 _ _ (B5.ext hx6) (goodH_feed 1 F (goodH_init 1)) (by decide)).mono ?_; rintro e wx ⟨rfl, rfl⟩)
                  | (go_at_call 25; refine (sum_c _ g 1 _ F.length (B5.ext hx6) (goodH_feed 1 F (goodH_init 1)) (by decide) (by omega)).mono ?_; rintro e w8 ⟨v8, rfl, ho8, hx8⟩)
                  | (go_at_call 19; refine (same_c _ _ _ (sumP 1 F) (sumP 1 F) ho8.rd (ho6.rd.ext hx8) true (by simp)).mono ?_; rintro e wx ⟨rfl, rfl⟩)
                  | fail)
                go_roundw
                case rel => exact ⟨k + 1, F, by go_num, by omega, by omega, (HR5.out.ext hx6).ext hx8, (B5.ext hx6).ext hx8, (hx5.trans hx6).trans hx8, Nat.le_trans hs5 (Ext.size (hx6.trans hx8))⟩
                case measure => simp [intOf]; omega
              · go_wp2_with (first
                  | ((with_reducible show wpList _ _ _ (⟨some 90, _, _, _, _, _⟩ :: _) _ _); refine wpl_append_rd bt HOW4.out (HRU.out.ext HX4.out) rfl _ _ rfl rfl rfl (by omega) HW4S.out ?_; intro v5 w5 OW5 hb5; rw [← HF.out] at OW5; have HR5 := Lib.hid OW5; obtain ⟨A5, c5, rfl, hle5, hm5, hz5⟩ := OW5.rd; clear hz5 OW5; have B5 := HB4.out.below hb5 HG1.out; have hx5 := HX4.out.below hb5 (by have := HGW.out; have := HG1.out; omega); have hs5 := Nat.le_trans HW4S.out (Below.size hb5))
                  | (go_at_call 16; refine (sum1_c _ _ F HR5.out.rd (by omega)).mono ?_; rintro e w6 ⟨v6, rfl, ho6, hx6⟩)
                  | (go_at_call 24; refine (len_c _ g 1 _ _ (B5.ext hx6) (goodH_feed 1 F (goodH_init 1)) (by decide)).mono ?_; rintro e wx ⟨rfl, rfl⟩)
                  | (go_at_call 25; refine (sum_c _ g 1 _ F.length (B5.ext hx6) (goodH_feed 1 F (goodH_init 1)) (by decide) (by omega)).mono ?_; rintro e w8 ⟨v8, rfl, ho8, hx8⟩)
                  | (go_at_call 19; refine (same_c _ _ _ (sumP 1 F) (sumP 1 F) ho8.rd (ho6.rd.ext hx8) true (by simp)).mono ?_; rintro e wx ⟨rfl, rfl⟩)
                  | fail)
                go_roundw
                case rel => exact ⟨k + 1, F, by go_num, by omega, by omega, (HR5.out.ext hx6).ext hx8, (B5.ext hx6).ext hx8, (hx5.trans hx6).trans hx8, Nat.le_trans hs5 (Ext.size (hx6.trans hx8))⟩
                case measure => simp [intOf]; omega
        · have hsi : 5000 < (alls.length : Int) + (L.length : Int) := by omega
          have hsi2 : (alls.length : Int) + (L.length : Int) ≤ 140737488356232 := by omega
          go_wp2_with fail
          go_ret
          exact ⟨rfl, HX.out⟩
      · have hki2 : (60 : Int) ≤ (k : Int) := by omega
        go_wp2_with fail
        go_ret
        exact ⟨rfl, HX.out⟩
    · have hki : (N : Int) ≤ (k : Int) := by omega
      go_wp2_with fail
      go_ret
      exact ⟨rfl, HX.out⟩

set_option maxRecDepth 100000 in
set_option maxHeartbeats 4000000 in
theorem pieces_2 (w : World) (v : Value) (ls : List (List UInt8)) (hls : Lists w v ls) (hbd : ∀ j, (ls.getD j []).length ≤ 140737488351232) : Calls Try.prog 5 #[.int .i64 2, v] w fun e w' => e = .returned (.bool true) ∧ Ext w w' := by
  have HL := Lib.hid hls
  have HBD := Lib.hid hbd
  clear hbd
  obtain ⟨A, cap, rfl, hle, hm, hz⟩ := hls
  clear hz
  obtain ⟨N, hN⟩ : ∃ N, N = ls.length := ⟨_, rfl⟩
  rw [← hN] at HL hle ⊢
  unfold maxLen at hm
  have HN := Lib.hid hN
  clear hN
  go_enter Try.func5, Try.ntmps5
  go_wp2_with (first
    | (go_at_call 14; refine (lives07_c _).mono ?_; rintro e w0 ⟨rfl, hx0⟩)
    | (go_at_call 13; refine (new_c _ 2 (by decide)).mono ?_; rintro e w1 ⟨g, rfl, hg, hx1, B1⟩)
    | fail)
  have hxa := hx0.trans hx1
  have hgw : w.heap.size ≤ g := Nat.le_trans (Ext.size hx0) hg
  have hg1 : g < w1.heap.size := B1.lt
  have OW1 : Own w1 w1.heap.size (.slice none 0 0) [] := Own.nil w1 _
  have HG1 := Lib.hid hg1
  have HGW := Lib.hid hgw
  clear hg hg1 hgw
  go_loopw [6, 7, 8, 9, 10, 11] (fun _ va i _ _ _ W => ∃ k : Nat, ∃ alls : List UInt8, i = .int .i64 k ∧ k ≤ N ∧ alls.length ≤ 5000 ∧ Own W w1.heap.size va alls ∧ BoxF W g (hashS 2 (feedH 2 (initH 2) alls) (alls.length : Int)) ∧ Ext w W ∧ w1.heap.size ≤ W.heap.size) (fun _ _ i _ _ _ _ => N - (intOf i).toNat)
  case atStart => exact ⟨0, [], rfl, Nat.zero_le _, by simp, OW1, B1, hxa, Nat.le_refl _⟩
  case round =>
    clear OW1 B1 hxa hx0 hx1
    obtain ⟨k, alls, rfl, hkN, ha5, OW, B, hx, hsz⟩ := hrel
    have HOW := Lib.hid OW
    have HB := Lib.hid B
    have HX := Lib.hid hx
    have HSZ := Lib.hid hsz
    have va := OW.rd
    obtain ⟨Av, cv, rfl, hle2, hm2, hz⟩ := va
    clear hz OW B hx hsz
    by_cases hk : k < N
    · have hki : (k : Int) < (N : Int) := by omega
      by_cases hk60 : k < 60
      · have hki2 : (k : Int) < 60 := by omega
        obtain ⟨L, u, b, o, hLb, hA, hcw, hrw⟩ : ∃ L u b o, L.length ≤ 140737488351232 ∧ A = some ⟨b, o, none⟩ ∧ w.cell? ⟨b, o + k, none⟩ = some u ∧ Rd w u L := by
          obtain ⟨A', cap', hv, _, _, h4⟩ := HL.out
          injection hv with e1 e2 e3
          subst e1
          obtain ⟨b, o, hb, hc⟩ := h4 (by intro e; have := HN.out; subst e; simp at this; omega)
          obtain ⟨u, hu, hr⟩ := hc k (by have := HN.out; omega)
          exact ⟨_, u, b, o, HBD.out k, hb, hu, hr⟩
        subst hA
        obtain ⟨Au, cu, rfl, hleu, hmu, hz⟩ := id hrw
        clear hz
        have HRU := Lib.hid hrw
        have HCW := Lib.hid hcw
        clear hrw
        have hcu := HX.out.cell hcw
        clear hcw
        by_cases hs : alls.length + L.length ≤ 5000
        · have hsi : (alls.length : Int) + (L.length : Int) ≤ 5000 := by omega
          have hcu2 : (wr.alloc (.cells #[] 5)).cell? ⟨b, o + k, none⟩ = some (.slice Au L.length cu) := ((Ext.refl _).alloc _).cell hcu
          obtain ⟨F, hF⟩ : ∃ F, F = alls ++ L := ⟨_, rfl⟩
          have hFl : F.length = alls.length + L.length := by rw [hF, List.length_append]
          have HF := Lib.hid hF
          have HFL := Lib.hid hFl
          clear hF hFl
          go_wp2_with (first
            | ((with_reducible show wpList _ _ _ (⟨some 63, _, _, _, _, _⟩ :: _) _ _); refine wpl_clone bt (HRU.out.ext HX.out) rfl _ _ rfl rfl rfl (by omega) ?_; intro vo w2 OW2 hx2)
            | (go_at_call 23; refine (write_c _ g 2 _ _ _ _ (HB.out.ext hx2) (goodH_feed 2 alls (goodH_init 2)) (by decide) OW2.rd (fun _ e => by have h1 := (OW2.lt e).1; have h2 := HB.out.lt; omega) (by omega)).mono ?_; rintro e w3 ⟨rfl, O3, B3⟩)
            | fail)
          rw [← feedH_append, ← HF.out, ← HFL.out] at B3
          have hext3 : Ext w w3 := (HX.out.trans hx2).on O3 HGW.out
          have hva : ∀ g', wr.heap.size ≤ g' → (Value.slice Av alls.length cv).ownBlock ≠ some g' := fun g' h e => by have h1 := (HOW.out.lt e).2; omega
          have hOW3 : Own w3 w1.heap.size (.slice Av alls.length cv) alls := (HOW.out.ext hx2).keep O3 (fun e => by have h1 := (HOW.out.lt e).1; have h2 := HG1.out; omega)
          have hOv3 : Own w3 wr.heap.size vo L := OW2.keep O3 (fun e => by have h1 := (OW2.lt e).1; have h2 := HB.out.lt; omega)
          have hgr : g < wr.heap.size := HB.out.lt
          have hsz31 : w1.heap.size ≤ w3.heap.size := Nat.le_trans HSZ.out (Nat.le_trans (Ext.size hx2) O3.size)
          obtain ⟨Ao, co, hvo, hleo, hmo, hzo⟩ := hOv3.rd
          clear hzo
          subst hvo
          have hBo : L ≠ [] → ∃ go, Ao = some ⟨go, 0, none⟩ ∧ wr.heap.size ≤ go ∧ ∃ xs : List Int, xs.length = L.length ∧ BoxF w3 go (bi xs) := fun hL => by
            obtain ⟨go, co', hv, hgo, Bo⟩ := hOv3.boxF hL
            injection hv with e1 e2 e3
            obtain ⟨xs, h1, h2⟩ := bc_bi L
            exact ⟨go, e1, hgo, xs, h1, h2 ▸ Bo⟩
          have HVA := Lib.hid hva
          have HGR := Lib.hid hgr
          clear hcu2 OW2 hx2 O3 hOv3 hva hgr hcu
          have HO := Lib.hid hsi
          go_loopw [10] (fun i W => ∃ j : Nat, j ≤ L.length ∧ i = .int .i64 j ∧ Ext w W ∧ w1.heap.size ≤ W.heap.size ∧ BoxF W g (hashS 2 (feedH 2 (initH 2) F) (F.length : Int)) ∧ Own W w1.heap.size (.slice Av alls.length cv) alls ∧ (L ≠ [] → ∃ go, Ao = some ⟨go, 0, none⟩ ∧ wr.heap.size ≤ go ∧ ∃ xs : List Int, xs.length = L.length ∧ BoxF W go (bi xs))) (fun i _ => L.length - (intOf i).toNat)
          case atStart => exact ⟨0, Nat.zero_le _, rfl, hext3, hsz31, B3, hOW3, hBo⟩
          case round =>
            clear hext3 hsz31 B3 hOW3 hBo
            obtain ⟨j, hj, rfl, hx4, hw4s, B4, OW4, hBo⟩ := hrel
            have HW4S := Lib.hid hw4s
            clear hw4s
            have HX4 := Lib.hid hx4
            have HB4 := Lib.hid B4
            have HOW4 := Lib.hid OW4
            clear hx4 B4 OW4
            by_cases hjj : j < L.length ∧ j < 3
            · obtain ⟨hj1, hj2⟩ := hjj
              have hj1i : (j : Int) < (L.length : Int) := by omega
              have hj2i : (j : Int) < 3 := by omega
              obtain ⟨go, rfl, hgo, xs, hxl, Bo⟩ := hBo (by intro e; subst e; simp at hj1)
              have pj := Bo.at (bi_get xs j (by omega))
              have fj := Bo.free j (by rw [bi_length]; omega)
              generalize xs.getD j 0 = x at pj
              have HBO := Lib.hid Bo
              clear Bo
              go_wp2_with (first
                | ((with_reducible show wpList _ _ _ (⟨none, Op.store _ _ _, _, _, _, _⟩ :: _) _ _); refine wpl_store_cell rfl _ _ _ rfl go j (.int .u8 _) rfl rfl rfl rfl (by kernel_rfl) HBO.out (by rw [bi_length]; omega) ?_; intro w5 B5 O5; rw [bi_set] at B5)
                | fail)
              have hne : g ≠ go := by have := HGR.out; omega
              have hva := HVA.out go hgo
              have hgw2 : w.heap.size ≤ go := by have := HGW.out; have := HGR.out; omega
              go_roundw
              case rel => exact ⟨j + 1, by omega, by go_num, HX4.out.on O5 hgw2, Nat.le_trans HW4S.out O5.size, HB4.out.on O5 hne, HOW4.out.keep O5 hva, fun _ => ⟨go, rfl, hgo, _, by rw [List.length_set]; exact hxl, B5⟩⟩
              case measure => simp [intOf]; omega
            · have hcw4 := HX4.out.cell HCW.out
              clear hBo
              have hFi : (F.length : Int) = (alls.length : Int) + (L.length : Int) := by have := HFL.out; omega
              have HFI := Lib.hid hFi
              have hF5 : (F.length : Int) ≤ 5000 := by omega
              clear hFi
              have hjc : (L.length : Int) ≤ (j : Int) ∨ ((j : Int) < (L.length : Int) ∧ (3 : Int) ≤ (j : Int)) := by omega
              clear hjj
              rcases hjc with hj1i | ⟨hj1i, hj2i⟩
              · go_wp2_with (first
                  | ((with_reducible show wpList _ _ _ (⟨some 90, _, _, _, _, _⟩ :: _) _ _); refine wpl_append_rd bt HOW4.out (HRU.out.ext HX4.out) rfl _ _ rfl rfl rfl (by omega) HW4S.out ?_; intro v5 w5 OW5 hb5; rw [← HF.out] at OW5; have HR5 := Lib.hid OW5; obtain ⟨A5, c5, rfl, hle5, hm5, hz5⟩ := OW5.rd; clear hz5 OW5; have B5 := HB4.out.below hb5 HG1.out; have hx5 := HX4.out.below hb5 (by have := HGW.out; have := HG1.out; omega); have hs5 := Nat.le_trans HW4S.out (Below.size hb5))
                  | (go_at_call 16; refine (sum1_c _ _ F HR5.out.rd (by omega)).mono ?_; rintro e w6 ⟨v6, rfl, ho6, hx6⟩)
                  | (go_at_call 17; refine (sum256_c _ _ F (HR5.out.ext hx6).rd (by omega)).mono ?_; rintro e w7 ⟨v7, rfl, ho7, hx7⟩)
                  | (go_at_call 24; refine (len_c _ g 2 _ _ ((B5.ext hx6).ext hx7) (goodH_feed 2 F (goodH_init 2)) (by decide)).mono ?_; rintro e wx ⟨rfl, rfl⟩)
                  | (go_at_call 25; refine (sum_c _ g 2 _ F.length ((B5.ext hx6).ext hx7) (goodH_feed 2 F (goodH_init 2)) (by decide) (by omega)).mono ?_; rintro e w8 ⟨v8, rfl, ho8, hx8⟩)
                  | (go_at_call 19; refine (same_c _ _ _ (sumP 2 F) (sumP 2 F) ho8.rd (ho7.rd.ext hx8) true (by simp)).mono ?_; rintro e wx ⟨rfl, rfl⟩)
                  | fail)
                go_roundw
                case rel => exact ⟨k + 1, F, by go_num, by omega, by omega, (HR5.out.ext (hx6.trans hx7)).ext hx8, (B5.ext (hx6.trans hx7)).ext hx8, (hx5.trans (hx6.trans hx7)).trans hx8, Nat.le_trans hs5 (Ext.size ((hx6.trans hx7).trans hx8))⟩
                case measure => simp [intOf]; omega
              · go_wp2_with (first
                  | ((with_reducible show wpList _ _ _ (⟨some 90, _, _, _, _, _⟩ :: _) _ _); refine wpl_append_rd bt HOW4.out (HRU.out.ext HX4.out) rfl _ _ rfl rfl rfl (by omega) HW4S.out ?_; intro v5 w5 OW5 hb5; rw [← HF.out] at OW5; have HR5 := Lib.hid OW5; obtain ⟨A5, c5, rfl, hle5, hm5, hz5⟩ := OW5.rd; clear hz5 OW5; have B5 := HB4.out.below hb5 HG1.out; have hx5 := HX4.out.below hb5 (by have := HGW.out; have := HG1.out; omega); have hs5 := Nat.le_trans HW4S.out (Below.size hb5))
                  | (go_at_call 16; refine (sum1_c _ _ F HR5.out.rd (by omega)).mono ?_; rintro e w6 ⟨v6, rfl, ho6, hx6⟩)
                  | (go_at_call 17; refine (sum256_c _ _ F (HR5.out.ext hx6).rd (by omega)).mono ?_; rintro e w7 ⟨v7, rfl, ho7, hx7⟩)
                  | (go_at_call 24; refine (len_c _ g 2 _ _ ((B5.ext hx6).ext hx7) (goodH_feed 2 F (goodH_init 2)) (by decide)).mono ?_; rintro e wx ⟨rfl, rfl⟩)
                  | (go_at_call 25; refine (sum_c _ g 2 _ F.length ((B5.ext hx6).ext hx7) (goodH_feed 2 F (goodH_init 2)) (by decide) (by omega)).mono ?_; rintro e w8 ⟨v8, rfl, ho8, hx8⟩)
                  | (go_at_call 19; refine (same_c _ _ _ (sumP 2 F) (sumP 2 F) ho8.rd (ho7.rd.ext hx8) true (by simp)).mono ?_; rintro e wx ⟨rfl, rfl⟩)
                  | fail)
                go_roundw
                case rel => exact ⟨k + 1, F, by go_num, by omega, by omega, (HR5.out.ext (hx6.trans hx7)).ext hx8, (B5.ext (hx6.trans hx7)).ext hx8, (hx5.trans (hx6.trans hx7)).trans hx8, Nat.le_trans hs5 (Ext.size ((hx6.trans hx7).trans hx8))⟩
                case measure => simp [intOf]; omega
        · have hsi : 5000 < (alls.length : Int) + (L.length : Int) := by omega
          have hsi2 : (alls.length : Int) + (L.length : Int) ≤ 140737488356232 := by omega
          go_wp2_with fail
          go_ret
          exact ⟨rfl, HX.out⟩
      · have hki2 : (60 : Int) ≤ (k : Int) := by omega
        go_wp2_with fail
        go_ret
        exact ⟨rfl, HX.out⟩
    · have hki : (N : Int) ≤ (k : Int) := by omega
      go_wp2_with fail
      go_ret
      exact ⟨rfl, HX.out⟩

set_option maxRecDepth 100000 in
set_option maxHeartbeats 1000000 in
theorem pieces_bad (w : World) (kind : Int) (v : Value) (h1 : kind ≠ 1) (h2 : kind ≠ 2) : Calls Try.prog 5 #[.int .i64 kind, v] w fun e w' => e = .returned (.bool true) ∧ Ext w w' := by
  have e1 : (kind != 1) = true := by simpa using h1
  have e2 : (kind != 2) = true := by simpa using h2
  have H1 := Lib.hid h1
  have H2 := Lib.hid h2
  clear h1 h2
  go_enter Try.func5, Try.ntmps5
  go_wp2_with (first
    | (go_at_call 14; refine (lives07_c _).mono ?_; rintro e w0 ⟨rfl, hx0⟩)
    | (go_at_call 13; refine (new_bad _ kind H1.out H2.out).mono ?_; rintro e w1 ⟨rfl, rfl⟩)
    | fail)
  go_ret
  exact ⟨rfl, hx0⟩
theorem shaPieces_c (w : World) (kind : Int) (v : Value) (ls : List (List UInt8)) (hls : Lists w v ls) (hbd : ∀ j, (ls.getD j []).length ≤ 140737488351232) : Calls Try.prog 5 #[.int .i64 kind, v] w fun e w' => e = .returned (.bool true) ∧ Ext w w' := by
  by_cases h1 : kind = 1
  · subst h1
    exact pieces_1 w v ls hls hbd
  · by_cases h2 : kind = 2
    · subst h2
      exact pieces_2 w v ls hls hbd
    · exact pieces_bad w kind v h1 h2
end Go.Proofs.Ytimelnihiocngaa
