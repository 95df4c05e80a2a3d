/- The reference's hashes: lists of words in memory, the round's function, words as bytes, what bytes are filled up to. -/
import Derived.Test.YtimelnihiocngaaShaL
namespace Go.Proofs.Ytimelnihiocngaa
open Go.RowKit

theorem info_u32 : (Try.prog.info? 37).map (fun i => (i.zero, i.size, i.bytes)) = some (some (.int .u32 0), 1, 4) := by kernel_rfl
theorem wc_one' (l : List Int) : ∀ u ∈ wc l, u.oneCell' = true := by
  intro u hu
  simp only [wc, List.mem_map] at hu
  obtain ⟨b, _, rfl⟩ := hu
  rfl

section
variable {ops : Array Oper} {rest : List Oper} {o : Oper} {a : Act} {w : World} {Q : Exit → Act → World → Prop}
/-- 'append([]uint32{}, xs...)'. -/
theorem wpl_clone_w {g n cap : Nat} {ws : List Int} (B : Box w g (wc ws)) (hn : n = ws.length) (h0 : 0 < n) (hsm : n ≤ 1000)
    (hgd : o.guard = none) (s x : Operand) (ho : o.op = .call { callee := .builtin .append, args := #[s, x], argTypes := #[87, 87] })
    (hs : a.eval s = .slice (some ⟨w.heap.size, 0, none⟩) 0 0) (hx : a.eval x = .slice (some ⟨g, 0, none⟩) n cap)
    (h : ∀ g' cap' w', BoxF w' g' (wc ws) → Ext w w' → w.heap.size ≤ g' → wpList Try.prog ops Q rest (a.put o.dst (.slice (some ⟨g', 0, none⟩) n cap')) w') : wpList Try.prog ops Q (o :: rest) a (w.alloc (.cells #[] 37)) := by
  obtain ⟨i, hi, hz, hs1, hb1⟩ := info_parts info_u32
  have hown : (w.alloc (.cells #[] 37)).ownsRow w.heap.size 37 1 (.slice (some ⟨w.heap.size, 0, none⟩) 0 0) 0 [] :=
    ⟨by simp, .inr ⟨w.heap.size, 0, #[], rfl, Nat.le_refl _, heap_alloc_new w _, Nat.le_refl _, by unfold maxLen; omega, rfl, rfl⟩⟩
  have BE := B.ext ((Ext.refl w).alloc (.cells #[] 37))
  obtain ⟨v', w', hrun, h2, h3, _⟩ := run_append_own (P := Try.prog) (w.alloc (.cells #[] 37)) w.heap.size 87 o.type 37 i (.int .u32 0) 1 4 Try.underlying87 hi hz hs1 hb1 rfl (by decide) _ 0 [] hown ⟨g, 0, none⟩ n cap (wc ws)
    (by rw [wc_length, hn, Nat.mul_one]) (fun j u hj => by
      have hjl : j < ws.length := by
        rcases Nat.lt_or_ge j ws.length with h | h
        · exact h
        · rw [List.getElem?_eq_none (by rw [wc_length]; exact h)] at hj; cases hj
      rw [addr0, BE j (by rw [wc_length]; exact hjl), List.getD_eq_getElem?_getD, hj]
      rfl) (wc_one' ws) (by unfold maxLen; omega) (by omega) (by simp)
  have hb := (Below.refl w.heap.size (w.alloc (.cells #[] 37))).grown h3 (by simp) (fun g hg => (World.ownsRow.lt hown g hg).1)
  have hx' : Ext w w' := ((Ext.refl w).alloc _).below hb (Nat.le_refl _)
  have hcells := fun g hg => h2.cells (g := g) hg
  rcases h2.2 with ⟨_, h9⟩ | ⟨g', cap', cur, rfl, hb', hg', hn', hm', hs', ht'⟩
  · omega
  · refine wpl_val hgd (v := .slice (some ⟨g', 0, none⟩) (0 + n) cap') (w' := w') ?_ ?_
    · unfold execOp
      simp only [ho, resolve, invoke, builtin, Sem.run_bind, Sem.run_pure, Result.andThen_ok, List.map_toArray, List.map_cons, List.map_nil, hs, hx, hrun]
    · rw [Nat.zero_add]
      refine h g' cap' w' ⟨fun j hj => ?_, fun j _ => ?_, ?_⟩ hx' hb'
      · have := hcells g' rfl j ((wc ws).getD j undef) (by rw [List.nil_append, List.getD_eq_getElem?_getD, List.getElem?_eq_getElem hj]; rfl)
        rw [addr0] at this
        exact this
      · simp [World.frozen?, hg']
      · rcases Nat.lt_or_ge g' w'.heap.size with h | h
        · exact h
        · rw [Array.getElem?_eq_none h] at hg'; cases hg'
end

set_option maxRecDepth 100000 in
theorem round_r (w : World) (t : Nat) (b c d : Int) (ht : t < 80) :
    Calls Try.prog 63 #[.int .i64 (t : Int), .int .u32 b, .int .u32 c, .int .u32 d] w fun e w' => e = .returned (.tuple #[.int .u32 (f1 t b c d), .int .u32 (k1 t)]) ∧ w = w' := by
  by_cases h20 : t < 20
  · have hi : (t : Int) < 20 := by omega
    have hf := f1_a t b c d h20
    rw [hf.1, hf.2]
    clear hf
    go_enter Try.func63, Try.ntmps63
    go_wp2_with fail
    go_ret2
    exact ⟨rfl, rfl⟩
  by_cases h40 : t < 40
  · have hi : (t : Int) < 40 := by omega
    have hj : 20 ≤ (t : Int) := by omega
    have hf := f1_b t b c d h20 h40
    rw [hf.1, hf.2]
    clear hf
    go_enter Try.func63, Try.ntmps63
    go_wp2_with fail
    go_ret2
    exact ⟨rfl, rfl⟩
  by_cases h60 : t < 60
  · have hi : (t : Int) < 60 := by omega
    have hj : 40 ≤ (t : Int) := by omega
    have hf := f1_c t b c d h20 h40 h60
    rw [hf.1, hf.2]
    clear hf
    go_enter Try.func63, Try.ntmps63
    go_wp2_with fail
    go_ret2
    exact ⟨rfl, rfl⟩
  · have hj : 60 ≤ (t : Int) := by omega
    have hf := f1_d t b c d h20 h40 h60
    rw [hf.1, hf.2]
    clear hf
    go_enter Try.func63, Try.ntmps63
    go_wp2_with fail
    go_ret2
    exact ⟨rfl, rfl⟩

set_option maxRecDepth 100000 in
set_option maxHeartbeats 1000000 in
theorem bytes_r (w : World) (g n cap : Nat) (ws : List Int) (hn : n = ws.length) (hsm : n ≤ 1000) (B : Box w g (wc ws)) :
    Calls Try.prog 64 #[.slice (some ⟨g, 0, none⟩) n cap] w fun e w' => ∃ v, e = .returned v ∧ Own w' w.heap.size v (outH ws) ∧ Ext w w' := by
  have HB := Lib.hid B
  have HN := Lib.hid hn
  clear B hn
  go_enter Try.func64, Try.ntmps64
  go_wp2_with fail
  have OW0 : Own w w.heap.size (.slice none 0 0) (outH (ws.take 0)) := Own.nil w _
  go_loopw [3, 4] (fun v i W => ∃ k : Nat, k ≤ n ∧ i = .int .i64 k ∧ Own W w.heap.size v (outH (ws.take k)) ∧ Ext w W) (fun _ i _ => n - (intOf i).toNat)
  case atStart => exact ⟨0, Nat.zero_le _, rfl, OW0, Ext.refl _⟩
  case round =>
    clear OW0
    obtain ⟨k, hk, rfl, OW, hx⟩ := hrel
    by_cases hkN : k < n
    · have hb : (k : Int) < (n : Int) := by omega
      have hkw : k < ws.length := by rw [← HN.out]; exact hkN
      have hc0 : w.cell? ⟨g, k, none⟩ = some (.int .u32 (ws.getD k 0)) := by
        have := HB.out k (by rw [wc_length]; exact hkw)
        rw [this, List.getD_eq_getElem?_getD, wc_get ws k hkw]
        rfl
      have ht := outH_take ws k hkw
      have hlen : (outH (ws.take k)).length = 4 * k := by rw [outH_length, List.length_take, Nat.min_eq_left (by omega)]
      generalize ws.getD k 0 = x at hc0 ht
      have hck := hx.cell hc0
      have HT := Lib.hid ht
      clear ht
      go_wp2_with fail
      go_region_held3 (fun W' => W'.cell? ⟨g, k, none⟩ = some (.int .u32 x) ∧ Ext w W')
        ((refine (fun h => ⟨Ext.cell h hc0, h⟩) ?_; first | exact hx.drew | exact (hx.alloc _).drew | exact hx4 | fail))
        (first
          | ((with_reducible show (if Region.wanted (⟨some 36, _, _, _, _, _⟩ : Oper) _ = true then _ else _)); go_must (go_split_ands; refine step_append_rd bt (OW.ext (((Ext.refl _).alloc _).drew)) ((rd_lit wr _ (u4 x) (u4_cells x) (by simp [u4]) 4 _ (by rfl) (by rfl)).ext (Ext.refl _).drew) (by rfl) _ _ (by rfl) (by rfl) (by rfl) ?_ ?_ ?_; (simp [hlen, u4]; omega); (exact Ext.size (by assumption)); intro v4 w4 ho4 hb4; have hx4 : Ext w w4 := Ext.below (by assumption) hb4 (Nat.le_refl _)))
          | fail)
      all_goals
        go_split_ands
        go_wp2_with fail
        go_roundw
        case rel => exact ⟨k + 1, by omega, by go_num, by rw [HT.out]; exact ho4, by assumption⟩
        case measure => simp [intOf]; omega
    · obtain rfl : k = n := by omega
      rw [HN.out, List.take_length] at OW
      go_wp2_with fail
      go_ret
      exact ⟨_, rfl, OW, hx⟩

theorem rd_byte (w : World) (x : Int) (c : UInt8) (g : Nat) (hg : g = w.heap.size) (hx : x = (c.toNat : Int)) : Rd (w.alloc (.cells #[.int .u8 x] 5)) (.slice (some ⟨g, 0, none⟩) 1 1) [c] := by
  subst hg hx
  exact rd_new w _ [c] rfl 1 rfl (by unfold maxLen; simp)
theorem tail_take (F : List UInt8) (all k : Nat) (c : UInt8) (hk : (tailH all)[k]? = some c) : (F ++ (tailH all).take k) ++ [c] = F ++ (tailH all).take (k + 1) := by
  rw [List.take_add_one, hk, List.append_assoc]
  rfl
def leftV (v : Value) : Nat := match v with | .slice _ n _ => leftN (n % 64) | _ => 0
/-- Bytes, filled up to whole blocks. -/
def padL (b : List UInt8) : List UInt8 := ((b ++ [128]) ++ List.replicate (leftN ((b.length + 1) % 64)) 0) ++ tailH b.length

set_option maxRecDepth 100000 in
set_option maxHeartbeats 1000000 in
theorem padded_r (w : World) (v : Value) (l : List UInt8) (hr : Rd w v l) (hl : l.length ≤ 1000000) :
    Calls Try.prog 60 #[v] w fun e w' => ∃ v', e = .returned v' ∧ Own w' w.heap.size v' (padL l) ∧ Ext w w' := by
  have HR := Lib.hid hr
  obtain ⟨A, cap, rfl, hle, hm, hz⟩ := id hr
  clear hr hz
  go_enter Try.func60, Try.ntmps60
  go_wp2_with (first
    | ((with_reducible show wpList _ _ _ (⟨some 8, _, _, _, _, _⟩ :: _) _ _); refine wpl_clone bt HR.out rfl _ _ rfl rfl rfl (by omega) ?_; intro v1 w1 ho1 hx1)
    | ((with_reducible show wpList _ _ _ (⟨some 10, _, _, _, _, _⟩ :: _) _ _); refine wpl_append_rd bt (ho1.ext ((Ext.refl _).alloc _)) (rd_lit w1 _ [128] rfl (by simp) 1 _ rfl rfl) rfl _ _ rfl rfl rfl (by simp; omega) (Nat.le_trans (Ext.size hx1) (by simp)) ?_; intro v2 w2 ho2 hb2; have hx2 := (hx1.alloc _).below hb2 (Nat.le_refl _))
    | fail)
  obtain ⟨m, hm0⟩ : ∃ m, m = l ++ [128] := ⟨_, rfl⟩
  have hml : m.length = l.length + 1 := by rw [hm0, List.length_append]; rfl
  rw [← hm0] at ho2
  have hpad : padL l = (m ++ List.replicate (leftN (m.length % 64)) 0) ++ tailH l.length := by rw [padL, hm0, List.length_append]; rfl
  have HPAD := Lib.hid hpad
  have HML := Lib.hid hml
  clear hm0 hml hpad ho1 hb2 hx1
  go_loopw [3] (fun v W => ∃ k : Nat, k + leftN ((m.length + k) % 64) = leftN (m.length % 64) ∧ Own W w.heap.size v (m ++ List.replicate k 0) ∧ Ext w W) (fun v _ => leftV v)
  case atStart => exact ⟨0, by simp, by simpa using ho2, hx2⟩
  case round =>
    clear ho2 hx2
    obtain ⟨k, hk, OW, hx⟩ := hrel
    obtain ⟨F, hF⟩ : ∃ F, F = m ++ List.replicate k 0 := ⟨_, rfl⟩
    rw [← hF] at OW
    have hFl : F.length = m.length + k := by rw [hF, List.length_append, List.length_replicate]
    rw [← hFl] at hk
    obtain ⟨A1, c1, rfl, hle1, hm1, hz⟩ := OW.rd
    clear hz
    have HOW := Lib.hid OW
    have HF := Lib.hid hF
    have HFL := Lib.hid hFl
    clear OW hF hFl
    have hk64 : leftN (m.length % 64) < 64 := by unfold leftN; omega
    by_cases h56 : F.length % 64 = 56
    · have hq : (((F.length : Int) % 64) != 56) = false := by simp; omega
      have hk0 : k = leftN (m.length % 64) := by rw [h56] at hk; unfold leftN at hk ⊢; omega
      have HK0 := Lib.hid hk0
      have HH := Lib.hid hk
      have hl0 : (l.length : Int) ≤ 1000000 := by omega
      clear hk hk0 hk64
      go_wp2_with fail
      have HX := Lib.hid hx
      have OW0 : Own wr w.heap.size (.slice A1 F.length c1) (F ++ (tailH l.length).take 0) := by simpa using HOW.out
      clear hx hq
      go_loopw [3, 5] (fun v i W => ∃ k : Nat, k ≤ 8 ∧ i = .int .i64 (7 - (k : Int)) ∧ Own W w.heap.size v (F ++ (tailH l.length).take k) ∧ Ext w W) (fun _ i _ => (intOf i + 1).toNat)
      case atStart => exact ⟨0, Nat.zero_le _, rfl, OW0, HX.out⟩
      case round =>
        clear OW0
        obtain ⟨k2, hk8, rfl, OW, hx⟩ := hrel
        have hFle : F.length ≤ 1000070 := by have := HFL.out; have := HML.out; have := HK0.out; have : leftN (m.length % 64) < 64 := by unfold leftN; omega
                                             omega
        have h8 : k2 = 0 ∨ k2 = 1 ∨ k2 = 2 ∨ k2 = 3 ∨ k2 = 4 ∨ k2 = 5 ∨ k2 = 6 ∨ k2 = 7 ∨ k2 = 8 := by omega
        rcases h8 with rfl | rfl | rfl | rfl | rfl | rfl | rfl | rfl | rfl
        · go_wp2_with (first
            | ((with_reducible show wpList _ _ _ (⟨some 34, _, _, _, _, _⟩ :: _) _ _); refine wpl_append_rd bt (OW.ext ((Ext.refl _).alloc _)) (rd_byte _ _ (lenC l.length 7) _ rfl ?hx) rfl _ _ rfl rfl rfl (by simp [tailH]; omega) (Nat.le_trans (Ext.size hx) (by simp)) ?_; (case hx => (have e := lenC_int l.length 7; rw [show ((2 ^ (8 * 7) : Nat) : Int) = 72057594037927936 from rfl] at e; omega)); intro v2 w2 ho2 hb2; have hx2 := (hx.alloc _).below hb2 (Nat.le_refl _); rw [tail_take F l.length 0 _ rfl] at ho2)
            | fail)
          go_roundw
          case rel => exact ⟨1, by omega, rfl, ho2, hx2⟩
          case measure => simp [intOf]
        · go_wp2_with (first
            | ((with_reducible show wpList _ _ _ (⟨some 34, _, _, _, _, _⟩ :: _) _ _); refine wpl_append_rd bt (OW.ext ((Ext.refl _).alloc _)) (rd_byte _ _ (lenC l.length 6) _ rfl ?hx) rfl _ _ rfl rfl rfl (by simp [tailH]; omega) (Nat.le_trans (Ext.size hx) (by simp)) ?_; (case hx => (have e := lenC_int l.length 6; rw [show ((2 ^ (8 * 6) : Nat) : Int) = 281474976710656 from rfl] at e; omega)); intro v2 w2 ho2 hb2; have hx2 := (hx.alloc _).below hb2 (Nat.le_refl _); rw [tail_take F l.length 1 _ rfl] at ho2)
            | fail)
          go_roundw
          case rel => exact ⟨2, by omega, rfl, ho2, hx2⟩
          case measure => simp [intOf]
        · go_wp2_with (first
            | ((with_reducible show wpList _ _ _ (⟨some 34, _, _, _, _, _⟩ :: _) _ _); refine wpl_append_rd bt (OW.ext ((Ext.refl _).alloc _)) (rd_byte _ _ (lenC l.length 5) _ rfl ?hx) rfl _ _ rfl rfl rfl (by simp [tailH]; omega) (Nat.le_trans (Ext.size hx) (by simp)) ?_; (case hx => (have e := lenC_int l.length 5; rw [show ((2 ^ (8 * 5) : Nat) : Int) = 1099511627776 from rfl] at e; omega)); intro v2 w2 ho2 hb2; have hx2 := (hx.alloc _).below hb2 (Nat.le_refl _); rw [tail_take F l.length 2 _ rfl] at ho2)
            | fail)
          go_roundw
          case rel => exact ⟨3, by omega, rfl, ho2, hx2⟩
          case measure => simp [intOf]
        · go_wp2_with (first
            | ((with_reducible show wpList _ _ _ (⟨some 34, _, _, _, _, _⟩ :: _) _ _); refine wpl_append_rd bt (OW.ext ((Ext.refl _).alloc _)) (rd_byte _ _ (lenC l.length 4) _ rfl ?hx) rfl _ _ rfl rfl rfl (by simp [tailH]; omega) (Nat.le_trans (Ext.size hx) (by simp)) ?_; (case hx => (have e := lenC_int l.length 4; rw [show ((2 ^ (8 * 4) : Nat) : Int) = 4294967296 from rfl] at e; omega)); intro v2 w2 ho2 hb2; have hx2 := (hx.alloc _).below hb2 (Nat.le_refl _); rw [tail_take F l.length 3 _ rfl] at ho2)
            | fail)
          go_roundw
          case rel => exact ⟨4, by omega, rfl, ho2, hx2⟩
          case measure => simp [intOf]
        · go_wp2_with (first
            | ((with_reducible show wpList _ _ _ (⟨some 34, _, _, _, _, _⟩ :: _) _ _); refine wpl_append_rd bt (OW.ext ((Ext.refl _).alloc _)) (rd_byte _ _ (lenC l.length 3) _ rfl ?hx) rfl _ _ rfl rfl rfl (by simp [tailH]; omega) (Nat.le_trans (Ext.size hx) (by simp)) ?_; (case hx => (have e := lenC_int l.length 3; rw [show ((2 ^ (8 * 3) : Nat) : Int) = 16777216 from rfl] at e; omega)); intro v2 w2 ho2 hb2; have hx2 := (hx.alloc _).below hb2 (Nat.le_refl _); rw [tail_take F l.length 4 _ rfl] at ho2)
            | fail)
          go_roundw
          case rel => exact ⟨5, by omega, rfl, ho2, hx2⟩
          case measure => simp [intOf]
        · go_wp2_with (first
            | ((with_reducible show wpList _ _ _ (⟨some 34, _, _, _, _, _⟩ :: _) _ _); refine wpl_append_rd bt (OW.ext ((Ext.refl _).alloc _)) (rd_byte _ _ (lenC l.length 2) _ rfl ?hx) rfl _ _ rfl rfl rfl (by simp [tailH]; omega) (Nat.le_trans (Ext.size hx) (by simp)) ?_; (case hx => (have e := lenC_int l.length 2; rw [show ((2 ^ (8 * 2) : Nat) : Int) = 65536 from rfl] at e; omega)); intro v2 w2 ho2 hb2; have hx2 := (hx.alloc _).below hb2 (Nat.le_refl _); rw [tail_take F l.length 5 _ rfl] at ho2)
            | fail)
          go_roundw
          case rel => exact ⟨6, by omega, rfl, ho2, hx2⟩
          case measure => simp [intOf]
        · go_wp2_with (first
            | ((with_reducible show wpList _ _ _ (⟨some 34, _, _, _, _, _⟩ :: _) _ _); refine wpl_append_rd bt (OW.ext ((Ext.refl _).alloc _)) (rd_byte _ _ (lenC l.length 1) _ rfl ?hx) rfl _ _ rfl rfl rfl (by simp [tailH]; omega) (Nat.le_trans (Ext.size hx) (by simp)) ?_; (case hx => (have e := lenC_int l.length 1; rw [show ((2 ^ (8 * 1) : Nat) : Int) = 256 from rfl] at e; omega)); intro v2 w2 ho2 hb2; have hx2 := (hx.alloc _).below hb2 (Nat.le_refl _); rw [tail_take F l.length 6 _ rfl] at ho2)
            | fail)
          go_roundw
          case rel => exact ⟨7, by omega, rfl, ho2, hx2⟩
          case measure => simp [intOf]
        · go_wp2_with (first
            | ((with_reducible show wpList _ _ _ (⟨some 34, _, _, _, _, _⟩ :: _) _ _); refine wpl_append_rd bt (OW.ext ((Ext.refl _).alloc _)) (rd_byte _ _ (lenC l.length 0) _ rfl ?hx) rfl _ _ rfl rfl rfl (by simp [tailH]; omega) (Nat.le_trans (Ext.size hx) (by simp)) ?_; (case hx => (have e := lenC_int l.length 0; rw [show ((2 ^ (8 * 0) : Nat) : Int) = 1 from rfl] at e; omega)); intro v2 w2 ho2 hb2; have hx2 := (hx.alloc _).below hb2 (Nat.le_refl _); rw [tail_take F l.length 7 _ rfl] at ho2)
            | fail)
          go_roundw
          case rel => exact ⟨8, by omega, rfl, ho2, hx2⟩
          case measure => simp [intOf]
        · rw [show ((7 : Int) - ((8 : Nat) : Int)) = -1 from rfl]
          go_wp2_with fail
          go_ret
          refine ⟨_, rfl, ?_, hx⟩
          rw [HPAD.out, ← HK0.out, ← HF.out]
          exact OW
    · have hq : (((F.length : Int) % 64) != 56) = true := by simp; omega
      have HH := Lib.hid hk
      clear hk
      go_wp2_with (first
        | ((with_reducible show wpList _ _ _ (⟨some 17, _, _, _, _, _⟩ :: _) _ _); refine wpl_append_rd bt (HOW.out.ext ((Ext.refl _).alloc _)) (rd_lit _ _ [0] rfl (by simp) 1 _ rfl rfl) rfl _ _ rfl rfl rfl (by simp; have := HFL.out; have := HML.out; have := HH.out; omega) (Nat.le_trans (Ext.size hx) (by simp)) ?_; intro v2 w2 ho2 hb2; have hx2 := (hx.alloc _).below hb2 (Nat.le_refl _))
        | fail)
      have hFk : F ++ [0] = m ++ List.replicate (k + 1) 0 := by rw [HF.out, List.append_assoc, List.replicate_succ']
      have hstep : leftN ((m.length + (k + 1)) % 64) + 1 = leftN (F.length % 64) := by have := HFL.out; unfold leftN; omega
      rw [hFk] at ho2
      obtain ⟨A2, c2, hv2, hz⟩ := ho2.rd
      clear hz
      have hl2 : (m ++ List.replicate (k + 1) 0).length = m.length + (k + 1) := by rw [List.length_append, List.length_replicate]
      go_roundw
      case rel => exact ⟨k + 1, by have := HH.out; omega, ho2, hx2⟩
      case measure =>
        rw [hv2]
        show leftN ((m ++ List.replicate (k + 1) 0).length % 64) < leftN (F.length % 64)
        rw [hl2]
        omega
end Go.Proofs.Ytimelnihiocngaa
