import Derived.Test.YtbodppfpmpmadaaGreatGrIC
import Derived.Laws.BitsAllLaws
import Derived.Test.YtbodppfpmpmadaaGreatL11C
import Derived.Test.YtbodppfpmpmadaaGreatL4C
import Derived.Outline
import Derived.Lib.SlBytesConst
namespace Go.Proofs.YtbodppfpmpmadaaGreat
open Go.RowKit

structure GreV where
  ver : List UInt8
  thr : Int
  nonce : List UInt8
  caps : Int
  ch : Int
  st : Int
  pl : List UInt8
def gre0 : GreV := ⟨[], 0, [], 0, 0, 0, []⟩
def capsOr (lo hi : Int) : Int := bits .or .u32 (lo % 4294967296) (IntKind.u32.wrap (hi % 4294967296 * 65536))
def plugN (c : Int) : Int := if hasC c 524288 then 21 else 0
def greetH : Rdp (List UInt8 × Int × List UInt8) :=
  bindR (rB 1) fun v => bindR (chkR (rW (byteI v != 10))) fun _ => bindR rZ fun ver => bindR (rX 4) fun thr => bindR (rB 8) fun n1 => bindR (chkR (rW (!nonceOk n1))) fun _ => bindR (chkR (r0 1)) fun _ => pureR (ver, thr % 4294967296, n1)
def greetC : Rdp (Int × Int × Int) :=
  bindR (rX 2) fun lo => bindR (chkR (rW (!hasC (lo % 4294967296) 33280))) fun _ => bindR (rB 1) fun ch => bindR (rX 2) fun st => bindR (rX 2) fun hi => pureR (capsOr lo hi, byteI ch, st % 65536)
def greetT (c : Int) : Rdp (List UInt8 × List UInt8) :=
  bindR (rB 1) fun m => bindR (chkR (rW (byteI m != plugN c))) fun _ => bindR (chkR (r0 10)) fun _ => bindR (rB 12) fun n2 => bindR (chkR (rW (!nonceOk n2))) fun _ => bindR (chkR (r0 1)) fun _ => bindR (optZ (hasC c 524288)) fun pl => pureR (n2, pl)
def greetM : Rdp GreV :=
  bindR greetH fun h => bindR greetC fun c => bindR (greetT c.1) fun t => pureR ⟨h.1, h.2.1, h.2.2 ++ t.1, c.1, c.2.1, c.2.2, t.2⟩
def greetB (g : GreV) : List UInt8 := greetBs g.ver g.thr g.nonce g.caps g.ch g.st g.pl
structure GreOk (g : GreV) : Prop where
  ver : g.ver.contains 0 = false
  pl : g.pl.contains 0 = false
  n20 : g.nonce.length = 20
  nonce : nonceOk g.nonce = true
  core : hasC g.caps 33280 = true
  plF : g.pl = [] ∨ hasC g.caps 524288 = true
  thr : 0 ≤ g.thr ∧ g.thr < 4294967296
  caps : 0 ≤ g.caps ∧ g.caps < 4294967296
  ch : 0 ≤ g.ch ∧ g.ch < 256
  st : 0 ≤ g.st ∧ g.st < 65536
end Go.Proofs.YtbodppfpmpmadaaGreat

namespace Go.Proofs.YtbodppfpmpmadaaGreat
open Go.RowKit

theorem boxF_below {W W' : World} {g B : Nat} {cs : List Value} (h : BoxF W g cs) (k : Below B W W') (hg : g < B) : BoxF W' g cs :=
  ⟨h.box.below k hg, fun j hj => (k.frozen hg).trans (h.free j hj), Nat.lt_of_lt_of_le h.lt (Below.size k)⟩
theorem Rdr.below {a w w' : World} {g B : Nat} {s : List UInt8 × Int} (h : Rdr a w g s) (k : Below B w w') (hg : g < B) : Rdr a w' g s :=
  ⟨h.lo, h.ext.below k (Nat.le_trans h.lo (Nat.le_of_lt hg)), (k.frozen hg).trans h.f0, (k.frozen hg).trans h.f1, (k.cell hg).trans h.c1, by obtain ⟨v, h0, hr⟩ := h.c0; exact ⟨v, (k.cell hg).trans h0, hr⟩⟩
theorem St.below {a w w' : World} {gv B : Nat} {s : List UInt8 × Int} {Z cs : List Value} (h : St a w gv s Z cs) (k : Below B w w') (hg : gv < B) : St a w' gv s Z cs :=
  ⟨boxF_below h.b0 k (by have := h.lo; omega), h.r.below k (by have := h.lo; omega), boxF_below h.b k hg, h.lo⟩
def greC (g : GreV) (vn : Value) : List Value := [.string (strL g.ver), .int .u32 g.thr, vn, .int .u32 g.caps, .int .u8 g.ch, .int .u16 g.st, .string (strL g.pl)]
def RetGre (w : World) (r : GreV × Int) (e : Ending) (w' : World) : Prop :=
  ∃ vn, e = .returned (.tuple #[.agg (greC r.1 vn).toArray, .int .i64 r.2]) ∧ Rd w' vn r.1.nonce ∧ Ext w w'
end Go.Proofs.YtbodppfpmpmadaaGreat

namespace Go.Proofs.YtbodppfpmpmadaaGreat
open Go.RowKit

def OwnQ (w : World) (base : Nat) (v : Value) (l : List UInt8) : Prop := Rd w v l ∧ v.ownBlock = some base
theorem OwnQ.of {w : World} {base : Nat} {v : Value} {l : List UInt8} (h : Rd w v l) (k : v.ownBlock = some base) : OwnQ w base v l := ⟨h, k⟩
theorem OwnQ.rd {w : World} {base : Nat} {v : Value} {l : List UInt8} (h : OwnQ w base v l) : Rd w v l := h.1
theorem OwnQ.ltB {w : World} {base g : Nat} {v : Value} {l : List UInt8} (h : OwnQ w base v l) (hg : v.ownBlock = some g) : base ≤ g ∧ True := ⟨by have := h.2.symm.trans hg; injection this with e; omega, trivial⟩
theorem OwnQ.ext {w w' : World} {base : Nat} {v : Value} {l : List UInt8} (h : OwnQ w base v l) (k : Ext w w') : OwnQ w' base v l := ⟨h.1.ext k, h.2⟩
theorem OwnQ.keepB {w w' : World} {g base : Nat} {v : Value} {l : List UInt8} (h : OwnQ w base v l) (k : On g w w') (hne : v.ownBlock ≠ some g) : OwnQ w' base v l := by
  obtain ⟨⟨A, cap, hv, h1, h2, h3, h4⟩, hb⟩ := h
  refine ⟨⟨A, cap, hv, h1, h2, h3, fun hl => ?_⟩, hb⟩
  obtain ⟨b, o, hA, hc⟩ := h4 hl
  refine ⟨b, o, hA, fun j hj => k.cell (hc j hj) ?_⟩
  subst hv hA
  intro e
  dsimp only at e
  subst e
  exact hne rfl
theorem rB_len (n : Nat) (s : List UInt8 × Int) : (rB n s).2.1.length ≤ s.1.length := by
  unfold rB
  split
  · split
    · exact Nat.le_refl _
    · simp only [List.length_drop]; omega
  · exact Nat.le_refl _
theorem rW_len (b : Bool) (s : List UInt8 × Int) : (rW b s).1.length ≤ s.1.length := by
  unfold rW
  split <;> exact Nat.le_refl _
theorem rX_len (n : Nat) (s : List UInt8 × Int) : (rX n s).2.1.length ≤ s.1.length := rB_len n s
theorem r0_len (n : Nat) (s : List UInt8 × Int) : (r0 n s).1.length ≤ s.1.length := Nat.le_trans (rW_len _ _) (rB_len n s)
theorem rZ_len (s : List UInt8 × Int) : (rZ s).2.1.length ≤ s.1.length := by
  unfold rZ
  split
  · split
    · simp only [List.length_drop]; omega
    · exact Nat.le_refl _
  · exact Nat.le_refl _

def ansC (a : AnsV) (vr va : Value) : List Value := [.int .u32 a.caps, .int .u32 a.most, .int .u8 a.ch, .string (strL a.user), vr, .string (strL a.db), .string (strL a.pl), va]
structure RetAnsF (w : World) (r : AnsV × Int) (e : Ending) (w' : World) : Prop where
  all : ∃ vr va, e = .returned (.tuple #[.agg (ansC r.1 vr va).toArray, .int .i64 r.2]) ∧ Rd w' vr r.1.resp ∧ Attrs w' va r.1.at_ ∧ Ext w w' ∧ ∀ h, vr.ownBlock = some h → w.heap.size ≤ h
end Go.Proofs.YtbodppfpmpmadaaGreat

namespace Go.Proofs.YtbodppfpmpmadaaGreat
open Go.RowKit

theorem info_u32 : (Tryz.prog.info? 25).map (fun i => (i.zero, i.size, i.bytes)) = some (some (.int .u32 0), 1, 4) := by kernel_rfl
theorem wc_one' (l : List Int) : ∀ u ∈ wc l, u.oneCell' = true := by
  intro u hu
  simp only [wc, List.mem_map] at hu
  obtain ⟨b, _, rfl⟩ := hu
  rfl

section
variable {ops : Array Oper} {rest : List Oper} {o : Oper} {a : Act} {w : World} {Q : Exit → Act → World → Prop}
theorem wpl_clone_w {g n cap : Nat} {ws : List Int} (B : Box w g (wc ws)) (hn : n = ws.length) (h0 : 0 < n) (hsm : n ≤ 1000)
    (hgd : o.guard = none) (s x : Operand) (ho : o.op = .call { callee := .builtin .append, args := #[s, x], argTypes := #[189, 189] })
    (hs : a.eval s = .slice (some ⟨w.heap.size, 0, none⟩) 0 0) (hx : a.eval x = .slice (some ⟨g, 0, none⟩) n cap)
    (h : ∀ g' cap' w', BoxF w' g' (wc ws) → Ext w w' → w.heap.size ≤ g' → wpList Tryz.prog ops Q rest (a.put o.dst (.slice (some ⟨g', 0, none⟩) n cap')) w') : wpList Tryz.prog ops Q (o :: rest) a (w.alloc (.cells #[] 25)) := by
  obtain ⟨i, hi, hz, hs1, hb1⟩ := info_parts info_u32
  have hown : (w.alloc (.cells #[] 25)).ownsRow w.heap.size 25 1 (.slice (some ⟨w.heap.size, 0, none⟩) 0 0) 0 [] :=
    ⟨by simp, .inr ⟨w.heap.size, 0, #[], rfl, Nat.le_refl _, heap_alloc_new w _, Nat.le_refl _, by unfold maxLen; omega, rfl, rfl⟩⟩
  have BE := B.ext ((Ext.refl w).alloc (.cells #[] 25))
  obtain ⟨v', w', hrun, h2, h3, _⟩ := run_append_own (P := Tryz.prog) (w.alloc (.cells #[] 25)) w.heap.size 189 o.type 25 i (.int .u32 0) 1 4 Tryz.underlying189 hi hz hs1 hb1 rfl (by decide) _ 0 [] hown ⟨g, 0, none⟩ n cap (wc ws)
    (by rw [wc_length, hn, Nat.mul_one]) (fun j u hj => by
      have hjl : j < ws.length := by
        rcases Nat.lt_or_ge j ws.length with h | h
        · exact h
        · rw [List.getElem?_eq_none (by rw [wc_length]; exact h)] at hj; cases hj
      rw [addr0, BE j (by rw [wc_length]; exact hjl), List.getD_eq_getElem?_getD, hj]
      rfl) (wc_one' ws) (by unfold maxLen; omega) (by omega) (by simp)
  have hb := (Below.refl w.heap.size (w.alloc (.cells #[] 25))).grown h3 (by simp) (fun g hg => (World.ownsRow.lt hown g hg).1)
  have hx' : Ext w w' := ((Ext.refl w).alloc _).below hb (Nat.le_refl _)
  have hcells := fun g hg => h2.cells (g := g) hg
  rcases h2.2 with ⟨_, h9⟩ | ⟨g', cap', cur, rfl, hb', hg', hn', hm', hs', ht'⟩
  · omega
  · refine wpl_val hgd (v := .slice (some ⟨g', 0, none⟩) (0 + n) cap') (w' := w') ?_ ?_
    · unfold execOp
      simp only [ho, resolve, invoke, builtin, Sem.run_bind, Sem.run_pure, Result.andThen_ok, List.map_toArray, List.map_cons, List.map_nil, hs, hx, hrun]
    · rw [Nat.zero_add]
      refine h g' cap' w' ⟨fun j hj => ?_, fun j _ => ?_, ?_⟩ hx' hb'
      · have := hcells g' rfl j ((wc ws).getD j undef) (by rw [List.nil_append, List.getD_eq_getElem?_getD, List.getElem?_eq_getElem hj]; rfl)
        rw [addr0] at this
        exact this
      · simp [World.frozen?, hg']
      · rcases Nat.lt_or_ge g' w'.heap.size with h | h
        · exact h
        · rw [Array.getElem?_eq_none h] at hg'; cases hg'
end

set_option maxRecDepth 100000 in
theorem round_r (w : World) (t : Nat) (b c d : Int) (ht : t < 80) :
    Calls Tryz.prog 214 #[.int .i64 (t : Int), .int .u32 b, .int .u32 c, .int .u32 d] w fun e w' => e = .returned (.tuple #[.int .u32 (f1 t b c d), .int .u32 (k1 t)]) ∧ w = w' := by
  by_cases h20 : t < 20
  · have hi : (t : Int) < 20 := by omega
    have hf := f1_a t b c d h20
    rw [hf.1, hf.2]
    clear hf
    go_enter Tryz.func214, Tryz.ntmps214
    go_wp2_with fail
    go_ret2
    exact ⟨rfl, rfl⟩
  by_cases h40 : t < 40
  · have hi : (t : Int) < 40 := by omega
    have hj : 20 ≤ (t : Int) := by omega
    have hf := f1_b t b c d h20 h40
    rw [hf.1, hf.2]
    clear hf
    go_enter Tryz.func214, Tryz.ntmps214
    go_wp2_with fail
    go_ret2
    exact ⟨rfl, rfl⟩
  by_cases h60 : t < 60
  · have hi : (t : Int) < 60 := by omega
    have hj : 40 ≤ (t : Int) := by omega
    have hf := f1_c t b c d h20 h40 h60
    rw [hf.1, hf.2]
    clear hf
    go_enter Tryz.func214, Tryz.ntmps214
    go_wp2_with fail
    go_ret2
    exact ⟨rfl, rfl⟩
  · have hj : 60 ≤ (t : Int) := by omega
    have hf := f1_d t b c d h20 h40 h60
    rw [hf.1, hf.2]
    clear hf
    go_enter Tryz.func214, Tryz.ntmps214
    go_wp2_with fail
    go_ret2
    exact ⟨rfl, rfl⟩

set_option maxRecDepth 100000 in
set_option maxHeartbeats 1000000 in
theorem bytes_r (w : World) (g n cap : Nat) (ws : List Int) (hn : n = ws.length) (hsm : n ≤ 1000) (B : Box w g (wc ws)) :
    Calls Tryz.prog 215 #[.slice (some ⟨g, 0, none⟩) n cap] w fun e w' => ∃ v, e = .returned v ∧ Own w' w.heap.size v (outH ws) ∧ Ext w w' := by
  have HB := Lib.hid B
  have HN := Lib.hid hn
  clear B hn
  go_enter Tryz.func215, Tryz.ntmps215
  go_wp2_with fail
  have OW0 : Own w w.heap.size (.slice none 0 0) (outH (ws.take 0)) := Own.nil w _
  go_loopw [3, 4] (fun v i W => ∃ k : Nat, k ≤ n ∧ i = .int .i64 k ∧ Own W w.heap.size v (outH (ws.take k)) ∧ Ext w W) (fun _ i _ => n - (intOf i).toNat)
  case atStart => exact ⟨0, Nat.zero_le _, rfl, OW0, Ext.refl _⟩
  case round =>
    clear OW0
    obtain ⟨k, hk, rfl, OW, hx⟩ := hrel
    by_cases hkN : k < n
    · have hb : (k : Int) < (n : Int) := by omega
      have hkw : k < ws.length := by rw [← HN.out]; exact hkN
      have hc0 : w.cell? ⟨g, k, none⟩ = some (.int .u32 (ws.getD k 0)) := by
        have := HB.out k (by rw [wc_length]; exact hkw)
        rw [this, List.getD_eq_getElem?_getD, wc_get ws k hkw]
        rfl
      have ht := outH_take ws k hkw
      have hlen : (outH (ws.take k)).length = 4 * k := by rw [outH_length, List.length_take, Nat.min_eq_left (by omega)]
      generalize ws.getD k 0 = x at hc0 ht
      have hck := hx.cell hc0
      have HT := Lib.hid ht
      clear ht
      go_wp2_with fail
      go_region_held3 (fun W' => W'.cell? ⟨g, k, none⟩ = some (.int .u32 x) ∧ Ext w W')
        ((refine (fun h => ⟨Ext.cell h hc0, h⟩) ?_; first | exact hx.drew | exact (hx.alloc _).drew | exact hx4 | fail))
        (first
          | ((with_reducible show (if Region.wanted (⟨some 36, _, _, _, _, _⟩ : Oper) _ = true then _ else _)); go_must (go_split_ands; refine step_append_rd bt (OW.ext (((Ext.refl _).alloc _).drew)) ((rd_lit wr _ (u4 x) (u4_cells x) (by simp [u4]) 4 _ (by rfl) (by rfl)).ext (Ext.refl _).drew) (by rfl) _ _ (by rfl) (by rfl) (by rfl) ?_ ?_ ?_; (simp [hlen, u4]; omega); (exact Ext.size (by assumption)); intro v4 w4 ho4 hb4; have hx4 : Ext w w4 := Ext.below (by assumption) hb4 (Nat.le_refl _)))
          | fail)
      all_goals
        go_split_ands
        go_wp2_with fail
        go_roundw
        case rel => exact ⟨k + 1, by omega, by go_num, by rw [HT.out]; exact ho4, by assumption⟩
        case measure => simp [intOf]; omega
    · obtain rfl : k = n := by omega
      rw [HN.out, List.take_length] at OW
      go_wp2_with fail
      go_ret
      exact ⟨_, rfl, OW, hx⟩

theorem rd_byteS (w : World) (x : Int) (c : UInt8) (g : Nat) (hg : g = w.heap.size) (hx : x = (c.toNat : Int)) : Rd (w.alloc (.cells #[.int .u8 x] 5)) (.slice (some ⟨g, 0, none⟩) 1 1) [c] := by
  subst hg hx
  exact rd_new w _ [c] rfl 1 rfl (by unfold maxLen; simp)
theorem tail_take (F : List UInt8) (all k : Nat) (c : UInt8) (hk : (tailH all)[k]? = some c) : (F ++ (tailH all).take k) ++ [c] = F ++ (tailH all).take (k + 1) := by
  rw [List.take_add_one, hk, List.append_assoc]
  rfl
def leftV (v : Value) : Nat := match v with | .slice _ n _ => leftN (n % 64) | _ => 0
def padL (b : List UInt8) : List UInt8 := ((b ++ [128]) ++ List.replicate (leftN ((b.length + 1) % 64)) 0) ++ tailH b.length

set_option maxRecDepth 100000 in
set_option maxHeartbeats 1000000 in
theorem padded_r (w : World) (v : Value) (l : List UInt8) (hr : Rd w v l) (hl : l.length ≤ 1000000) :
    Calls Tryz.prog 211 #[v] w fun e w' => ∃ v', e = .returned v' ∧ Own w' w.heap.size v' (padL l) ∧ Ext w w' := by
  have HR := Lib.hid hr
  obtain ⟨A, cap, rfl, hle, hm, hz⟩ := id hr
  clear hr hz
  go_enter Tryz.func211, Tryz.ntmps211
  go_wp2_with (first
    | ((with_reducible show AtS 8); refine wpl_clone bt HR.out rfl _ _ rfl rfl rfl (by omega) ?_; intro v1 w1 ho1 hx1)
    | ((with_reducible show AtS 10); refine wpl_append_rd bt (ho1.ext ((Ext.refl _).alloc _)) (rd_lit w1 _ [128] rfl (by simp) 1 _ rfl rfl) rfl _ _ rfl rfl rfl (by simp; omega) (Nat.le_trans (Ext.size hx1) (by simp)) ?_; intro v2 w2 ho2 hb2; have hx2 := (hx1.alloc _).below hb2 (Nat.le_refl _))
    | fail)
  obtain ⟨m, hm0⟩ : ∃ m, m = l ++ [128] := ⟨_, rfl⟩
  have hml : m.length = l.length + 1 := by rw [hm0, List.length_append]; rfl
  rw [← hm0] at ho2
  have hpad : padL l = (m ++ List.replicate (leftN (m.length % 64)) 0) ++ tailH l.length := by rw [padL, hm0, List.length_append]; rfl
  have HPAD := Lib.hid hpad
  have HML := Lib.hid hml
  clear hm0 hml hpad ho1 hb2 hx1
  go_loopw [3] (fun v W => ∃ k : Nat, k + leftN ((m.length + k) % 64) = leftN (m.length % 64) ∧ Own W w.heap.size v (m ++ List.replicate k 0) ∧ Ext w W) (fun v _ => leftV v)
  case atStart => exact ⟨0, by simp, by simpa using ho2, hx2⟩
  case round =>
    clear ho2 hx2
    obtain ⟨k, hk, OW, hx⟩ := hrel
    obtain ⟨F, hF⟩ : ∃ F, F = m ++ List.replicate k 0 := ⟨_, rfl⟩
    rw [← hF] at OW
    have hFl : F.length = m.length + k := by rw [hF, List.length_append, List.length_replicate]
    rw [← hFl] at hk
    obtain ⟨A1, c1, rfl, hle1, hm1, hz⟩ := OW.rd
    clear hz
    have HOW := Lib.hid OW
    have HF := Lib.hid hF
    have HFL := Lib.hid hFl
    clear OW hF hFl
    have hk64 : leftN (m.length % 64) < 64 := by unfold leftN; omega
    by_cases h56 : F.length % 64 = 56
    · have hq : (((F.length : Int) % 64) != 56) = false := by simp; omega
      have hk0 : k = leftN (m.length % 64) := by rw [h56] at hk; unfold leftN at hk ⊢; omega
      have HK0 := Lib.hid hk0
      have HH := Lib.hid hk
      have hl0 : (l.length : Int) ≤ 1000000 := by omega
      clear hk hk0 hk64
      go_wp2_with fail
      have HX := Lib.hid hx
      have OW0 : Own wr w.heap.size (.slice A1 F.length c1) (F ++ (tailH l.length).take 0) := by simpa using HOW.out
      clear hx hq
      go_loopw [3, 5] (fun v i W => ∃ k : Nat, k ≤ 8 ∧ i = .int .i64 (7 - (k : Int)) ∧ Own W w.heap.size v (F ++ (tailH l.length).take k) ∧ Ext w W) (fun _ i _ => (intOf i + 1).toNat)
      case atStart => exact ⟨0, Nat.zero_le _, rfl, OW0, HX.out⟩
      case round =>
        clear OW0
        obtain ⟨k2, hk8, rfl, OW, hx⟩ := hrel
        have hFle : F.length ≤ 1000070 := by have := HFL.out; have := HML.out; have := HK0.out; have : leftN (m.length % 64) < 64 := by unfold leftN; omega
                                             omega
        have h8 : k2 = 0 ∨ k2 = 1 ∨ k2 = 2 ∨ k2 = 3 ∨ k2 = 4 ∨ k2 = 5 ∨ k2 = 6 ∨ k2 = 7 ∨ k2 = 8 := by omega
        rcases h8 with rfl | rfl | rfl | rfl | rfl | rfl | rfl | rfl | rfl
        · go_wp2_with (first
            | ((with_reducible show AtS 34); refine wpl_append_rd bt (OW.ext ((Ext.refl _).alloc _)) (rd_byteS _ _ (lenC l.length 7) _ rfl ?hx) rfl _ _ rfl rfl rfl (by simp [tailH]; omega) (Nat.le_trans (Ext.size hx) (by simp)) ?_; (case hx => (have e := lenC_int l.length 7; rw [show ((2 ^ (8 * 7) : Nat) : Int) = 72057594037927936 from rfl] at e; omega)); intro v2 w2 ho2 hb2; have hx2 := (hx.alloc _).below hb2 (Nat.le_refl _); rw [tail_take F l.length 0 _ rfl] at ho2)
            | fail)
          go_roundw
          case rel => exact ⟨1, by omega, rfl, ho2, hx2⟩
          case measure => simp [intOf]
        · go_wp2_with (first
            | ((with_reducible show AtS 34); refine wpl_append_rd bt (OW.ext ((Ext.refl _).alloc _)) (rd_byteS _ _ (lenC l.length 6) _ rfl ?hx) rfl _ _ rfl rfl rfl (by simp [tailH]; omega) (Nat.le_trans (Ext.size hx) (by simp)) ?_; (case hx => (have e := lenC_int l.length 6; rw [show ((2 ^ (8 * 6) : Nat) : Int) = 281474976710656 from rfl] at e; omega)); intro v2 w2 ho2 hb2; have hx2 := (hx.alloc _).below hb2 (Nat.le_refl _); rw [tail_take F l.length 1 _ rfl] at ho2)
            | fail)
          go_roundw
          case rel => exact ⟨2, by omega, rfl, ho2, hx2⟩
          case measure => simp [intOf]
        · go_wp2_with (first
            | ((with_reducible show AtS 34); refine wpl_append_rd bt (OW.ext ((Ext.refl _).alloc _)) (rd_byteS _ _ (lenC l.length 5) _ rfl ?hx) rfl _ _ rfl rfl rfl (by simp [tailH]; omega) (Nat.le_trans (Ext.size hx) (by simp)) ?_; (case hx => (have e := lenC_int l.length 5; rw [show ((2 ^ (8 * 5) : Nat) : Int) = 1099511627776 from rfl] at e; omega)); intro v2 w2 ho2 hb2; have hx2 := (hx.alloc _).below hb2 (Nat.le_refl _); rw [tail_take F l.length 2 _ rfl] at ho2)
            | fail)
          go_roundw
          case rel => exact ⟨3, by omega, rfl, ho2, hx2⟩
          case measure => simp [intOf]
        · go_wp2_with (first
            | ((with_reducible show AtS 34); refine wpl_append_rd bt (OW.ext ((Ext.refl _).alloc _)) (rd_byteS _ _ (lenC l.length 4) _ rfl ?hx) rfl _ _ rfl rfl rfl (by simp [tailH]; omega) (Nat.le_trans (Ext.size hx) (by simp)) ?_; (case hx => (have e := lenC_int l.length 4; rw [show ((2 ^ (8 * 4) : Nat) : Int) = 4294967296 from rfl] at e; omega)); intro v2 w2 ho2 hb2; have hx2 := (hx.alloc _).below hb2 (Nat.le_refl _); rw [tail_take F l.length 3 _ rfl] at ho2)
            | fail)
          go_roundw
          case rel => exact ⟨4, by omega, rfl, ho2, hx2⟩
          case measure => simp [intOf]
        · go_wp2_with (first
            | ((with_reducible show AtS 34); refine wpl_append_rd bt (OW.ext ((Ext.refl _).alloc _)) (rd_byteS _ _ (lenC l.length 3) _ rfl ?hx) rfl _ _ rfl rfl rfl (by simp [tailH]; omega) (Nat.le_trans (Ext.size hx) (by simp)) ?_; (case hx => (have e := lenC_int l.length 3; rw [show ((2 ^ (8 * 3) : Nat) : Int) = 16777216 from rfl] at e; omega)); intro v2 w2 ho2 hb2; have hx2 := (hx.alloc _).below hb2 (Nat.le_refl _); rw [tail_take F l.length 4 _ rfl] at ho2)
            | fail)
          go_roundw
          case rel => exact ⟨5, by omega, rfl, ho2, hx2⟩
          case measure => simp [intOf]
        · go_wp2_with (first
            | ((with_reducible show AtS 34); refine wpl_append_rd bt (OW.ext ((Ext.refl _).alloc _)) (rd_byteS _ _ (lenC l.length 2) _ rfl ?hx) rfl _ _ rfl rfl rfl (by simp [tailH]; omega) (Nat.le_trans (Ext.size hx) (by simp)) ?_; (case hx => (have e := lenC_int l.length 2; rw [show ((2 ^ (8 * 2) : Nat) : Int) = 65536 from rfl] at e; omega)); intro v2 w2 ho2 hb2; have hx2 := (hx.alloc _).below hb2 (Nat.le_refl _); rw [tail_take F l.length 5 _ rfl] at ho2)
            | fail)
          go_roundw
          case rel => exact ⟨6, by omega, rfl, ho2, hx2⟩
          case measure => simp [intOf]
        · go_wp2_with (first
            | ((with_reducible show AtS 34); refine wpl_append_rd bt (OW.ext ((Ext.refl _).alloc _)) (rd_byteS _ _ (lenC l.length 1) _ rfl ?hx) rfl _ _ rfl rfl rfl (by simp [tailH]; omega) (Nat.le_trans (Ext.size hx) (by simp)) ?_; (case hx => (have e := lenC_int l.length 1; rw [show ((2 ^ (8 * 1) : Nat) : Int) = 256 from rfl] at e; omega)); intro v2 w2 ho2 hb2; have hx2 := (hx.alloc _).below hb2 (Nat.le_refl _); rw [tail_take F l.length 6 _ rfl] at ho2)
            | fail)
          go_roundw
          case rel => exact ⟨7, by omega, rfl, ho2, hx2⟩
          case measure => simp [intOf]
        · go_wp2_with (first
            | ((with_reducible show AtS 34); refine wpl_append_rd bt (OW.ext ((Ext.refl _).alloc _)) (rd_byteS _ _ (lenC l.length 0) _ rfl ?hx) rfl _ _ rfl rfl rfl (by simp [tailH]; omega) (Nat.le_trans (Ext.size hx) (by simp)) ?_; (case hx => (have e := lenC_int l.length 0; rw [show ((2 ^ (8 * 0) : Nat) : Int) = 1 from rfl] at e; omega)); intro v2 w2 ho2 hb2; have hx2 := (hx.alloc _).below hb2 (Nat.le_refl _); rw [tail_take F l.length 7 _ rfl] at ho2)
            | fail)
          go_roundw
          case rel => exact ⟨8, by omega, rfl, ho2, hx2⟩
          case measure => simp [intOf]
        · rw [show ((7 : Int) - ((8 : Nat) : Int)) = -1 from rfl]
          go_wp2_with fail
          go_ret
          refine ⟨_, rfl, ?_, hx⟩
          rw [HPAD.out, ← HK0.out, ← HF.out]
          exact OW
    · have hq : (((F.length : Int) % 64) != 56) = true := by simp; omega
      have HH := Lib.hid hk
      clear hk
      go_wp2_with (first
        | ((with_reducible show AtS 17); refine wpl_append_rd bt (HOW.out.ext ((Ext.refl _).alloc _)) (rd_lit _ _ [0] rfl (by simp) 1 _ rfl rfl) rfl _ _ rfl rfl rfl (by simp; have := HFL.out; have := HML.out; have := HH.out; omega) (Nat.le_trans (Ext.size hx) (by simp)) ?_; intro v2 w2 ho2 hb2; have hx2 := (hx.alloc _).below hb2 (Nat.le_refl _))
        | fail)
      have hFk : F ++ [0] = m ++ List.replicate (k + 1) 0 := by rw [HF.out, List.append_assoc, List.replicate_succ']
      have hstep : leftN ((m.length + (k + 1)) % 64) + 1 = leftN (F.length % 64) := by have := HFL.out; unfold leftN; omega
      rw [hFk] at ho2
      obtain ⟨A2, c2, hv2, hz⟩ := ho2.rd
      clear hz
      have hl2 : (m ++ List.replicate (k + 1) 0).length = m.length + (k + 1) := by rw [List.length_append, List.length_replicate]
      go_roundw
      case rel => exact ⟨k + 1, by have := HH.out; omega, ho2, hx2⟩
      case measure =>
        rw [hv2]
        show leftN ((m ++ List.replicate (k + 1) 0).length % 64) < leftN (F.length % 64)
        rw [hl2]
        omega
end Go.Proofs.YtbodppfpmpmadaaGreat

namespace Go.Proofs.YtbodppfpmpmadaaGreat
open Go.RowKit

theorem sch1_congr {r r' : List UInt8} (h : ∀ i, i < 64 → r.getD i 0 = r'.getD i 0) : ∀ t, sch1 r t = sch1 r' t
  | 0 => rfl
  | t + 1 => by
    rw [sch1, sch1, sch1_congr h t]
    split
    · rw [h _ (by omega), h _ (by omega), h _ (by omega), h _ (by omega)]
    · rfl
theorem sch2_congr {r r' : List UInt8} (h : ∀ i, i < 64 → r.getD i 0 = r'.getD i 0) : ∀ t, sch2 r t = sch2 r' t
  | 0 => rfl
  | t + 1 => by
    rw [sch2, sch2, sch2_congr h t]
    split
    · rw [h _ (by omega), h _ (by omega), h _ (by omega), h _ (by omega)]
    · rfl
theorem comp_congr (kind : Int) (ws : List Int) {r r' : List UInt8} (h : ∀ i, i < 64 → r.getD i 0 = r'.getD i 0) : comp kind ws r = comp kind ws r' := by
  unfold comp comp1 comp2
  rw [sch1_congr h, sch2_congr h]

def rf (kind : Int) (ws : List Int) (p : List UInt8) : Nat → List Int
  | 0 => ws
  | n + 1 => comp kind (rf kind ws p n) (p.drop (64 * n))

theorem take_one (l : List UInt8) (j : Nat) (h : j < l.length) : l.take (j + 1) = l.take j ++ [l.getD j 0] := by
  rw [List.take_add_one, List.getElem?_eq_getElem h, List.getD_eq_getElem?_getD, List.getElem?_eq_getElem h]
  rfl
theorem feed_part (kind : Int) (ws : List Int) (rest l : List UInt8) (hr : rest.length = 64) : ∀ j, j ≤ l.length → j < 64 → feedH kind (ws, rest, 0) (l.take j) = (ws, l.take j ++ rest.drop j, j)
  | 0, _, _ => by simp [feedH]
  | j + 1, h1, h2 => by
    rw [feedH_take kind _ l j (by omega), feed_part kind ws rest l hr j (by omega) (by omega), stepH]
    dsimp only
    rw [if_pos h2]
    have hlt : (l.take j).length = j := by rw [List.length_take, Nat.min_eq_left (by omega)]
    have e1 : (l.take j ++ rest.drop j).set j (l.getD j 0) = l.take (j + 1) ++ rest.drop (j + 1) := by
      rw [List.set_append_right _ _ (by omega), hlt, Nat.sub_self, List.drop_eq_getElem_cons (by omega), List.set_cons_zero, take_one l j (by omega), List.append_assoc]
      rfl
    rw [e1]
theorem feed_block (kind : Int) (ws : List Int) (rest l : List UInt8) (hr : rest.length = 64) (hl : l.length = 64) : feedH kind (ws, rest, 0) l = (comp kind ws l, l, 0) := by
  have h := feedH_take kind (ws, rest, 0) l 63 (by omega)
  rw [List.take_of_length_le (by omega)] at h
  rw [h, feed_part kind ws rest l hr 63 (by omega) (by omega), stepH]
  dsimp only
  rw [if_neg (by omega)]
  have hlt : (l.take 63).length = 63 := by rw [List.length_take, Nat.min_eq_left (by omega)]
  have e1 : (l.take 63 ++ rest.drop 63).set 63 (l.getD 63 0) = l := by
    rw [List.set_append_right _ _ (by omega), hlt, Nat.sub_self, List.drop_eq_getElem_cons (by omega), List.set_cons_zero]
    have e2 : rest.drop (63 + 1) = [] := List.drop_of_length_le (by omega)
    rw [e2]
    have e3 : l = l.take 64 := (List.take_of_length_le (by omega)).symm
    conv => rhs; rw [e3, show (64 : Nat) = 63 + 1 from rfl, take_one l 63 (by omega)]
  rw [e1]
theorem feed_blocks (kind : Int) (ws : List Int) (rest p : List UInt8) (hr : rest.length = 64) : ∀ n, 64 * n ≤ p.length → ∃ r, r.length = 64 ∧ feedH kind (ws, rest, 0) (p.take (64 * n)) = (rf kind ws p n, r, 0)
  | 0, _ => ⟨rest, hr, by rw [Nat.mul_zero, List.take_zero]; rfl⟩
  | n + 1, h => by
    obtain ⟨r, h1, h2⟩ := feed_blocks kind ws rest p hr n (by omega)
    have hl : ((p.drop (64 * n)).take 64).length = 64 := by rw [List.length_take, List.length_drop, Nat.min_eq_left (by omega)]
    refine ⟨(p.drop (64 * n)).take 64, hl, ?_⟩
    have e : p.take (64 * (n + 1)) = p.take (64 * n) ++ (p.drop (64 * n)).take 64 := by
      rw [show 64 * (n + 1) = 64 * n + 64 by omega, List.take_add]
    have ec : comp kind (rf kind ws p n) ((p.drop (64 * n)).take 64) = comp kind (rf kind ws p n) (p.drop (64 * n)) := comp_congr kind _ fun i hi => by
      rw [List.getD_eq_getElem?_getD, List.getD_eq_getElem?_getD, List.getElem?_take, if_pos hi]
    rw [e, feedH_append, h2, feed_block kind _ r _ h1 hl, rf, ec]
theorem feed_n (kind : Int) (l : List UInt8) : ∀ s : List Int × List UInt8 × Nat, s.2.2 < 64 → (feedH kind s l).2.2 = (s.2.2 + l.length) % 64 := by
  induction l with
  | nil => intro s h; show s.2.2 = (s.2.2 + 0) % 64; omega
  | cons c l ih =>
    intro s h
    have h2 : (stepH kind s c).2.2 = (s.2.2 + 1) % 64 := by
      unfold stepH
      split
      · show s.2.2 + 1 = _; omega
      · show 0 = _; omega
    have h3 := ih (stepH kind s c) (by rw [h2]; omega)
    show (feedH kind (stepH kind s c) l).2.2 = _
    rw [h3, h2, List.length_cons]
    omega

theorem padL_length (b : List UInt8) : ∃ m, (padL b).length = 64 * m := by
  have h : (padL b).length = b.length + 1 + leftN ((b.length + 1) % 64) + 8 := by simp [padL, tailH]; omega
  refine ⟨(padL b).length / 64, ?_⟩
  rw [h]
  unfold leftN
  omega
theorem fin_pad (kind : Int) (b : List UInt8) : finH kind (feedH kind (initH kind) b) b.length = feedH kind (initH kind) (padL b) := by
  have h1 : stepH kind (feedH kind (initH kind) b) 128 = feedH kind (initH kind) (b ++ [128]) := by rw [feedH_append]; rfl
  have h2 : (feedH kind (initH kind) (b ++ [128])).2.2 = (b.length + 1) % 64 := by
    rw [feed_n kind _ _ (goodH_init kind).2.2, List.length_append]
    show (0 + (b.length + 1)) % 64 = _
    rw [Nat.zero_add]
  rw [finH, padH, h1, h2, padL]
  simp only [feedH_append]

theorem comp1_take (ws : List Int) (r : List UInt8) (h : ws.length = 8) : (comp1 ws r).take 5 = comp1 (ws.take 5) r := by
  obtain ⟨y0, y1, y2, y3, y4, y5, y6, y7, rfl⟩ : ∃ a b c d e f g i, ws = [a, b, c, d, e, f, g, i] := by
    match ws, h with
    | [a, b, c, d, e, f, g, i], _ => exact ⟨a, b, c, d, e, f, g, i, rfl⟩
  rfl
theorem rf_length (kind : Int) (ws : List Int) (p : List UInt8) (h : ws.length = 8) : ∀ n, (rf kind ws p n).length = 8
  | 0 => h
  | n + 1 => comp_length kind _ _ (rf_length kind ws p h n)
theorem rf_take (ws : List Int) (p : List UInt8) (h : ws.length = 8) : ∀ n, (rf 1 ws p n).take 5 = rf 1 (ws.take 5) p n
  | 0 => rfl
  | n + 1 => by
    show (comp1 (rf 1 ws p n) _).take 5 = comp1 (rf 1 (ws.take 5) p n) _
    rw [comp1_take _ _ (rf_length 1 ws p h n), rf_take ws p h n]

theorem sumP_blocks (kind : Int) (b : List UInt8) (m : Nat) (hm : (padL b).length = 64 * m) : sumP kind b = outH (if kind = 1 then (rf kind (start kind) (padL b) m).take 5 else rf kind (start kind) (padL b) m) := by
  obtain ⟨r, _, h⟩ := feed_blocks kind (start kind) (List.replicate 64 0) (padL b) rfl m (by omega)
  rw [List.take_of_length_le (by omega)] at h
  unfold sumP sumH
  rw [fin_pad, show initH kind = (start kind, List.replicate 64 0, 0) from rfl, h]
theorem sumP_1 (b : List UInt8) (m : Nat) (hm : (padL b).length = 64 * m) : sumP 1 b = outH (rf 1 [1732584193, 4023233417, 2562383102, 271733878, 3285377520] (padL b) m) := by
  rw [sumP_blocks 1 b m hm, if_pos rfl, rf_take _ _ (start_length 1)]
  rfl
theorem sumP_2 (b : List UInt8) (m : Nat) (hm : (padL b).length = 64 * m) : sumP 2 b = outH (rf 2 (start 2) (padL b) m) := by
  rw [sumP_blocks 2 b m hm, if_neg (by decide)]
end Go.Proofs.YtbodppfpmpmadaaGreat

namespace Go.Proofs.YtbodppfpmpmadaaGreat
open Go.RowKit

set_option maxRecDepth 100000 in
set_option maxHeartbeats 4000000 in
theorem fineAnswer_t (w : World) (caps most ch : Int) (user resp db pl : List UInt8) (ps : Pairs) (Ar Aa : Option Addr) (cr ca : Nat) (h1 : plainP [user, db, pl] = true) (h2 : hasC caps 33280 = true)
    (hd : db = [] ∨ hasC caps 8 = true) (hp : pl = [] ∨ hasC caps 524288 = true) (hr : resp.length ≤ 255) (hn : ps.length ≤ 64) (ha : ps = [] ∨ hasC caps 1048576 = true) :
    Calls Tryz.prog 148 #[.agg #[.int .u32 caps, .int .u32 most, .int .u8 ch, .string (strL user), .slice Ar resp.length cr, .string (strL db), .string (strL pl), .slice Aa ps.length ca]] w fun e w' => e = .returned (.bool true) ∧ Ext w w' := by
  have H1 := Lib.hid h1
  have H2 := Lib.hid h2
  obtain ⟨q1, e1, f1⟩ : ∃ q, (strL db).toList.isEmpty = q ∧ (q = false → hasC caps 8 = true) := ⟨_, rfl, fun hq => hd.resolve_left (fun e => by subst e; simp [strL_tl] at hq)⟩
  obtain ⟨q2, e2, f2⟩ : ∃ q, (strL pl).toList.isEmpty = q ∧ (q = false → hasC caps 524288 = true) := ⟨_, rfl, fun hq => hp.resolve_left (fun e => by subst e; simp [strL_tl] at hq)⟩
  obtain ⟨q3, e3, f3⟩ : ∃ q, ((ps.length : Int) == 0) = q ∧ (q = false → hasC caps 1048576 = true) := ⟨_, rfl, fun hq => ha.resolve_left (fun e => by subst e; simp at hq)⟩
  have F1 := Lib.hid f1
  have F2 := Lib.hid f2
  have F3 := Lib.hid f3
  have hri : (resp.length : Int) ≤ 255 := by omega
  have hni : (ps.length : Int) ≤ 64 := by omega
  clear h1 h2 hd hp hr hn ha f1 f2 f3
  cases q1 <;> cases q2 <;> cases q3
  all_goals
    go_enter Tryz.func148, Tryz.ntmps148
    go_wp2_with fail
    generalize hW0 : w.alloc _ = wS
    have hb : Box wS w.heap.size [.int .u32 caps, .int .u32 most, .int .u8 ch, .string (strL user), .slice Ar resp.length cr, .string (strL db), .string (strL pl), .slice Aa ps.length ca] := by rw [← hW0]; exact Box.new w _ _
    have hx0 : Ext w wS := by rw [← hW0]; exact (Ext.refl w).alloc _
    have hsz : w.heap.size + 1 = wS.heap.size := by rw [← hW0]; simp
    have HSZ := Lib.hid hsz
    have HX0 := Lib.hid hx0
    clear hW0 hsz hx0
    go_wp2_with (first
      | (go_at_call 143; refine (plain_g _ _ [user, db, pl] true (texts_new _ _ _ (by rfl) _ _ _ HSZ.out (by rfl) (by simp)) H1.out).mono ?_; rintro e wT ⟨rfl, hq⟩; have hx1 : Ext wS wT := hq ▸ (Ext.refl wS).alloc _; clear hq; have c0 := hb.one' (j := 0) rfl hx1; have c4 := hb.one' (j := 4) rfl hx1; have c5 := hb.one' (j := 5) rfl hx1; have c6 := hb.one' (j := 6) rfl hx1; have c7 := hb.one' (j := 7) rfl hx1)
      | ((with_reducible show Calls _ _ #[_, Value.int .u32 33280] _ _); go_at_call 83; refine (has_g _ _ _ true H2.out).mono ?_; rintro e wy ⟨rfl, rfl⟩)
      | ((with_reducible show Calls _ _ #[_, Value.int .u32 8] _ _); go_at_call 83; refine (has_g _ _ _ true (F1.out (by trivial))).mono ?_; rintro e wy ⟨rfl, rfl⟩)
      | ((with_reducible show Calls _ _ #[_, Value.int .u32 524288] _ _); go_at_call 83; refine (has_g _ _ _ true (F2.out (by trivial))).mono ?_; rintro e wy ⟨rfl, rfl⟩)
      | ((with_reducible show Calls _ _ #[_, Value.int .u32 1048576] _ _); go_at_call 83; refine (has_g _ _ _ true (F3.out (by trivial))).mono ?_; rintro e wy ⟨rfl, rfl⟩)
      | fail)
    go_ret
    exact ⟨rfl, HX0.out.trans hx1⟩
end Go.Proofs.YtbodppfpmpmadaaGreat

