import Derived.Test.YtbodppfpmpmadaaGreatL6C
import Derived.Test.YtbodppfpmpmadaaGreatL16C
import Derived.Test.YtbodppfpmpmadaaGreatL17C
namespace Go.Proofs.YtbodppfpmpmadaaGreat
open Go.RowKit

def Fresh (base : Nat) (w : World) (v : Value) : Prop := ∀ h, v.ownBlock = some h → base ≤ h ∧ h < w.heap.size
theorem Fresh.more {base : Nat} {w w' : World} {v : Value} (h : Fresh base w v) (k : w.heap.size ≤ w'.heap.size) : Fresh base w' v := fun x hx => ⟨(h x hx).1, Nat.lt_of_lt_of_le (h x hx).2 k⟩
section
variable {P : Program} (w : World)
theorem run_append_recs0 {t sl : TypeId} {sz bytes : Nat} {z : Value} (hsl : P.underlying sl = some (.slice t)) (hinfo : (P.info? t).map (fun i => (i.zero, i.size, i.bytes)) = some (some z, sz, bytes)) (hsz : 0 < sz) (hby : bytes ≤ 100)
    {base g : Nat} {vx : Value} {ns : List (List Value)} (hg : base ≤ g ∧ g < w.heap.size) (hr : Recs w sz vx ns) (hrows : ∀ r ∈ ns, r.length = sz) (h1 : ∀ r ∈ ns, ∀ u ∈ r, u.oneCell' = true) (hlen : ns.length ≤ 1000000) (ty : TypeId) :
    ∃ v' w', (Builtin.append_ #[sl, sl] ty #[.slice (some ⟨g, 0, none⟩) 0 0, vx]).run P w = .ok v' w' ∧ Recs w' sz v' ns ∧ Fresh base w' v' ∧ Ext w w' := by
  obtain ⟨i, hi, hz, hs1, hb1⟩ := info_parts hinfo
  obtain ⟨A, cap, rfl, hle, hm, hc⟩ := hr
  by_cases hn : ns = []
  · subst hn
    have hS : Src P sz sl (.slice A 0 cap) 0 [] w := by
      cases A with
      | none => exact Src.ofNil w hsl cap
      | some a => exact Src.ofSlice w hsl a 0 cap [] (by simp) (fun j u h => by simp at h) (fun u h => by simp at h)
    have hrun := run_append_room_src (P := P) w sl sl ty t i hsl hi g 0 0 0 (.slice A 0 cap) 0 [] (by rw [hs1]; exact hS) (by omega) (fun j hj => by simp at hj) (fun j hj => by simp at hj)
    refine ⟨_, _, hrun, ⟨some ⟨g, 0, none⟩, 0, rfl, Nat.le_refl _, by unfold maxLen; omega, fun h => absurd rfl h⟩, fun h hh => ?_, Ext.refl w⟩
    have e : g = h := by simpa [Value.ownBlock] using hh
    subst e
    exact hg
  · obtain ⟨b, o, rfl, hcell⟩ := hc hn
    have hfl := flatten_len ns hrows
    have hpos : 0 < ns.length := List.length_pos_iff.2 hn
    have hS : Src P sz sl (.slice (some ⟨b, o, none⟩) ns.length cap) ns.length ns.flatten w := Src.ofSlice w hsl _ _ _ _ hfl (fun k u hk => by
        have hkl : k < ns.length * sz := by
          rcases Nat.lt_or_ge k ns.flatten.length with h | h
          · rw [← hfl]; exact h
          · rw [List.getElem?_eq_none h] at hk; cases hk
        have hj : k / sz < ns.length := Nat.div_lt_of_lt_mul (by rw [Nat.mul_comm]; exact hkl)
        have hi2 : k % sz < sz := Nat.mod_lt _ hsz
        have hmem : ns.getD (k / sz) [] ∈ ns := by rw [List.getD_eq_getElem?_getD, List.getElem?_eq_getElem hj]; exact List.getElem_mem hj
        have hrl := hrows _ hmem
        have hx : (ns.getD (k / sz) [])[k % sz]? = some ((ns.getD (k / sz) [])[k % sz]'(by rw [hrl]; exact hi2)) := List.getElem?_eq_getElem _
        have e1 := flatten_at ns hrows (k / sz) hj (k % sz) _ hx
        have e2 : k / sz * sz + k % sz = k := by rw [Nat.mul_comm]; exact Nat.div_add_mod k sz
        rw [e2, hk] at e1
        have e3 := hcell (k / sz) hj (k % sz) u (by rw [hx]; exact e1.symm)
        rw [addrk]
        rw [Nat.add_assoc, e2] at e3
        exact e3) (fun u hu => by
        obtain ⟨r, hr, hu⟩ := List.mem_flatten.1 hu
        exact h1 r hr u hu)
    have hfit : (0 + ns.length) * bytes ≤ 1000000 * 100 := Nat.mul_le_mul (by omega) hby
    have hrun := run_append_grow_src (P := P) w sl sl ty t i z hsl hi hz (some ⟨g, 0, none⟩) 0 0 [] (run_firstCells_some w.drew i.size 0 ⟨g, 0, none⟩ 0 0 [] (by simp) (fun j u h => by simp at h)) _ ns.length ns.flatten (by rw [hs1]; exact hS) (by omega) (by omega)
      (by rw [hb1]; exact growslice_fits (bytes := bytes) (by omega) (by omega))
    have hge := grownCap_ge w (0 + ns.length) 0 t
    have hcm := grownCap_le_maxLen w (0 + ns.length) 0 t (by unfold maxLen; omega)
    rw [Nat.zero_add] at hrun hge hcm
    refine ⟨_, _, hrun, ⟨some ⟨w.heap.size, 0, none⟩, _, rfl, hge, hcm, fun _ => ⟨w.heap.size, 0, rfl, fun j hj i u hu => ?_⟩⟩, fun h hh => ?_, (Ext.refl w).drew.alloc _⟩
    · have e1 := flatten_at ns hrows j hj i u hu
      have e2 := World.cell?_alloc_new w.drew (([] ++ ns.flatten).toArray ++ Builtin.zeroCells z.cells (grownCap w ns.length 0 t - ns.length)) t (j * sz + i)
      rw [Nat.zero_add]
      refine Eq.trans e2 ?_
      rw [Array.getElem?_append_left (by
        rcases Nat.lt_or_ge (j * sz + i) ns.flatten.length with h | h
        · simpa using h
        · rw [List.getElem?_eq_none h] at e1; cases e1), List.getElem?_toArray, List.nil_append]
      exact e1
    · have e : w.heap.size = h := by simpa [Value.ownBlock] using hh
      subst e
      exact ⟨by omega, by simp⟩
theorem run_append_rd0 (hT : BT P) {base g : Nat} {vx : Value} {m : List UInt8} (hg : base ≤ g ∧ g < w.heap.size) (hr : Rd w vx m) (hlen : m.length ≤ 1000000) (ty : TypeId) :
    ∃ v' w', (Builtin.append_ #[22, 22] ty #[.slice (some ⟨g, 0, none⟩) 0 0, vx]).run P w = .ok v' w' ∧ Rd w' v' m ∧ Fresh base w' v' ∧ Ext w w' := by
  obtain ⟨i, hi, hz, hs1, hb1⟩ := hT.info
  obtain ⟨A, cap, rfl, hle, hm, hA, hc⟩ := hr
  by_cases hn : m = []
  · subst hn
    have hS : Src P 1 22 (.slice A 0 cap) 0 [] w := by
      cases A with
      | none => exact Src.ofNil w hT.sl cap
      | some a => exact Src.ofSlice w hT.sl a 0 cap [] (by simp) (fun j u h => by simp at h) (fun u h => by simp at h)
    have hrun := run_append_room_src (P := P) w 22 22 ty 5 i hT.sl hi g 0 0 0 (.slice A 0 cap) 0 [] (by rw [hs1]; exact hS) (by omega) (fun j hj => by simp at hj) (fun j hj => by simp at hj)
    refine ⟨_, _, hrun, ⟨some ⟨g, 0, none⟩, 0, rfl, Nat.le_refl _, by unfold maxLen; omega, (fun e => by cases e), fun h => absurd rfl h⟩, fun h hh => ?_, Ext.refl w⟩
    have e : g = h := by simpa [Value.ownBlock] using hh
    subst e
    exact hg
  · obtain ⟨b, o, rfl, hcell⟩ := hc hn
    have hpos : 0 < m.length := List.length_pos_iff.2 hn
    have hS : Src P 1 22 (.slice (some ⟨b, o, none⟩) m.length cap) m.length (bc m) w := Src.ofSlice w hT.sl _ _ _ _ (by rw [bc_length, Nat.mul_one]) (fun j u hj => by
      have hjl : j < m.length := by
        rcases Nat.lt_or_ge j m.length with h | h
        · exact h
        · rw [List.getElem?_eq_none (by rw [bc_length]; exact h)] at hj; cases hj
      rw [bc_get m j hjl] at hj
      rw [addrk, hcell j hjl]
      exact hj) (bc_one m)
    have hrun := run_append_grow_src (P := P) w 22 22 ty 5 i (.int .u8 0) hT.sl hi hz (some ⟨g, 0, none⟩) 0 0 [] (run_firstCells_some w.drew i.size 0 ⟨g, 0, none⟩ 0 0 [] (by simp) (fun j u h => by simp at h)) _ m.length (bc m) (by rw [hs1]; exact hS) (by omega) (by omega)
      (by rw [hb1]; exact growslice_fits (bytes := 1) (by omega) (by omega))
    have hge := grownCap_ge w (0 + m.length) 0 5
    have hcm := grownCap_le_maxLen w (0 + m.length) 0 5 (by unfold maxLen; omega)
    rw [Nat.zero_add] at hrun hge hcm
    refine ⟨_, _, hrun, ⟨some ⟨w.heap.size, 0, none⟩, _, rfl, hge, hcm, (fun e => by cases e), fun _ => ⟨w.heap.size, 0, rfl, fun j hj => ?_⟩⟩, fun h hh => ?_, (Ext.refl w).drew.alloc _⟩
    · have e2 := World.cell?_alloc_new w.drew (([] ++ bc m).toArray ++ Builtin.zeroCells (Value.int .u8 0).cells (grownCap w m.length 0 5 - m.length)) 5 j
      rw [Nat.zero_add]
      refine Eq.trans e2 ?_
      rw [Array.getElem?_append_left (by simp [bc_length]; exact hj), List.getElem?_toArray, List.nil_append, bc_get m j hj]
    · have e : w.heap.size = h := by simpa [Value.ownBlock] using hh
      subst e
      exact ⟨by omega, by simp⟩
variable {w}
variable {ops : Array Oper} {o : Oper} {a : Act} {K : Act → World → Prop} {Q : Exit → Act → World → Prop} {E : Prop}
theorem step_append_recs0 {t sl : TypeId} {sz bytes : Nat} {z : Value} (hsl : P.underlying sl = some (.slice t)) (hinfo : (P.info? t).map (fun i => (i.zero, i.size, i.bytes)) = some (some z, sz, bytes)) (hsz : 0 < sz) (hby : bytes ≤ 100)
    {base g : Nat} {vx : Value} {ns : List (List Value)} (hr : Recs w sz vx ns) (hrows : ∀ r ∈ ns, r.length = sz) (h1 : ∀ r ∈ ns, ∀ u ∈ r, u.oneCell' = true) (hlen : ns.length ≤ 1000000)
    (hgd : o.guard = none) (s x : Operand) (ho : o.op = .call { callee := .builtin .append, args := #[s, x], argTypes := #[sl, sl] })
    (hs : a.eval s = .slice (some ⟨g, 0, none⟩) 0 0) (hx : a.eval x = vx) (hg1 : base ≤ g) (hg2 : g < w.heap.size)
    (h : ∀ v' w', Recs w' sz v' ns → Fresh base w' v' → Ext w w' → K (a.put o.dst v') w') : if Region.wanted o (yielded ops a.tmps) = true then Oper.wp P o a w K Q else E := by
  have hw : Region.wanted o (yielded ops a.tmps) = true := by simp [Region.wanted, hgd]
  rw [if_pos hw]
  obtain ⟨v', w', hr, h2, h3, h4⟩ := run_append_recs0 (P := P) w hsl hinfo hsz hby ⟨hg1, hg2⟩ hr hrows h1 hlen o.type
  unfold Oper.wp execOp
  simp only [ho, resolve, invoke, builtin, Sem.run_bind, Sem.run_pure, Result.andThen_ok, List.map_toArray, List.map_cons, List.map_nil, hs, hx, hr]
  exact h v' w' h2 h3 h4
theorem step_append_rd0 (hT : BT P) {base g : Nat} {vx : Value} {m : List UInt8} (hr : Rd w vx m) (hlen : m.length ≤ 1000000)
    (hgd : o.guard = none) (s x : Operand) (ho : o.op = .call { callee := .builtin .append, args := #[s, x], argTypes := #[22, 22] })
    (hs : a.eval s = .slice (some ⟨g, 0, none⟩) 0 0) (hx : a.eval x = vx) (hg1 : base ≤ g) (hg2 : g < w.heap.size)
    (h : ∀ v' w', Rd w' v' m → Fresh base w' v' → Ext w w' → K (a.put o.dst v') w') : if Region.wanted o (yielded ops a.tmps) = true then Oper.wp P o a w K Q else E := by
  have hw : Region.wanted o (yielded ops a.tmps) = true := by simp [Region.wanted, hgd]
  rw [if_pos hw]
  obtain ⟨v', w', hr, h2, h3, h4⟩ := run_append_rd0 (P := P) w hT ⟨hg1, hg2⟩ hr hlen o.type
  unfold Oper.wp execOp
  simp only [ho, resolve, invoke, builtin, Sem.run_bind, Sem.run_pure, Result.andThen_ok, List.map_toArray, List.map_cons, List.map_nil, hs, hx, hr]
  exact h v' w' h2 h3 h4
end
end Go.Proofs.YtbodppfpmpmadaaGreat

namespace Go.Proofs.YtbodppfpmpmadaaGreat
open Go.RowKit

theorem greF_not {G : GreV} (h : ¬ GreOk G) (h1 : 0 ≤ G.thr ∧ G.thr < 4294967296) (h2 : 0 ≤ G.caps ∧ G.caps < 4294967296) (h3 : 0 ≤ G.ch ∧ G.ch < 256) (h4 : 0 ≤ G.st ∧ G.st < 65536) : greF G.ver G.nonce G.pl G.caps = false := by
  cases hb : greF G.ver G.nonce G.pl G.caps with
  | false => rfl
  | true =>
    refine absurd ?_ h
    unfold greF at hb
    simp only [Bool.and_eq_true, Bool.not_eq_true', Bool.or_eq_true, beq_iff_eq, List.isEmpty_iff] at hb
    obtain ⟨a, b, c, d, e⟩ := hb
    have hn := checkE_nonce b
    exact ⟨a, d, hn.1, hn.2, c, e, h1, h2, h3, h4⟩
set_option maxRecDepth 100000 in
set_option maxHeartbeats 4000000 in
theorem newDoorR_no (w : World) (v : Value) (us : List UserV) (ver n pl : List UInt8) (thr caps ch st : Int) (vn : Value) (hus : Recs w 5 v (us.map userC))
    (hnl : ∀ k, k < us.length → (us.getD k userZ).name.length ≤ 9223372036854775807 ∧ (us.getD k userZ).pw.length ≤ 9223372036854775807 ∧ (us.getD k userZ).sc.length ≤ 9223372036854775807) (hn : Rd w vn n)
    (ht : 0 ≤ thr ∧ thr < 4294967296) (hcaps : 0 ≤ caps ∧ caps < 4294967296) (hch : 0 ≤ ch ∧ ch < 256) (hst : 0 ≤ st ∧ st < 65536) (hpl : pl.length ≤ 10000) (hvl : ver.length ≤ 10000) (hbad : ¬ DoorMay us ⟨ver, thr, n, caps, ch, st, pl⟩) :
    Calls Tryz.prog 22 #[v, .agg #[.string (strL ver), .int .u32 thr, vn, .int .u32 caps, .int .u8 ch, .int .u16 st, .string (strL pl)]] w fun e w' => e = .returned (.tuple #[.pointer none, .int .i64 2]) ∧ Ext w w' := by
  have HUS := Lib.hid hus
  obtain ⟨A, cap, hv, hle, hm⟩ := hus.shape
  rw [List.length_map] at hv hle
  unfold maxLen at hm
  obtain ⟨N, hN⟩ : ∃ N, N = us.length := ⟨_, rfl⟩
  rw [← hN] at hv hle
  subst hv
  have HN := Lib.hid hN
  obtain ⟨An, cn, rfl, _⟩ := id hn
  have HNN := Lib.hid hn
  have HG : ∃ (X : List UInt8) (er : Int), (er = 0 → GreOk ⟨ver, thr, n, caps, ch, st, pl⟩) ∧ ∀ w v, Rd w v n → Calls Tryz.prog 58 #[.slice none 0 0, .agg #[.string (strL ver), .int .u32 thr, v, .int .u32 caps, .int .u8 ch, .int .u16 st, .string (strL pl)]] w (RetBE w X er) := by
    by_cases hok : GreOk ⟨ver, thr, n, caps, ch, st, pl⟩
    · exact ⟨_, 0, fun _ => hok, fun w v hv => appendGreetingR_g w ver n pl thr caps ch st v hv hok.ver hok.pl hok.n20 (greF_ok hok) ht hcaps hch hst hpl hvl⟩
    · exact ⟨[], 2, (fun h => by cases h), fun w v hv => appendGreetingR_z w ver n pl thr caps ch st v hv hvl hpl (greF_not hok ht hcaps hch hst)⟩
  obtain ⟨X, er, her, HG⟩ := HG
  replace HG := Lib.hid HG
  have HER := Lib.hid her
  have HBAD := Lib.hid hbad
  have HNL := Lib.hid hnl
  clear hus hN hn her hbad hnl ht hcaps hch hst hpl hvl
  by_cases h64 : N ≤ 64
  · have h64i : ¬ (N : Int) > 64 := by omega
    have H64 := Lib.hid h64
    go_enter Tryz.func22, Tryz.ntmps22
    go_upto_region 1 with fail
    generalize hW0 : w.alloc _ = wS
    have hb0 : BoxF wS w.heap.size [.string (strL ver), .int .u32 thr, .slice An n.length cn, .int .u32 caps, .int .u8 ch, .int .u16 st, .string (strL pl)] := by rw [← hW0]; exact BoxF.new w _ _
    have hx0 : Ext w wS := by rw [← hW0]; exact (Ext.refl w).alloc _
    clear hW0
    have HB0 := Lib.hid hb0
    have HX0 := Lib.hid hx0
    clear hb0 hx0
    go_wp2_with fail
    go_loopw [6, 7] (fun i _ W => ∃ k : Nat, k ≤ N ∧ i = .int .i64 k ∧ Ext wS W ∧ Hid (∀ j, j < k → GoodAt us j)) (fun i _ _ => N - (intOf i).toNat)
    case atStart => exact ⟨0, Nat.zero_le _, rfl, Ext.refl _, Lib.hid (fun j hj => by omega)⟩
    case round =>
      obtain ⟨k, hk, rfl, hx, HJ⟩ := hrel
      by_cases hkN : k < N
      · have hbk : (k : Int) < (N : Int) := by omega
        obtain ⟨b0, o0, rfl, hn2, hcs⟩ := (HUS.out.ext (HX0.out.trans hx)).at_ (A := A) (n := N) (cap := cap) (by omega)
        have hck := hcs k hkN
        rw [rangeAt_userC us k (by have := HN.out; omega)] at hck
        obtain ⟨good, hgood⟩ : ∃ g : Prop, g = GoodAt us k := ⟨_, rfl⟩
        have HGD := Lib.hid hgood
        have hsz := HNL.out k (by have := HN.out; omega)
        unfold GoodAt at hgood
        generalize us.getD k userZ = u at hck hgood hsz
        obtain ⟨nm, pw, plg, sc, ad⟩ := u
        dsimp only at hgood hsz
        have HCKk := Lib.hid (show wr.rangeAt b0 (o0 + k * 5) [.string (strL nm), .string (strL pw), .string (strL plg), .string (strL sc), .bool ad] from hck)
        have HSZ := Lib.hid hsz
        have HCS := Lib.hid hcs
        have HX := Lib.hid hx
        have HGOOD := Lib.hid hgood
        clear hck hcs hn2 hx hgood hsz
        cases ho : okU ⟨nm, pw, plg, sc, ad⟩ with
        | false =>
          have HCU := Lib.hid (show checkU ⟨nm, pw, plg, sc, ad⟩ = 2 by unfold checkU; rw [ho]; rfl)
          clear ho
          go_wp2_with (first
            | ((with_reducible show AtS 22); refine wpl_load_rec rfl _ _ rfl b0 _ rfl HCKk.out Tryz.underlying32 rfl (by kernel_rfl) ?_)
            | (go_at_call 20; refine (checkUR_c _ nm pw plg sc ad HSZ.out.1 HSZ.out.2.1 HSZ.out.2.2).mono ?_; rintro e w5 ⟨rfl, hx5⟩; rw [HCU.out])
            | fail)
          go_ret2
          exact ⟨rfl, (HX0.out.trans HX.out).trans hx5⟩
        | true =>
          have HCU := Lib.hid (show checkU ⟨nm, pw, plg, sc, ad⟩ = 0 by unfold checkU; rw [ho]; rfl)
          have HOO := Lib.hid ho
          clear ho
          go_wp2_with (first
            | ((with_reducible show AtS 22); refine wpl_load_rec rfl _ _ rfl b0 _ rfl HCKk.out Tryz.underlying32 rfl (by kernel_rfl) ?_)
            | (go_at_call 20; refine (checkUR_c _ nm pw plg sc ad HSZ.out.1 HSZ.out.2.1 HSZ.out.2.2).mono ?_; rintro e w5 ⟨rfl, hx5⟩; rw [HCU.out])
            | fail)
          have HX5 := Lib.hid hx5
          clear hx5
          go_loopw [7] (fun i W => ∃ m : Nat, m ≤ k ∧ i = .int .i64 m ∧ Ext wr W ∧ Hid (∀ j, j < m → (us.getD j userZ).name ≠ nm)) (fun i _ => k - (intOf i).toNat)
          case atStart => exact ⟨0, Nat.zero_le _, rfl, HX5.out, Lib.hid (fun j hj => by omega)⟩
          case round =>
            obtain ⟨m, hm2, rfl, hx2, HJ2⟩ := hrel
            by_cases hmk : m < k
            · have hbm : (m : Int) < (k : Int) := by omega
              have hbmN : (m : Int) < (N : Int) := by omega
              have hcm := HCS.out m (by omega)
              rw [rangeAt_userC us m (by have := HN.out; omega)] at hcm
              obtain ⟨um, hum⟩ : ∃ um, us.getD m userZ = um := ⟨_, rfl⟩
              have HUM := Lib.hid hum
              rw [hum] at hcm
              clear hum
              obtain ⟨un, upw, upl, usc, uad⟩ := um
              have d1 := hx2.cell (hcm 0 (.string (strL un)) rfl)
              have d0 := hx2.cell (HCKk.out 0 (.string (strL nm)) rfl)
              rw [Nat.add_zero] at d0 d1
              have HX2 := Lib.hid hx2
              by_cases hne : un = nm
              · have hq : ((strL un).toList == (strL nm).toList) = true := by rw [strL_tl, strL_tl]; simpa using hne
                clear hcm hne hx2
                go_wp2_with fail
                (try dsimp only [Act.put])
                first | go_region | fail
                (try rw [hq])
                go_wp2_with fail
                go_ret2
                exact ⟨rfl, ((HX0.out.trans HX.out).trans HX2.out).drew⟩
              · have hq : ((strL un).toList == (strL nm).toList) = false := by rw [strL_tl, strL_tl]; simpa using hne
                have HNE := Lib.hid hne
                clear hcm hne hx2
                go_wp2_with fail
                (try dsimp only [Act.put])
                first | go_region | fail
                (try rw [hq])
                go_wp2_with fail
                go_roundw
                case rel => exact ⟨m + 1, by omega, by go_num, HX2.out.trans (Ext.refl _).drew, Lib.hid (fun j hj => by
                  rcases Nat.lt_succ_iff_lt_or_eq.1 hj with h9 | h9
                  · exact HJ2.out j h9
                  · subst h9
                    rw [HUM.out]
                    exact HNE.out)⟩
                case measure => simp [intOf]; omega
            · have hbm : ¬ (m : Int) < (k : Int) := by omega
              obtain rfl : m = k := by omega
              go_wp2_with fail
              go_roundw
              case rel => exact ⟨m + 1, by omega, by go_num, HX.out.trans hx2, Lib.hid (fun j hj => by
                rcases Nat.lt_succ_iff_lt_or_eq.1 hj with h9 | h9
                · exact HJ.out j h9
                · subst h9
                  rw [← HGD.out, HGOOD.out]
                  exact ⟨HOO.out, findU_take_none us _ nm HJ2.out⟩)⟩
              case measure => simp [intOf]; omega
      · obtain rfl : k = N := by omega
        have hb9 : ¬ (k : Int) < (k : Int) := by omega
        have hgu : GoodU us := fun j hj => HJ.out j (by rw [HN.out]; exact hj)
        have HGU := Lib.hid hgu
        have HX := Lib.hid hx
        have HB := Lib.hid (HB0.out.ext hx)
        clear hx hgu
        by_cases he : er = 0
        · subst he
          have hck : checkC caps ≠ 0 := fun hc => HBAD.out ⟨HGU.out, by rw [← HN.out]; exact H64.out, HER.out rfl, hc⟩
          obtain ⟨ck, hck2⟩ : ∃ ck, checkC caps = ck := ⟨_, rfl⟩
          rw [hck2] at hck
          have HCK := Lib.hid hck2
          have hq : (ck != 0) = true := by simpa using hck
          clear hck hck2
          go_wp2_with (first
            | ((with_reducible show AtS 42); refine wpl_load_box rfl _ _ rfl _ rfl HB.out Tryz.underlying29 rfl (by kernel_rfl) ?_)
            | (go_at_call 58; refine (HG.out _ _ (HNN.out.ext (HX0.out.trans HX.out))).mono ?_; rintro e w1 ⟨v1, rfl, ho1, hx1⟩; have B1 := HB.out.ext hx1; have g3 := B1.at (j := 3) rfl)
            | (go_at_call 59; refine (capsCheckR_c _ caps).mono ?_; rw [HCK.out]; rintro e wx ⟨rfl, rfl⟩)
            | fail)
          go_ret2
          exact ⟨rfl, (HX0.out.trans HX.out).trans hx1⟩
        · have hq : (er != 0) = true := by simpa using he
          clear he
          go_wp2_with (first
            | ((with_reducible show AtS 42); refine wpl_load_box rfl _ _ rfl _ rfl HB.out Tryz.underlying29 rfl (by kernel_rfl) ?_)
            | (go_at_call 58; refine (HG.out _ _ (HNN.out.ext (HX0.out.trans HX.out))).mono ?_; rintro e w1 ⟨v1, rfl, ho1, hx1⟩)
            | fail)
          go_ret2
          exact ⟨rfl, (HX0.out.trans HX.out).trans hx1⟩
  · have h64i : (N : Int) > 64 := by omega
    clear h64
    go_enter Tryz.func22, Tryz.ntmps22
    go_wp2_with fail
    go_ret2
    exact ⟨rfl, (Ext.refl w).alloc _⟩
end Go.Proofs.YtbodppfpmpmadaaGreat

