/- TrackBack: the walk. -/
import Derived.Test.YtdjnjhlgpflcjaaTrP
import Derived.Test.YtdjnjhlgpflcjaaTrM
namespace Go.Proofs.Ytdjnjhlgpflcjaa
open Go.RowKit

section
variable {P : Program} {ops : Array Oper} {rest : List Oper} {o : Oper} {a : Act} {w : World} {Q : Exit → Act → World → Prop}
/-- 'append(l, one)', and nothing else turns that was there. -/
theorem wpl_append_recg {t sl : TypeId} {sz bytes : Nat} {z : Value} (hsl : P.underlying sl = some (.slice t)) (hinfo : (P.info? t).map (fun i => (i.zero, i.size, i.bytes)) = some (some z, sz, bytes)) (hzs : z.cells.size = sz) (hsz : 0 < sz) (hby : bytes ≤ 100)
    {base : Nat} {v : Value} {rs : List (List Value)} (hown : OwnR t sz w base v rs) (row : List Value) (hrow : row.length = sz) (h1 : row.all (·.oneCell') = true)
    (hgd : o.guard = none) (s x : Operand) (ho : o.op = .call { callee := .builtin .append, args := #[s, x], argTypes := #[sl, sl] })
    (hs : a.eval s = v) (C : Array Value) (hC : C = row.toArray) (hx : a.eval x = .slice (some ⟨w.heap.size, 0, none⟩) 1 1) (hlen : rs.length + 1 ≤ 1000000000) (hbase : base ≤ w.heap.size)
    (h : ∀ v' w', OwnR t sz w' base v' (rs ++ [row]) → Below base w w' → (w.alloc (.cells C t)).grownBy w' v.ownBlock → wpList P ops Q rest (a.put o.dst v') w') : wpList P ops Q (o :: rest) a (w.alloc (.cells C t)) := by
  subst hC
  refine wpList_plain hgd fun K hK => ?_
  obtain ⟨i, hi, hz, hs1, hb1⟩ := info_parts hinfo
  have hown' := (hown.ext ((Ext.refl w).alloc (.cells row.toArray t))).1
  obtain ⟨v', w', hrun, h2, h3, _⟩ := run_append_own (P := P) (w.alloc (.cells row.toArray t)) base sl o.type t i z sz bytes hsl hi hz hs1 hb1 hzs hsz v rs.length rs.flatten hown' ⟨w.heap.size, 0, none⟩ 1 1 row
    (by rw [hrow, Nat.one_mul]) (fun j u hj => by
      have hjl : j < row.length := by
        rcases Nat.lt_or_ge j row.length with h | h
        · exact h
        · rw [List.getElem?_eq_none h] at hj; cases hj
      rw [addr0, (Box.new w row t) j hjl, List.getD_eq_getElem?_getD, hj]
      rfl) (fun u hu => by rw [List.all_eq_true] at h1; exact h1 u hu) (by unfold maxLen; omega) (by
        have : (rs.length + 1) * bytes ≤ 1000000000 * 100 := Nat.mul_le_mul hlen hby
        omega) (Nat.le_trans hbase (by simp))
  have hb := (Below.refl base (w.alloc (.cells row.toArray t))).grown h3 (Nat.le_trans hbase (by simp)) (fun g hg => (World.ownsRow.lt hown' g hg).1)
  have hb' : Below base w w' := ((Below.refl base w).alloc hbase _).trans hb
  unfold Oper.wp execOp
  simp only [ho, resolve, invoke, builtin, Sem.run_bind, Sem.run_pure, Result.andThen_ok, List.map_toArray, List.map_cons, List.map_nil, hs, hx, hrun]
  refine hK _ _ (h v' w' ⟨?_, ?_⟩ hb' h3)
  · rw [List.length_append, List.flatten_append, List.flatten_cons, List.flatten_nil, List.append_nil]
    exact h2
  · intro r hr
    rcases List.mem_append.1 hr with h | h
    · exact hown.2 r h
    · simp at h; rw [h]; exact hrow
end
/-- What is owned lies beside a block that was there before. -/
theorem Own.beside {t : TypeId} {sz : Nat} {w0 w w' : World} {base : Nat} {u v : Value} {rs : List (List Value)} {l : List UInt8} (hu : OwnR t sz w0 base u rs) (hv : Own w w0.heap.size v l) (k : w.grownBy w' u.ownBlock) : Own w' w0.heap.size v l := by
  refine World.ownsRow.kept hv k ?_
  cases hq : v.ownBlock with
  | none => exact .inl rfl
  | some g =>
    right
    intro e
    have h1 := (World.ownsRow.lt hu.1 g e.symm).2
    have h2 := (World.ownsRow.lt hv g hq).1
    omega

theorem rd_take {w : World} {A : Option Addr} {n cap : Nat} {l : List UInt8} (h : Rd w (.slice A n cap) l) (j : Nat) (hj : j ≤ l.length) : Rd w (.slice A j cap) (l.take j) := by
  obtain ⟨A', cap', hv, h1, h2, h3, h4⟩ := h
  injection hv with e1 e2 e3
  subst e1 e2 e3
  have hlen : (l.take j).length = j := by rw [List.length_take]; omega
  refine ⟨A, cap, by rw [hlen], by rw [hlen]; omega, h2, h3, fun hne => ?_⟩
  have hl : l ≠ [] := by intro e; subst e; simp at hne
  obtain ⟨b, o, hA, hc⟩ := h4 hl
  refine ⟨b, o, hA, fun i hi => ?_⟩
  rw [hlen] at hi
  rw [hc i (by omega)]
  congr 4
  rw [List.getD_eq_getElem?_getD, List.getD_eq_getElem?_getD, List.getElem?_take, if_pos hi]

set_option maxRecDepth 100000 in
set_option maxHeartbeats 4000000 in
theorem trackBack_c (w : World) (va : Value) (cs : List Chg) (ha : RecC w va cs) : Calls Try.prog 5 #[va] w (RetTrue w) := by
  have HA := Lib.hid ha
  obtain ⟨A, ca, rfl, ha1, ha2⟩ := ha.shape
  obtain ⟨N, hN⟩ : ∃ N, N = cs.length := ⟨_, rfl⟩
  have HN := Lib.hid hN
  rw [← hN] at HA ha1 ⊢
  unfold maxLen at ha2
  clear ha hN
  by_cases h1 : 200 < (N : Int)
  · go_enter Try.func5, Try.ntmps5
    go_wp2_with (first
      | (go_at_call 7; refine (lives23_c _).mono ?_; rintro e w1 ⟨rfl, hx1⟩)
      | fail)
    go_ret
    exact ⟨rfl, hx1⟩
  go_enter Try.func5, Try.ntmps5
  go_wp2_with (first
    | (go_at_call 7; refine (lives23_c _).mono ?_; rintro e w1 ⟨rfl, hx1⟩)
    | fail)
  have OW0 : OwnC w1 w.heap.size (.slice none 0 0) (kept cs 0) := by have : kept cs 0 = [] := rfl; rw [this]; exact OwnR.nil _ _ _ _
  go_loopw [3, 4, 5] (fun b u i W => ∃ k : Nat, k ≤ N ∧ i = .int .i64 k ∧ Rd W b ((kept cs k).flatMap chgB) ∧ OwnC W w.heap.size u (kept cs k) ∧ Ext w W ∧ Hid (∀ c ∈ kept cs k, okC c)) (fun _ _ i _ => N - (intOf i).toNat)
  case atStart => exact ⟨0, Nat.zero_le _, rfl, Rd.nil _, OW0, hx1, Lib.hid (fun c hc => by simp [kept] at hc)⟩
  case round =>
    clear OW0 hx1
    obtain ⟨k, hk, rfl, hrb, hou, hx, HK⟩ := hrel
    obtain ⟨K, hKd⟩ : ∃ K, K = kept cs k := ⟨_, rfl⟩
    have hKl : K.length ≤ 200 := by rw [hKd]; have := kept_len cs k; omega
    rw [← hKd] at hrb hou HK
    obtain ⟨F, hFd⟩ : ∃ F, F = K.flatMap chgB := ⟨_, rfl⟩
    have hFl : F.length ≤ 2005600 := by rw [hFd]; have := flat_le2 K HK.out; omega
    rw [← hFd] at hrb
    obtain ⟨Ab, cb, rfl, hb1, hb2, _, _⟩ := id hrb
    obtain ⟨fn, hfn⟩ : ∃ fn, fn = F.length := ⟨_, rfl⟩
    have hfb : fn ≤ 2005600 := by rw [hfn]; exact hFl
    rw [← hfn] at hrb hb1 ⊢
    have HFN := Lib.hid hfn
    clear hfn
    have HKD := Lib.hid hKd
    have HFD := Lib.hid hFd
    have HFL := Lib.hid hFl
    have HKL := Lib.hid hKl
    have HRB := Lib.hid hrb
    have HOU := Lib.hid hou
    have HX := Lib.hid hx
    clear hKd hFd hFl hKl hrb hou hx hb2
    by_cases hkN : k < N
    · have hbk : (k : Int) < (N : Int) := by omega
      obtain ⟨b0, o0, rfl, p0, p1, p2⟩ := HA.out.cells k (by have := HN.out; omega)
      obtain ⟨c, hc⟩ : ∃ c, c = cs.getD k (0, [], []) := ⟨_, rfl⟩
      rw [← hc] at p0 p1 p2
      have HC := Lib.hid hc
      clear hc
      obtain ⟨ck, cn, cv⟩ := c
      dsimp only at p0 p1 p2
      replace p0 := HX.out.cell p0
      replace p1 := HX.out.cell p1
      replace p2 := HX.out.cell p2
      by_cases h2 : 5000 < ((strL cn).size : Int)
      · go_wp2_with fail
        go_ret
        exact ⟨rfl, HX.out⟩
      by_cases h3 : 5000 < ((strL cv).size : Int)
      · go_wp2_with fail
        go_ret
        exact ⟨rfl, HX.out⟩
      have HN1 := Lib.hid (show cn.length ≤ 5000 by rw [← strL_size]; omega)
      have HN2 := Lib.hid (show cv.length ≤ 5000 by rw [← strL_size]; omega)
      cases hm : mayP (ck, cn, cv) with
      | false =>
        have HM := Lib.hid hm
        clear hm
        have hkn : kept cs (k + 1) = K := by rw [kept_step cs k (by have := HN.out; omega) _ HC.out, ← HKD.out, HM.out]; simp
        have HKN := Lib.hid hkn
        clear hkn
        go_wp2_with (first
          | (go_at_call 8; refine (append_bad _ _ ck cn cv HM.out).mono ?_; rintro e w2 ⟨v2, rfl, ho2, hx2⟩; have r2 := ho2.rd; obtain ⟨A2, c2, rfl, _, _⟩ := id r2)
          | fail)
        go_roundw
        case rel => exact ⟨k + 1, by omega, by go_num, by rw [HKN.out, ← HFD.out]; exact HRB.out.ext hx2, by rw [HKN.out]; exact HOU.out.ext hx2, HX.out.trans hx2, by rw [HKN.out]; exact HK⟩
        case measure => simp [intOf]; omega
      | true =>
        have HM := Lib.hid hm
        clear hm
        have hkn : kept cs (k + 1) = K ++ [(ck, cn, cv)] := by rw [kept_step cs k (by have := HN.out; omega) _ HC.out, ← HKD.out, HM.out]; rfl
        have HKN := Lib.hid hkn
        clear hkn
        obtain ⟨F2, hF2⟩ : ∃ F2, F2 = F ++ chgB (ck, cn, cv) := ⟨_, rfl⟩
        have A1 : ∀ w v, Rd w v F → Calls Try.prog 8 #[v, .agg #[.int .i64 ck, .string (strL cn), .string (strL cv)]] w (RetBE w F2 0) := fun w v hr => by
          have := append_g w v F ck cn cv hr (by have := HN1.out; omega) (by have := HN2.out; omega) (by have := HFL.out; omega)
          unfold appR at this
          rw [HM.out, if_pos rfl] at this
          rw [hF2]; exact this
        have A1 := Lib.hid A1
        have HF2 := Lib.hid hF2
        clear hF2
        go_wp2_with (first
          | (go_at_call 8; refine (A1.out _ _ HRB.out).mono ?_; rintro e w2 ⟨v2, rfl, ho2, hx2⟩; obtain ⟨A2, c2, rfl, _, _⟩ := id ho2.rd; replace p0 := hx2.cell p0; replace p1 := hx2.cell p1; replace p2 := hx2.cell p2)
          | ((with_reducible show wpList _ _ _ (⟨some 58, _, _, _, _, _⟩ :: _) _ _); refine wpl_append_recg (z := .agg #[.int .i64 0, .string ByteArray.empty, .string ByteArray.empty]) (bytes := 40) Try.underlying29 (by kernel_rfl) (by kernel_rfl) (by omega) (by omega) (HOU.out.ext hx2) (chgC (ck, cn, cv)) rfl (by kernel_rfl) rfl _ _ rfl rfl _ rfl rfl (by rw [chgsC_length]; have := HKL.out; omega) (Ext.size (HX.out.trans hx2)) ?_; intro v7 w7 OA7 hb7 hg7; have r7 := ((Own.beside HOU.out (ho2.ext ((Ext.refl _).alloc _)) hg7).rd))
          | fail)
        have e7 : chgsC K ++ [chgC (ck, cn, cv)] = chgsC (K ++ [(ck, cn, cv)]) := by simp [chgsC]
        rw [e7] at OA7
        have eF : F2 = (K ++ [(ck, cn, cv)]).flatMap chgB := by rw [HF2.out, HFD.out]; simp
        go_roundw
        case rel => exact ⟨k + 1, by omega, by go_num, by rw [HKN.out, ← eF]; exact r7, by rw [HKN.out]; exact OA7, (HX.out.trans hx2).below hb7 (Nat.le_refl _), by rw [HKN.out]; exact Lib.hid (fun c hc => by
          rcases List.mem_append.1 hc with h | h
          · exact HK.out c h
          · simp at h; rw [h]; exact ⟨HM.out, HN1.out, HN2.out⟩)⟩
        case measure => simp [intOf]; omega
    · obtain rfl : k = N := by omega
      have hF1 : readCs F = (K, 0) := by rw [HFD.out]; exact back_all K HK.out
      have R1 : ∀ w v, Rd w v F → Calls Try.prog 9 #[v] w (RetRead w (K, 0)) := fun w v hr => by
        have := read_g w v F hr (by have := HFL.out; omega); rwa [hF1] at this
      have R1 := Lib.hid R1
      clear hF1
      by_cases h0 : fn = 0
      · subst h0
        clear hfb
        go_wp2_with (first
          | (go_at_call 9; refine (R1.out _ _ HRB.out).mono ?_; rintro e w2 ⟨v2, he, ho2, hx2⟩; replace he : e = .returned (.tuple #[v2, .int .i64 0]) := he; subst he)
          | (go_at_call 17; refine (same_t _ _ _ _ ho2.rec (HOU.out.rec.ext hx2)).mono ?_; rintro e w3 ⟨rfl, hx3⟩)
          | fail)
        go_ret
        exact ⟨rfl, (HX.out.trans hx2).trans hx3⟩
      · have h0i : ((fn : Int) == 0) = false := by simp; omega
        have hF2 : readCs (F.take (F.length - 1)) = ([], 4) := by
          have := back_cut K HK.out (by rw [← HFD.out, ← HFN.out]; exact h0)
          rwa [← HFD.out] at this
        have R2 : ∀ w v, Rd w v (F.take (fn - 1)) → Calls Try.prog 9 #[v] w (RetRead w ([], 4)) := fun w v hr => by
          rw [show fn - 1 = F.length - 1 by rw [← HFN.out]] at hr
          have := read_g w v _ hr (by rw [List.length_take]; have := HFL.out; omega); rwa [hF2] at this
        have R2 := Lib.hid R2
        have hpos : 0 < fn := by omega
        have hA1 : 1 ≤ (fn : Int) := by omega
        have hA2 : (fn : Int) - 1 ≤ (cb : Int) := by omega
        have hr5 := Lib.hid (rd_take HRB.out (fn - 1) (by rw [← HFN.out]; omega))
        clear hF2 h0
        have tok : True := trivial
        go_wp2_with (first
          | (go_at_call 9; clear tok; refine (R1.out _ _ HRB.out).mono ?_; rintro e w2 ⟨v2, he, ho2, hx2⟩; replace he : e = .returned (.tuple #[v2, .int .i64 0]) := he; subst he)
          | (go_at_call 17; refine (same_t _ _ _ _ ho2.rec (HOU.out.rec.ext hx2)).mono ?_; rintro e w3 ⟨rfl, hx3⟩)
          | (go_at_call 9; refine (R2.out _ _ (hr5.out.ext (hx2.trans hx3))).mono ?_; rintro e w4 ⟨v4, he, ho4, hx4⟩; replace he : e = .returned (.tuple #[v4, .int .i64 4]) := he; subst he; obtain ⟨A4, c4, rfl, _⟩ := ho4.shape)
          | fail)
        go_ret
        exact ⟨rfl, ((HX.out.trans hx2).trans hx3).trans hx4⟩
end Go.Proofs.Ytdjnjhlgpflcjaa
