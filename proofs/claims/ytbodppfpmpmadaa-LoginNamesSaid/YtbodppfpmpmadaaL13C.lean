import Derived.Test.YtbodppfpmpmadaaL12C
import Derived.Lib.SlBytesConst
import Derived.Deep.CutRange
/- Logins: the examples, in plain words. -/
namespace Go.Proofs.Ytbodppfpmpmadaa
open Go.RowKit

def rN : List UInt8 := respP 1 [112, 119] nonceT
theorem checkE_nonceT : checkE nonceT = 0 := by decide +kernel
theorem rN_len : rN.length = 20 := by
  unfold rN respP
  rw [if_pos ⟨checkE_nonceT, by decide⟩, xorL_length, sumP_len 1 _ (.inl rfl), mixP_len 1 _ _ (.inl rfl)]
  rfl
theorem over_ansL (nm pl r : List UInt8) (h1 : nm.contains 0 = false) (h2 : pl.contains 0 = false) (h3 : r.length ≤ 255) : overP answerM ans0 (ansL nm pl r) = (⟨565760, 16777216, 45, nm, r, [], pl, []⟩, 0) :=
  overP_full (eats_answer _ (ansL_ok nm pl r h1 h2 h3) (fun p hp => by simp at hp) (by simp [attrsB]))
theorem both_all : bothC 565760 565760 = 565760 := by decide +kernel
theorem check_all : checkC 565760 = 0 := by decide +kernel
def d0N (h : List UInt8) : DoorV := door0 [userN] 565760 nonceT h
/-- The user is known. -/
def d1N (h : List UInt8) (st : Int) (nx : Nat) : DoorV := ⟨[userN], 565760, nonceT, h, st, 565760, nx, userN, true, [100]⟩
/-- Nobody is. -/
def d2N (h : List UInt8) (st : Int) : DoorV := ⟨[userN], 565760, nonceT, h, st, 565760, 3, userZ, false, []⟩
theorem d0N_fit (h : List UInt8) : DoorFit (d0N h) := ⟨fun u hu => by
  have : u = userN := by simpa [d0N, door0] using hu
  subst this
  exact ⟨by decide, by decide, by decide⟩, fitU_zero, show nonceT.length = 20 by decide +kernel, show nonceOk nonceT = true by decide +kernel⟩
theorem answerP_of (D : DoorV) (l : List UInt8) (a : AnsV) (h : overP answerM ans0 l = (a, 0)) (c : Int) (hb : bothC D.gc a.caps = c) (hk : checkC c = 0) :
    answerP D l = if (whoP { D with c := c } a.user a.db).kn && a.pl == (whoP { D with c := c } a.user a.db).u.pl then lookP (whoP { D with c := c } a.user a.db) a.resp else changeP (whoP { D with c := c } a.user a.db) := by
  unfold answerP
  simp only [h, hb, hk, ↓reduceIte]
theorem feed0 (h l : List UInt8) : feedP (d0N h) l = ((answerP (d0N h) l).1, 0, (answerP (d0N h) l).2) := rfl
theorem ans_known (h pl r : List UInt8) (h2 : pl.contains 0 = false) (h3 : r.length ≤ 255) : answerP (d0N h) (ansL [117] pl r) = if pl == natL then lookP (d1N h 1 0) r else changeP (d1N h 1 0) := by
  rw [answerP_of (d0N h) _ _ (over_ansL [117] pl r (by decide) h2 h3) 565760 both_all check_all]
  have e : whoP { d0N h with c := 565760 } [117] [] = d1N h 1 0 := rfl
  dsimp only
  rw [e]
  rfl
theorem ans_nobody (h pl r : List UInt8) (h2 : pl.contains 0 = false) (h3 : r.length ≤ 255) : answerP (d0N h) (ansL [120] pl r) = ([switchB (natL, nonceT)], d2N h 1) := by
  rw [answerP_of (d0N h) _ _ (over_ansL [120] pl r (by decide) h2 h3) 565760 both_all check_all]
  have e : whoP { d0N h with c := 565760 } [120] [] = ⟨[userN], 565760, nonceT, h, 1, 565760, 0, userZ, false, []⟩ := rfl
  dsimp only
  rw [e]
  rfl
theorem look_yes (h : List UInt8) (nx : Nat) : lookP (d1N h 1 nx) rN = ([okL 565760], d1N h 2 nx) := by
  unfold lookP
  have e : respPl (d1N h 1 nx).u.pl (d1N h 1 nx).u.pw (d1N h 1 nx).n = rN := rfl
  rw [e]
  have e2 : (rN == rN) = true := by simp
  rw [e2]
  rfl
theorem look_no (h : List UInt8) (nx : Nat) : lookP (d1N h 1 nx) [110, 111] = ([refusedL], d1N h 3 nx) := by
  unfold lookP
  have e : respPl (d1N h 1 nx).u.pl (d1N h 1 nx).u.pw (d1N h 1 nx).n = rN := rfl
  rw [e]
  have e2 : (([110, 111] : List UInt8) == rN) = false := by
    rw [beq_eq_false_iff_ne]
    intro e3
    have := rN_len
    rw [← e3] at this
    cases this
  rw [e2]
  rfl
theorem ex_right (h : List UInt8) : feedP (d0N h) (ansL [117] natL rN) = ([okL 565760], 0, d1N h 2 0) := by
  rw [feed0, ans_known h natL rN (by decide) (by rw [rN_len]; decide), if_pos (by decide), look_yes]
theorem ex_wrong (h : List UInt8) : feedP (d0N h) (ansL [117] natL [110, 111]) = ([refusedL], 0, d1N h 3 0) := by
  rw [feed0, ans_known h natL _ (by decide) (by decide), if_pos (by decide), look_no]
theorem ex_other (h : List UInt8) : feedP (d0N h) (ansL [117] fastL [110, 111]) = ([switchB (natL, nonceT)], 0, d1N h 1 1) := by
  rw [feed0, ans_known h fastL _ (by decide) (by decide), if_neg (by decide)]
  rfl
theorem ex_other2 (h : List UInt8) : feedP (d1N h 1 1) rN = ([okL 565760], 0, d1N h 2 1) := by
  have e : feedP (d1N h 1 1) rN = ((lookP (d1N h 1 1) rN).1, 0, (lookP (d1N h 1 1) rN).2) := rfl
  rw [e, look_yes]
theorem ex_nobody (h : List UInt8) : feedP (d0N h) (ansL [120] natL rN) = ([switchB (natL, nonceT)], 0, d2N h 1) := by
  rw [feed0, ans_nobody h natL rN (by decide) (by rw [rN_len]; decide)]
theorem ex_nobody2 (h l : List UInt8) : feedP (d2N h 1) l = ([refusedL], 0, d2N h 3) := rfl
theorem ex_nil (h : List UInt8) : feedP (d0N h) [] = ([oddL], 0, { d0N h with st := 3 }) := by
  rw [feed0]
  unfold answerP
  rw [if_neg (show ¬ (overP answerM ans0 []).2 = 0 by decide +kernel)]
theorem okL_head : ∃ t, okL 565760 = 0 :: t := ⟨_, rfl⟩
theorem refusedL_head : ∃ t, refusedL = 255 :: t := ⟨_, rfl⟩
theorem oddL_head : ∃ t, oddL = 255 :: t := ⟨_, rfl⟩
theorem switchL_head : ∃ t, switchB (natL, nonceT) = 254 :: t := ⟨_, rfl⟩
theorem goodN : GoodU [userN] := fun k hk => by
  have : k = 0 := by simpa using hk
  subst this
  exact ⟨by decide +kernel, rfl⟩
theorem DoorIs.ext {w w' : World} {S : List Nat} {g : Nat} {D : DoorV} (h : DoorIs w S g D) (k : Ext w w') : DoorIs w' S g D := by
  obtain ⟨K, fv, h⟩ := h
  exact ⟨K, fv, h.ext k⟩
theorem DoorIs.on {w w' : World} {S : List Nat} {g b : Nat} {D : DoorV} (h : DoorIs w S g D) (k : On b w w') (hb : b ∈ S) (hne : g ≠ b) : DoorIs w' S g D := by
  obtain ⟨K, fv, h⟩ := h
  exact ⟨K, fv, h.on k hb hne⟩
/-- A literal of one user. -/
theorem recs_one (w : World) (u : UserV) (t : TypeId) : Recs (w.alloc (.cells #[.string (strL u.name), .string (strL u.pw), .string (strL u.pl), .string (strL u.sc), .bool u.adm] t)) 5 (.slice (some ⟨w.heap.size, 0, none⟩) 1 1) [userC u] := by
  refine ⟨_, 1, rfl, Nat.le_refl _, by unfold maxLen; simp, fun _ => ⟨w.heap.size, 0, rfl, fun j hj => ?_⟩⟩
  have : j = 0 := by simpa using hj
  subst this
  intro i v hv
  have h9 := (Box.new w (userC u) t).range i v hv
  rw [show 0 + 0 * 5 + i = 0 + i by omega]
  exact h9
/-- The first packet's first byte. -/
theorem ListsN.head {w : World} {base : Nat} {v : Value} {x : UInt8} {t : List UInt8} {r : List (List UInt8)} (h : ListsN w base v ((x :: t) :: r)) :
    ∃ b o cap b2 o2 c2 M, v = .slice (some ⟨b, o, none⟩) (r.length + 1) cap ∧ 0 < M ∧ w.cell? ⟨b, o, none⟩ = some (.slice (some ⟨b2, o2, none⟩) M c2) ∧ w.cell? ⟨b2, o2, none⟩ = some (.int .u8 (x.toNat : Int)) := by
  obtain ⟨A, cap, hv, hc1, hc2, hcs⟩ := h
  obtain ⟨b, o, rfl, _, hcell⟩ := hcs (by simp)
  obtain ⟨u, hu, hr⟩ := hcell 0 (by simp)
  obtain ⟨A2, c2, rfl, _, _, _, hz⟩ := hr.rd
  obtain ⟨b2, o2, rfl, hcell2⟩ := hz (by simp)
  have p := hcell2 0 (by simp)
  rw [Nat.add_zero] at hu p
  exact ⟨b, o, cap, b2, o2, c2, _, hv, by simp, hu, p⟩
end Go.Proofs.Ytbodppfpmpmadaa
/- Logins: the chapter's first example. -/
namespace Go.Proofs.Ytbodppfpmpmadaa
open Go.RowKit

/-- A door is made for the chapter's user. -/
theorem newN_c (w : World) (v : Value) (A : Option Addr) (c : Nat) (hus : Recs w 5 v [userC userN]) (hn : Rd w (.slice A nonceT.length c) nonceT) :
    Calls Try.prog 7 #[v, .agg #[.string (strL [56]), .int .u32 1, .slice A nonceT.length c, .int .u32 565760, .int .u8 45, .int .u16 2, .string (strL natL)]] w fun e w' => ∃ g, e = .returned (.tuple #[.pointer (some ⟨g, 0, none⟩), .int .i64 0]) ∧
      w.heap.size ≤ g ∧ g < w'.heap.size ∧ Ext w w' ∧ ∀ S : List Nat, g ∈ S → (∀ x ∈ S, x = g ∨ x < w.heap.size) → DoorIs w' S g (d0N (greetBs [56] 1 nonceT 565760 45 2 natL)) :=
  newDoor_ok w v [userN] [56] nonceT natL 1 565760 45 2 _ hus goodN (by decide) hn (by decide) (by decide) (by decide +kernel) (by decide +kernel) (by decide) (.inr (by decide)) (by omega) (by omega) (by omega) (by omega) (by decide) (by decide) check_all
/-- The response. -/
theorem ntvN_c (w : World) (v : Value) (hn : Rd w v nonceT) : Calls Try.prog 5 #[.string ⟨#[112, 119]⟩, v] w fun e w' => ∃ A c, e = .returned (.tuple #[.slice A 20 c, .int .i64 0]) ∧ Rd w' (.slice A 20 c) rN ∧ Ext w w' := by
  refine (ntv_c w ⟨#[112, 119]⟩ v nonceT (by decide) hn).mono ?_
  rw [checkE_nonceT]
  rintro e w' ⟨v', rfl, hr, hx⟩
  have hr2 : Rd w' v' rN := hr
  obtain ⟨A, c, hv, _⟩ := id hr2
  rw [rN_len] at hv
  subst hv
  exact ⟨A, c, rfl, hr2, hx⟩
set_option maxRecDepth 100000 in
set_option maxHeartbeats 2000000 in
theorem lives27_c (w : World) : Calls Try.prog 4 #[] w fun e w' => e = .returned (.bool true) ∧ Ext w w' := by
  obtain ⟨H, hH⟩ : ∃ H, H = greetBs [56] 1 nonceT 565760 45 2 natL := ⟨_, rfl⟩
  have HH := Lib.hid hH
  obtain ⟨F, hF⟩ : ∃ F, F = ansL [117] natL rN := ⟨_, rfl⟩
  have HF := Lib.hid hF
  have HE := Lib.hid (show feedP (d0N H) F = ([okL 565760], 0, d1N H 2 0) by rw [hF]; exact ex_right H)
  have HFL := Lib.hid (show F.length ≤ 900000 by rw [hF]; decide +kernel)
  have HRL := Lib.hid rN_len
  clear hH hF
  go_enter Try.func4, Try.ntmps4
  have tok1 : True := trivial
  go_wp2_with (first
    | (go_at_call 8; have _t := tok1; refine (user27_c _).mono ?_; rintro e w1 ⟨rfl, hx1⟩; clear tok1)
    | (go_at_call 9; refine (greeting27_c _).mono ?_; rintro e w2 ⟨A2, c2, rfl, hr2, hx2⟩)
    | (go_at_call 7; refine (newN_c _ _ A2 c2 ((recs_one w1 userN _).ext hx2) hr2).mono ?_; rw [← HH.out]; rintro e w3 ⟨g, rfl, hg1, hg2, hx3, hd3⟩; have hX3 : Ext w w3 := ((hx1.alloc _).trans hx2).trans hx3)
    | (go_at_call 6; refine (nonce27_c _).mono ?_; rintro e w4 ⟨v4, rfl, ho4, hx4⟩)
    | (go_at_call 5; refine (ntvN_c _ _ ho4.rd).mono ?_; rintro e w5 ⟨A5, c5, rfl, hr5, hx5⟩)
    | (go_at_call 11; refine (answer27_c _ [117] natL rN _ hr5 (by decide) (by decide) (by rw [HRL.out]; decide) (by decide) (by decide)).mono ?_; rw [← HF.out]; rintro e w6 ⟨v6, rfl, ho6, hx6⟩)
    | (go_at_call 10; refine (feed_d _ [g] g (d0N H) F _ ((hd3 [g] (by simp) (by intro x hx; left; simpa using hx)).ext ((hx4.trans hx5).trans hx6)) ho6.rd HFL.out (d0N_fit H)).mono ?_; rw [HE.out]; rintro e w7 ⟨v7, rfl, hl7, ⟨K, fv, hd7⟩, O7⟩; obtain ⟨t7, ht7⟩ := okL_head; rw [ht7] at hl7; obtain ⟨b7, o7, k7, b8, o8, c8, M8, rfl, hM8, p7, p8⟩ := hl7.head; have hM9 : (M8 : Int) > 0 := (by omega); have c9 : w7.cell? ⟨g, 9, none⟩ = some (.int .i64 2) := hd7.box.at (j := 9) rfl; have c18 : w7.cell? ⟨g, 18, none⟩ = some (.string (strL [100])) := hd7.box.at (j := 18) rfl; have hO7 : Ext w w7 := (((hX3.trans hx4).trans hx5).trans hx6).on O7 (by have := Ext.size hx1; have := Ext.size hx2; simp at this; omega))
    | (go_at_call 13; refine (dstate_c _ g 2 c9).mono ?_; rintro e wx ⟨rfl, rfl⟩)
    | (go_at_call 14; refine (duser_c _ g _ 2 [117] [112, 119] natL [100] false hd7.box rfl rfl).mono ?_; rintro e w9 ⟨rfl, hx9⟩)
    | (go_at_call 8; refine (user27_c _).mono ?_; rintro e w10 ⟨rfl, hx10⟩; have d9 := Ext.cell (hx9.trans hx10) c9; have d18 := Ext.cell (hx9.trans hx10) c18)
    | (go_at_call 15; refine (dschema_c _ g 2 (strL [100]) d9 d18).mono ?_; rintro e wx ⟨rfl, rfl⟩)
    | fail)
  go_ret
  exact ⟨congrArg (fun z => Ending.returned (.bool z)) (by rw [strL_tl]; rfl), (hO7.trans hx9).trans hx10⟩
end Go.Proofs.Ytbodppfpmpmadaa
/- Logins: four doors in a list. -/
namespace Go.Proofs.Ytbodppfpmpmadaa
open Go.RowKit

section
variable {P : Program} {ops : Array Oper} {rest : List Oper} {o : Oper} {a : Act} {w : World} {Q : Exit → Act → World → Prop}
/-- 'append(l, one)', and where the new list lies. -/
theorem wpl_append_at {t sl : TypeId} {sz bytes : Nat} {z : Value} (hsl : P.underlying sl = some (.slice t)) (hinfo : (P.info? t).map (fun i => (i.zero, i.size, i.bytes)) = some (some z, sz, bytes)) (hzs : z.cells.size = sz) (hsz : 0 < sz) (hby : bytes ≤ 100)
    {base : Nat} {v : Value} {rs : List (List Value)} (hown : OwnR t sz w base v rs) (row : List Value) (hrow : row.length = sz) (h1 : row.all (·.oneCell') = true)
    (hgd : o.guard = none) (s x : Operand) (ho : o.op = .call { callee := .builtin .append, args := #[s, x], argTypes := #[sl, sl] })
    (hs : a.eval s = v) (C : Array Value) (hC : C = row.toArray) (hx : a.eval x = .slice (some ⟨w.heap.size, 0, none⟩) 1 1) (hlen : rs.length + 1 ≤ 1000000000) (hbase : base ≤ w.heap.size)
    (h : ∀ v' w', OwnR t sz w' base v' (rs ++ [row]) → (w.alloc (.cells C t)).grownBy w' v.ownBlock → (v'.ownBlock = v.ownBlock ∨ v'.ownBlock = some (w.alloc (.cells C t)).heap.size) → wpList P ops Q rest (a.put o.dst v') w') : wpList P ops Q (o :: rest) a (w.alloc (.cells C t)) := by
  subst hC
  refine wpList_plain hgd fun K hK => ?_
  obtain ⟨i, hi, hz, hs1, hb1⟩ := info_parts hinfo
  have hown' := (hown.ext ((Ext.refl w).alloc (.cells row.toArray t))).1
  obtain ⟨v', w', hrun, h2, h3, _, h5⟩ := run_append_own_at (P := P) (w.alloc (.cells row.toArray t)) base sl o.type t i z sz bytes hsl hi hz hs1 hb1 hzs hsz v rs.length rs.flatten hown' ⟨w.heap.size, 0, none⟩ 1 1 row
    (by rw [hrow, Nat.one_mul]) (fun j u hj => by
      have hjl : j < row.length := by
        rcases Nat.lt_or_ge j row.length with h | h
        · exact h
        · rw [List.getElem?_eq_none h] at hj; cases hj
      rw [addr0, (Box.new w row t) j hjl, List.getD_eq_getElem?_getD, hj]
      rfl) (fun u hu => by rw [List.all_eq_true] at h1; exact h1 u hu) (by unfold maxLen; omega) (by
        have : (rs.length + 1) * bytes ≤ 1000000000 * 100 := Nat.mul_le_mul hlen hby
        omega) (Nat.le_trans hbase (by simp))
  unfold Oper.wp execOp
  simp only [ho, resolve, invoke, builtin, Sem.run_bind, Sem.run_pure, Result.andThen_ok, List.map_toArray, List.map_cons, List.map_nil, hs, hx, hrun]
  refine hK _ _ (h v' w' ⟨?_, ?_⟩ h3 h5)
  · rw [List.length_append, List.flatten_append, List.flatten_cons, List.flatten_nil, List.append_nil]
    exact h2
  · intro r hr
    rcases List.mem_append.1 hr with h | h
    · exact hown.2 r h
    · simp at h; rw [h]; exact hrow
end
/-- A block turns that is none of the door's, and there are more doors. -/
theorem DoorAt.onMore {w w' : World} {S S' : List Nat} {g b : Nat} {D : DoorV} {K : DoorK} {fv : Value} (h : DoorAt w S g D K fv) (k : On b w w') (hb : b ∈ S) (hne : g ≠ b) (hS : ∀ x ∈ S', x ∈ S ∨ w.heap.size ≤ x) (hlt : ∀ x ∈ S', x < w'.heap.size) (hg : g ∈ S') : DoorAt w' S' g D K fv :=
  ⟨h.box.on k hne, h.map.on k (fun e => h.bS (e ▸ hb)), fun hm => by
    rcases hS _ hm with h1 | h1
    · exact h.bS h1
    · have := h.map.lt; omega, h.nr.on k (h.nS.ne hb), (h.nS.more hS).mono k.size, h.hr.on k (h.hS.ne hb), (h.hS.more hS).mono k.size, by
    rcases h.fn with h | h | h | ⟨h0, x, h1, h2, h3⟩
    · exact .inl h
    · exact .inr (.inl h)
    · exact .inr (.inr (.inl h))
    · refine .inr (.inr (.inr ⟨h0, x, h1, k.cell h2 (fun e => h3 (by rw [show x = b from e]; exact hb)), fun hm => ?_⟩))
      rcases hS x hm with h4 | h4
      · exact h3 h4
      · have := World.block_lt_of_cell? w _ h2
        dsimp only at this
        omega, hg, hlt⟩
def ptrs (gs : List Nat) : List (List Value) := gs.map fun g => [.pointer (some ⟨g, 0, none⟩)]
def blk (v : Value) : List Nat := v.ownBlock.toList
/-- Doors in a list. -/
structure Doors (B0 : Nat) (w : World) (l : Value) (gs : List Nat) (D : DoorV) : Prop where
  own : OwnR 29 1 w B0 l (ptrs gs)
  doors : ∀ g ∈ gs, DoorIs w (blk l ++ gs) g D
  lo : ∀ g ∈ gs, B0 ≤ g
  nd : (blk l ++ gs).Nodup
theorem Doors.step {B0 : Nat} {w w2 w3 w4 : World} {l l' : Value} {gs : List Nat} {D : DoorV} {g : Nat} {o : Obj} (h : Doors B0 w l gs D) (hB : B0 ≤ w.heap.size) (hx2 : Ext w w2) (hx3 : Ext w2 w3) (hg1 : w2.heap.size ≤ g) (hg2 : g < w3.heap.size)
    (hd : ∀ S : List Nat, g ∈ S → (∀ x ∈ S, x = g ∨ x < w2.heap.size) → DoorIs w3 S g D) (ho : OwnR 29 1 w4 B0 l' (ptrs gs ++ [[.pointer (some ⟨g, 0, none⟩)]])) (hg : (w3.alloc o).grownBy w4 l.ownBlock)
    (hl : l'.ownBlock = l.ownBlock ∨ l'.ownBlock = some (w3.alloc o).heap.size) : Doors B0 w4 l' (gs ++ [g]) D := by
  have hs2 : w.heap.size ≤ w2.heap.size := Ext.size hx2
  have hs3 : w2.heap.size ≤ w3.heap.size := Ext.size hx3
  have hsa : (w3.alloc o).heap.size = w3.heap.size + 1 := by simp
  have hs4 : w3.heap.size + 1 ≤ w4.heap.size := by rw [← hsa]; exact World.grownBy.size hg
  have hbl : ∀ x ∈ blk l, x < w.heap.size := fun x hx => (World.ownsRow.lt h.own.1 x (by simpa [blk] using hx)).2
  have hgl : ∀ x ∈ gs, x < w.heap.size := fun x hx => by
    obtain ⟨K, fv, hd1⟩ := h.doors x hx
    exact hd1.box.lt
  have hbl' : ∀ x ∈ blk l', x ∈ blk l ∨ x = w3.heap.size + 1 := fun x hx => by
    have hx' : l'.ownBlock = some x := by simpa [blk] using hx
    rcases hl with h1 | h1
    · left; simp [blk, ← h1, hx']
    · right; rw [hx', hsa] at h1; injection h1
  have hbl4 : ∀ x ∈ blk l', x < w4.heap.size := fun x hx => (World.ownsRow.lt ho.1 x (by simpa [blk] using hx)).2
  -- behind the new door
  have h3 : ∀ x ∈ gs ++ [g], DoorIs (w3.alloc o) (blk l ++ (gs ++ [g])) x D := fun x hx => by
    rcases List.mem_append.1 hx with hx | hx
    · obtain ⟨K, fv, hd1⟩ := h.doors x hx
      refine ⟨K, fv, hd1.more (fun y hy => ?_) ((hx2.trans hx3).alloc o) (fun y hy => ?_) (fun y hy => ?_)⟩
      · rcases List.mem_append.1 hy with hy | hy
        · left; exact List.mem_append_left _ hy
        · rcases List.mem_append.1 hy with hy | hy
          · left; exact List.mem_append_right _ hy
          · right; have : y = g := by simpa using hy
            omega
      · rw [hsa]
        rcases List.mem_append.1 hy with hy | hy
        · have := hbl y hy; omega
        · rcases List.mem_append.1 hy with hy | hy
          · have := hgl y hy; omega
          · have : y = g := by simpa using hy
            omega
      · rcases List.mem_append.1 hy with hy | hy
        · exact List.mem_append_left _ hy
        · exact List.mem_append_right _ (List.mem_append_left _ hy)
    · have e : x = g := by simpa using hx
      subst e
      refine (hd _ (by simp) (fun y hy => ?_)).ext ((Ext.refl w3).alloc o)
      rcases List.mem_append.1 hy with hy | hy
      · right; have := hbl y hy; omega
      · rcases List.mem_append.1 hy with hy | hy
        · right; have := hgl y hy; omega
        · left; simpa using hy
  have hS : ∀ y ∈ blk l' ++ (gs ++ [g]), y ∈ blk l ++ (gs ++ [g]) ∨ (w3.alloc o).heap.size ≤ y := fun y hy => by
    rcases List.mem_append.1 hy with hy | hy
    · rcases hbl' y hy with h1 | h1
      · left; exact List.mem_append_left _ h1
      · right; rw [hsa]; omega
    · left; exact List.mem_append_right _ hy
  have hlt : ∀ y ∈ blk l' ++ (gs ++ [g]), y < w4.heap.size := fun y hy => by
    rcases List.mem_append.1 hy with hy | hy
    · exact hbl4 y hy
    · rcases List.mem_append.1 hy with hy | hy
      · have := hgl y hy; omega
      · have : y = g := by simpa using hy
        omega
  refine ⟨by unfold ptrs at ho ⊢; rw [List.map_append]; exact ho, fun x hx => ?_, fun x hx => ?_, ?_⟩
  · obtain ⟨K, fv, hd1⟩ := h3 x hx
    cases hq : l.ownBlock with
    | none =>
      have hx4 : Ext (w3.alloc o) w4 := ⟨hg.os, hg.tape, hg.output, hg.size, fun i hi => hg.block i hi (by rw [hq]; simp)⟩
      refine ⟨K, fv, hd1.more hS hx4 hlt (fun y hy => ?_)⟩
      rcases List.mem_append.1 hy with hy | hy
      · simp [blk, hq] at hy
      · exact List.mem_append_right _ hy
    | some L =>
      have hO : On L (w3.alloc o) w4 := by rw [hq] at hg; exact hg
      have hL : L ∈ blk l := by simp [blk, hq]
      refine ⟨K, fv, hd1.onMore hO (List.mem_append_left _ hL) (fun e => ?_) hS hlt (List.mem_append_right _ hx)⟩
      subst e
      rcases List.mem_append.1 hx with hx | hx
      · exact (List.nodup_append.1 h.nd).2.2 x hL x hx rfl
      · have e2 : x = g := by simpa using hx
        have := hbl x hL
        omega
  · rcases List.mem_append.1 hx with hx | hx
    · exact h.lo x hx
    · have : x = g := by simpa using hx
      omega
  · have hn1 := List.nodup_append.1 h.nd
    refine List.nodup_append.2 ⟨?_, List.nodup_append.2 ⟨hn1.2.1, by simp, ?_⟩, ?_⟩
    · unfold blk
      cases l'.ownBlock <;> simp
    · intro x hx y hy e
      have e2 : y = g := by simpa using hy
      have := hgl x hx
      omega
    · intro x hx y hy e
      subst e
      rcases List.mem_append.1 hy with hy | hy
      · rcases hbl' x hx with h1 | h1
        · exact hn1.2.2 x h1 x hy rfl
        · have := hgl x hy; omega
      · have e2 : x = g := by simpa using hy
        rcases hbl' x hx with h1 | h1
        · have := hbl x h1; omega
        · omega
end Go.Proofs.Ytbodppfpmpmadaa
/- Logins: the worked examples of the chapter: what stands between two packets. -/
namespace Go.Proofs.Ytbodppfpmpmadaa
open Go.RowKit

/-- The blocks of four doors and of their list; the response. -/
structure Four where
  L : Nat
  g0 : Nat
  g1 : Nat
  g2 : Nat
  g3 : Nat
  A : Option Addr
  c : Nat
  w0 : World
def Four.S (G : Four) : List Nat := [G.L, G.g0, G.g1, G.g2, G.g3]
structure FourOk (G : Four) : Prop where
  nd : G.S.Nodup
  r : ∀ b, (Value.slice G.A 20 G.c).ownBlock = some b → b ≠ G.g0 ∧ b ≠ G.g1 ∧ b ≠ G.g2 ∧ b ≠ G.g3
  lo : ∀ x ∈ G.S, G.w0.heap.size ≤ x
/-- Four doors, the response, the answers that were heard. -/
structure StF (G : Four) (w : World) (D0 D1 D2 D3 : DoorV) (Ls : List (Value × List (List UInt8))) : Prop where
  d0 : DoorIs w G.S G.g0 D0
  d1 : DoorIs w G.S G.g1 D1
  d2 : DoorIs w G.S G.g2 D2
  d3 : DoorIs w G.S G.g3 D3
  p0 : w.cell? ⟨G.L, 0, none⟩ = some (.pointer (some ⟨G.g0, 0, none⟩))
  p1 : w.cell? ⟨G.L, 1, none⟩ = some (.pointer (some ⟨G.g1, 0, none⟩))
  p2 : w.cell? ⟨G.L, 2, none⟩ = some (.pointer (some ⟨G.g2, 0, none⟩))
  p3 : w.cell? ⟨G.L, 3, none⟩ = some (.pointer (some ⟨G.g3, 0, none⟩))
  r : Rd w (.slice G.A 20 G.c) rN
  ls : ∀ p ∈ Ls, ∃ base, (∀ g ∈ G.S, g < base) ∧ ListsN w base p.1 p.2
  x : Ext G.w0 w
theorem ListsN.ext {w w' : World} {base : Nat} {v : Value} {ls : List (List UInt8)} (h : ListsN w base v ls) (k : Ext w w') : ListsN w' base v ls := by
  obtain ⟨A, cap, h1, h2, h3, h4⟩ := h
  refine ⟨A, cap, h1, h2, h3, fun hn => ?_⟩
  obtain ⟨b, o, hA, hb, hc⟩ := h4 hn
  refine ⟨b, o, hA, hb, fun j hj => ?_⟩
  obtain ⟨u, hu, ho⟩ := hc j hj
  exact ⟨u, k.cell hu, ho.ext k⟩
theorem StF.ext {G : Four} {w w' : World} {D0 D1 D2 D3 : DoorV} {Ls : List (Value × List (List UInt8))} (h : StF G w D0 D1 D2 D3 Ls) (k : Ext w w') : StF G w' D0 D1 D2 D3 Ls :=
  ⟨h.d0.ext k, h.d1.ext k, h.d2.ext k, h.d3.ext k, k.cell h.p0, k.cell h.p1, k.cell h.p2, k.cell h.p3, h.r.ext k, fun p hp => by
    obtain ⟨base, h1, h2⟩ := h.ls p hp
    exact ⟨base, h1, h2.ext k⟩, h.x.trans k⟩
theorem FourOk.ne {G : Four} (h : FourOk G) : G.L ≠ G.g0 ∧ G.L ≠ G.g1 ∧ G.L ≠ G.g2 ∧ G.L ≠ G.g3 ∧ G.g0 ≠ G.g1 ∧ G.g0 ≠ G.g2 ∧ G.g0 ≠ G.g3 ∧ G.g1 ≠ G.g2 ∧ G.g1 ≠ G.g3 ∧ G.g2 ≠ G.g3 := by
  have := h.nd
  unfold Four.S at this
  simp only [List.nodup_cons, List.mem_cons, List.not_mem_nil, or_false, not_or] at this
  obtain ⟨⟨a1, a2, a3, a4⟩, ⟨b1, b2, b3⟩, ⟨c1, c2⟩, d1, _⟩ := this
  exact ⟨a1, a2, a3, a4, b1, b2, b3, c1, c2, d1⟩
theorem DoorIs.lt {w : World} {S : List Nat} {g : Nat} {D : DoorV} (h : DoorIs w S g D) : ∀ x ∈ S, x < w.heap.size := by
  obtain ⟨K, fv, h⟩ := h
  exact h.lt
theorem lists_kept {G : Four} {w w' : World} {g : Nat} {Ls : List (Value × List (List UInt8))} (h : ∀ p ∈ Ls, ∃ base, (∀ g ∈ G.S, g < base) ∧ ListsN w base p.1 p.2) (hg : g ∈ G.S) (k : On g w w') {v : Value} {ls : List (List UInt8)} (hlt : ∀ x ∈ G.S, x < w.heap.size) (hl : ListsN w' w.heap.size v ls) :
    ∀ p ∈ (v, ls) :: Ls, ∃ base, (∀ g ∈ G.S, g < base) ∧ ListsN w' base p.1 p.2 := fun p hp => by
  rcases List.mem_cons.1 hp with rfl | hp
  · exact ⟨_, hlt, hl⟩
  · obtain ⟨base, h1, h2⟩ := h p hp
    exact ⟨base, h1, h2.on k (h1 g hg)⟩
theorem StF.fed0 {G : Four} {w w' : World} {D0 D1 D2 D3 D : DoorV} {Ls : List (Value × List (List UInt8))} (h : StF G w D0 D1 D2 D3 Ls) (ok : FourOk G) (k : On G.g0 w w') {v : Value} {ls : List (List UInt8)} (hl : ListsN w' w.heap.size v ls) (hd : DoorIs w' G.S G.g0 D) : StF G w' D D1 D2 D3 ((v, ls) :: Ls) := by
  have hm : G.g0 ∈ G.S := by simp [Four.S]
  obtain ⟨a1, a2, a3, a4, b1, b2, b3, c1, c2, e1⟩ := ok.ne
  exact ⟨hd, h.d1.on k hm (Ne.symm b1), h.d2.on k hm (Ne.symm b2), h.d3.on k hm (Ne.symm b3), k.cell h.p0 a1, k.cell h.p1 a1, k.cell h.p2 a1, k.cell h.p3 a1, h.r.on k (fun e => (ok.r _ e).1 rfl), lists_kept h.ls hm k h.d0.lt hl, h.x.on k (ok.lo _ hm)⟩
theorem StF.fed1 {G : Four} {w w' : World} {D0 D1 D2 D3 D : DoorV} {Ls : List (Value × List (List UInt8))} (h : StF G w D0 D1 D2 D3 Ls) (ok : FourOk G) (k : On G.g1 w w') {v : Value} {ls : List (List UInt8)} (hl : ListsN w' w.heap.size v ls) (hd : DoorIs w' G.S G.g1 D) : StF G w' D0 D D2 D3 ((v, ls) :: Ls) := by
  have hm : G.g1 ∈ G.S := by simp [Four.S]
  obtain ⟨a1, a2, a3, a4, b1, b2, b3, c1, c2, e1⟩ := ok.ne
  exact ⟨h.d0.on k hm b1, hd, h.d2.on k hm (Ne.symm c1), h.d3.on k hm (Ne.symm c2), k.cell h.p0 a2, k.cell h.p1 a2, k.cell h.p2 a2, k.cell h.p3 a2, h.r.on k (fun e => (ok.r _ e).2.1 rfl), lists_kept h.ls hm k h.d0.lt hl, h.x.on k (ok.lo _ hm)⟩
theorem StF.fed2 {G : Four} {w w' : World} {D0 D1 D2 D3 D : DoorV} {Ls : List (Value × List (List UInt8))} (h : StF G w D0 D1 D2 D3 Ls) (ok : FourOk G) (k : On G.g2 w w') {v : Value} {ls : List (List UInt8)} (hl : ListsN w' w.heap.size v ls) (hd : DoorIs w' G.S G.g2 D) : StF G w' D0 D1 D D3 ((v, ls) :: Ls) := by
  have hm : G.g2 ∈ G.S := by simp [Four.S]
  obtain ⟨a1, a2, a3, a4, b1, b2, b3, c1, c2, e1⟩ := ok.ne
  exact ⟨h.d0.on k hm b2, h.d1.on k hm c1, hd, h.d3.on k hm (Ne.symm e1), k.cell h.p0 a3, k.cell h.p1 a3, k.cell h.p2 a3, k.cell h.p3 a3, h.r.on k (fun e => (ok.r _ e).2.2.1 rfl), lists_kept h.ls hm k h.d0.lt hl, h.x.on k (ok.lo _ hm)⟩
theorem StF.fed3 {G : Four} {w w' : World} {D0 D1 D2 D3 D : DoorV} {Ls : List (Value × List (List UInt8))} (h : StF G w D0 D1 D2 D3 Ls) (ok : FourOk G) (k : On G.g3 w w') {v : Value} {ls : List (List UInt8)} (hl : ListsN w' w.heap.size v ls) (hd : DoorIs w' G.S G.g3 D) : StF G w' D0 D1 D2 D ((v, ls) :: Ls) := by
  have hm : G.g3 ∈ G.S := by simp [Four.S]
  obtain ⟨a1, a2, a3, a4, b1, b2, b3, c1, c2, e1⟩ := ok.ne
  exact ⟨h.d0.on k hm b3, h.d1.on k hm c2, h.d2.on k hm e1, hd, k.cell h.p0 a4, k.cell h.p1 a4, k.cell h.p2 a4, k.cell h.p3 a4, h.r.on k (fun e => (ok.r _ e).2.2.2 rfl), lists_kept h.ls hm k h.d0.lt hl, h.x.on k (ok.lo _ hm)⟩
/-- '[]byte("no")'. -/
theorem conv_no (w : World) : (convert 23 23 (.slice (some ⟨w.heap.size, 0, none⟩) 2 2)).run Try.prog (w.alloc (.cells #[.int .u8 110, .int .u8 111] 5)).drew = .ok (.slice (some ⟨w.heap.size, 0, none⟩) 2 2) (w.drew.alloc (.cells #[.int .u8 110, .int .u8 111] 5 (2, 3))) :=
  Lib.run_convert_bytes_const w.drew 23 5 #[.int .u8 110, .int .u8 111] 2 2 bt.sl bt.el
theorem conv_no2 (w : World) : (convert 23 23 (.slice (some ⟨w.heap.size, 0, none⟩) 2 2)).run Try.prog (w.drew.alloc (.cells #[.int .u8 110, .int .u8 111] 5)) = .ok (.slice (some ⟨w.heap.size, 0, none⟩) 2 2) (w.drew.alloc (.cells #[.int .u8 110, .int .u8 111] 5 (2, 3))) :=
  Lib.run_convert_bytes_const w.drew 23 5 #[.int .u8 110, .int .u8 111] 2 2 bt.sl bt.el
theorem rd_no (w : World) : Rd (w.drew.alloc (.cells #[.int .u8 110, .int .u8 111] 5 (2, 3))) (.slice (some ⟨w.heap.size, 0, none⟩) 2 2) [110, 111] := by
  refine ⟨_, 2, rfl, Nat.le_refl _, by unfold maxLen; omega, (fun h => by cases h), fun _ => ⟨_, 0, rfl, fun j hj => ?_⟩⟩
  rw [Nat.zero_add]
  have e := World.cell?_alloc_mark w.drew #[.int .u8 110, .int .u8 111] 5 (2, 3) j
  have hj2 : j = 0 ∨ j = 1 := by simp at hj; omega
  rcases hj2 with rfl | rfl <;> exact e.trans rfl
theorem first_of {w : World} {base : Nat} {v : Value} {x : UInt8} {l t : List UInt8} {k : Int} (h : ListsN w base v [l]) (hl : l = x :: t) (hk : (x.toNat : Int) = k) :
    Calls Try.prog 12 #[v] w fun e w' => e = .returned (.int .i64 k) ∧ w = w' := by
  subst hl hk
  exact first27_c w v x t [] h.lists
theorem first_refused {w : World} {base : Nat} {v : Value} (h : ListsN w base v [refusedL]) : Calls Try.prog 12 #[v] w fun e w' => e = .returned (.int .i64 255) ∧ w = w' := by
  obtain ⟨t, ht⟩ := refusedL_head
  exact first_of h ht rfl
theorem first_odd {w : World} {base : Nat} {v : Value} (h : ListsN w base v [oddL]) : Calls Try.prog 12 #[v] w fun e w' => e = .returned (.int .i64 255) ∧ w = w' := by
  obtain ⟨t, ht⟩ := oddL_head
  exact first_of h ht rfl
theorem first_switch {w : World} {base : Nat} {v : Value} (h : ListsN w base v [switchB (natL, nonceT)]) : Calls Try.prog 12 #[v] w fun e w' => e = .returned (.int .i64 254) ∧ w = w' := by
  obtain ⟨t, ht⟩ := switchL_head
  exact first_of h ht rfl
theorem first_ok {w : World} {base : Nat} {v : Value} (h : ListsN w base v [okL 565760]) : Calls Try.prog 12 #[v] w fun e w' => e = .returned (.int .i64 0) ∧ w = w' := by
  obtain ⟨t, ht⟩ := okL_head
  exact first_of h ht rfl
/-- Behind the loop. -/
theorem Doors.four {B0 : Nat} {w : World} {l : Value} {gs : List Nat} {D : DoorV} (h : Doors B0 w l gs D) (h4 : gs.length = 4) (A : Option Addr) (c : Nat) (hr : Rd w (.slice A 20 c) rN) (hb : ∀ b, (Value.slice A 20 c).ownBlock = some b → b < B0) (w0 : World) (hx0 : Ext w0 w) (hB : w0.heap.size ≤ B0) :
    ∃ (G : Four) (cap : Nat), l = .slice (some ⟨G.L, 0, none⟩) 4 cap ∧ G.A = A ∧ G.c = c ∧ G.w0 = w0 ∧ FourOk G ∧ StF G w D D D D [] := by
  obtain ⟨g0, g1, g2, g3, rfl⟩ : ∃ a b c d, gs = [a, b, c, d] := by
    rcases gs with _ | ⟨a, _ | ⟨b, _ | ⟨c, _ | ⟨d, _ | ⟨e, r⟩⟩⟩⟩⟩ <;> simp at h4
    exact ⟨a, b, c, d, rfl⟩
  have hown := h.own
  rcases h.own.1.2 with ⟨_, h0⟩ | ⟨L, cap, cur, hv, hbL, hgL, hn, hm, hs, ht⟩
  · simp [ptrs] at h0
  · have hlen : (ptrs [g0, g1, g2, g3]).length = 4 := rfl
    rw [hlen] at hv
    have hcell : ∀ i g, (ptrs [g0, g1, g2, g3]).flatten[i]? = some (.pointer (some ⟨g, 0, none⟩)) → w.cell? ⟨L, i, none⟩ = some (.pointer (some ⟨g, 0, none⟩)) := fun i g hi => by
      have := World.ownsRow.cells hown.1 (g := L) (by rw [hv]; rfl) i _ hi
      rwa [addr0] at this
    have hbk : blk l = [L] := by rw [hv]; rfl
    have hd := h.doors
    have hnd := h.nd
    rw [hbk] at hd hnd
    have hlo : ∀ x ∈ [L, g0, g1, g2, g3], w0.heap.size ≤ x := fun x hx => by
      have hx' : x = L ∨ x ∈ [g0, g1, g2, g3] := by simpa using hx
      rcases hx' with rfl | hx'
      · exact Nat.le_trans hB hbL
      · exact Nat.le_trans hB (h.lo x hx')
    refine ⟨⟨L, g0, g1, g2, g3, A, c, w0⟩, cap, hv, rfl, rfl, rfl, ⟨hnd, fun b hb9 => ?_, hlo⟩, ⟨hd g0 (by simp), hd g1 (by simp), hd g2 (by simp), hd g3 (by simp), hcell 0 g0 rfl, hcell 1 g1 rfl, hcell 2 g2 rfl, hcell 3 g3 rfl, hr, fun p hp => by simp at hp, hx0⟩⟩
    have h1 := hb b hb9
    have k0 := h.lo g0 (by simp)
    have k1 := h.lo g1 (by simp)
    have k2 := h.lo g2 (by simp)
    have k3 := h.lo g3 (by simp)
    dsimp only
    omega
end Go.Proofs.Ytbodppfpmpmadaa
/- Logins: the worked examples of the chapter come out as they are written. -/
namespace Go.Proofs.Ytbodppfpmpmadaa
open Go.RowKit

theorem d1N_fit (h : List UInt8) (st : Int) (nx : Nat) : DoorFit (d1N h st nx) := ⟨(d0N_fit h).us, ⟨by show [112, 119].length ≤ 64; decide, by show natL.length ≤ 100; decide, by show natL.contains 0 = false; decide⟩, (d0N_fit h).n⟩
theorem d2N_fit (h : List UInt8) (st : Int) : DoorFit (d2N h st) := ⟨(d0N_fit h).us, fitU_zero, (d0N_fit h).n⟩
set_option maxRecDepth 100000 in
set_option maxHeartbeats 4000000 in
theorem loginNames_c (w : World) : Calls Try.prog 3 #[] w fun e w' => e = .returned (.bool true) ∧ Ext w w' := by
  obtain ⟨H, hH⟩ : ∃ H, H = greetBs [56] 1 nonceT 565760 45 2 natL := ⟨_, rfl⟩
  have HH := Lib.hid hH
  obtain ⟨F0, hF0⟩ : ∃ F, F = ansL [117] natL [110, 111] := ⟨_, rfl⟩
  have HF0 := Lib.hid hF0
  have HE0 := Lib.hid (show feedP (d0N H) F0 = ([refusedL], 0, d1N H 3 0) by rw [hF0]; exact ex_wrong H)
  have HL0 := Lib.hid (show F0.length ≤ 900000 by rw [hF0]; decide +kernel)
  obtain ⟨F1, hF1⟩ : ∃ F, F = ansL [117] fastL [110, 111] := ⟨_, rfl⟩
  have HF1 := Lib.hid hF1
  have HE1 := Lib.hid (show feedP (d0N H) F1 = ([switchB (natL, nonceT)], 0, d1N H 1 1) by rw [hF1]; exact ex_other H)
  have HL1 := Lib.hid (show F1.length ≤ 900000 by rw [hF1]; decide +kernel)
  obtain ⟨F2, hF2⟩ : ∃ F, F = ansL [120] natL rN := ⟨_, rfl⟩
  have HF2 := Lib.hid hF2
  have HE2 := Lib.hid (show feedP (d0N H) F2 = ([switchB (natL, nonceT)], 0, d2N H 1) by rw [hF2]; exact ex_nobody H)
  have HL2 := Lib.hid (show F2.length ≤ 900000 by rw [hF2]; decide +kernel)
  have HRL := Lib.hid rN_len
  clear hH hF0 hF1 hF2
  go_enter Try.func3, Try.ntmps3
  go_wp2_with (first
    | (go_at_call 4; refine (lives27_c _).mono ?_; rintro e w1 ⟨rfl, hx1⟩)
    | (go_at_call 6; refine (nonce27_c _).mono ?_; rintro e w4 ⟨v4, rfl, ho4, hx4⟩)
    | (go_at_call 5; refine (ntvN_c _ _ ho4.rd).mono ?_; rintro e w5 ⟨A5, c5, rfl, hr5, hx5⟩)
    | fail)
  have hX5 := (hx1.trans hx4).trans hx5
  have HR5 := Lib.hid hr5
  have HX5 := Lib.hid hX5
  clear hx1 hx4 hx5 hr5 hX5 ho4
  have hD0 : Doors w5.heap.size w5 (.slice none 0 0) [] (d0N H) := ⟨OwnR.nil _ _ _ _, fun g hg => by simp at hg, fun g hg => by simp at hg, by simp [blk, Value.ownBlock]⟩
  go_loopw [3, 4, 5, 6] (fun l i _ _ W => ∃ gs : List Nat, gs.length ≤ 4 ∧ i = .int .i64 gs.length ∧ Doors w5.heap.size W l gs (d0N H) ∧ Ext w5 W) (fun _ i _ _ _ => 4 - (intOf i).toNat)
  case atStart => exact ⟨[], by simp, rfl, hD0, Ext.refl _⟩
  case round =>
    clear hD0
    obtain ⟨gs, hk, rfl, hD, hx⟩ := hrel
    obtain ⟨k, hkk⟩ : ∃ k, k = gs.length := ⟨_, rfl⟩
    rw [← hkk] at hk ⊢
    have HK := Lib.hid hkk
    have HD := Lib.hid hD
    have HX := Lib.hid hx
    clear hkk hD hx
    by_cases hk4 : k < 4
    · have hb : (k : Int) < 4 := by omega
      go_wp2_with (first
        | (go_at_call 8; refine (user27_c _).mono ?_; rintro e w1 ⟨rfl, hx1⟩)
        | (go_at_call 9; refine (greeting27_c _).mono ?_; rintro e w2 ⟨A2, c2, rfl, hr2, hx2⟩)
        | (go_at_call 7; refine (newN_c _ _ A2 c2 ((recs_one w1 userN _).ext hx2) hr2).mono ?_; rw [← HH.out]; rintro e w3 ⟨g, rfl, hg1, hg2, hx3, hd3⟩; have hX2 : Ext wr w2 := (hx1.alloc _).trans hx2)
        | ((with_reducible show wpList _ _ _ (⟨some 56, _, _, _, _, _⟩ :: _) _ _); go_loud (refine wpl_append_at (sz := 1) (z := .pointer none) (bytes := 8) Try.underlying28 (by kernel_rfl) (by kernel_rfl) (by omega) (by omega) (HD.out.own.ext (hX2.trans hx3)) [.pointer (some ⟨g, 0, none⟩)] rfl (by kernel_rfl) rfl _ _ rfl rfl _ rfl rfl (by have := HK.out; simp [ptrs]; omega) (Nat.le_trans (Ext.size HX.out) (Ext.size (hX2.trans hx3))) ?_; intro v6 w6 ho6 hg6 hl6))
        | fail)
      go_roundw
      case rel =>
        have hD6 := HD.out.step (Ext.size HX.out) hX2 hx3 hg1 hg2 hd3 ho6 hg6 hl6
        have hx6 : Ext w5 w6 := (Below.grown ((HX.out.trans (hX2.trans hx3)).alloc _) hg6 (Ext.size ((HX.out.trans (hX2.trans hx3)).alloc _)) (fun b hb9 => (World.ownsRow.lt HD.out.own.1 b hb9).1))
        exact ⟨gs ++ [g], by rw [List.length_append, ← HK.out]; simp; omega, by rw [List.length_append, ← HK.out]; go_num, hD6, hx6⟩
      case measure => simp [intOf]; omega
    · obtain rfl : k = 4 := by omega
      have hb : ¬ ((4 : Nat) : Int) < 4 := by omega
      obtain ⟨G, cap, rfl, hA, hc, hw0, hok, hst⟩ := HD.out.four HK.out.symm A5 c5 (HR5.out.ext HX.out) (fun b hb9 => by
        obtain ⟨A', cap', hv, _, _, _, hz⟩ := HR5.out
        obtain ⟨b', o', rfl, hcs⟩ := hz (by intro e; have := HRL.out; rw [e] at this; cases this)
        injection hv with e1 e2 e3
        subst e1
        have e : b' = b := by simpa [Value.ownBlock] using hb9
        subst e
        exact World.block_lt_of_cell? _ _ (hcs 0 (by rw [HRL.out]; decide))) w5 HX.out (Nat.le_refl _)
      subst hA hc
      have HOK := Lib.hid hok
      have HST := Lib.hid hst
      have HW0 := Lib.hid hw0
      clear hok hst hw0
      go_wp2_with fail
      clear hb hk hk4 HK HX HD HR5
      go_wp2_with fail
      go_cut [7, 8] from 57 to 66 (fun v7 _ wx => StF G wx (d1N H 3 0) (d0N H) (d0N H) (d0N H) [(v7, [refusedL])])
      case first =>
        rename_i J9 K9 hJ9 hK9
        have HJ9 := Lib.hid hJ9
        clear hJ9
        have P1 := HST.out.p0
        have P1d : wr.drew.cell? ⟨G.L, 0, none⟩ = some (.pointer (some ⟨G.g0, 0, none⟩)) := P1
        have P1a : ∀ o, (wr.alloc o).drew.cell? ⟨G.L, 0, none⟩ = some (.pointer (some ⟨G.g0, 0, none⟩)) := fun o => Ext.cell ((Ext.refl _).alloc o).drew P1
        have P1b : ∀ o, (wr.drew.alloc o).cell? ⟨G.L, 0, none⟩ = some (.pointer (some ⟨G.g0, 0, none⟩)) := fun o => Ext.cell ((Ext.refl _).drew.alloc o) P1
        have hcv := conv_no wr
        have hcv2 := conv_no2 wr
        go_region_with (first
          | (go_at_call 11; go_must (refine (answer27_c _ [117] natL [110, 111] _ (rd_no wr) (by decide) (by decide) (by decide) (by decide) (by decide)).mono ?_; rw [← HF0.out]; rintro e wa1 ⟨va1, rfl, hoa1, hxa1⟩; have hY1 : Ext wr wa1 := ((Ext.refl _).drew.alloc _).trans hxa1; have pa1 := hY1.cell P1))
          | (go_at_call 10; go_must (refine (feed_d _ G.S G.g0 (d0N H) F0 _ (HST.out.d0.ext hY1) hoa1.rd HL0.out (d0N_fit H)).mono ?_; rw [HE0.out]; rintro e wb1 ⟨vb1, rfl, hlb1, hdb1, hOb1⟩; have HS1 := Lib.hid ((HST.out.ext hY1).fed0 HOK.out hOb1 hlb1 hdb1); have pb1 := HS1.out.p0))
          | fail)
        all_goals
          clear P1 P1d P1a P1b hcv hcv2
          go_wp2_with fail
          have hJ9 := HJ9.out
          go_meet
          exact HS1.out
      case rest =>
      rename World => wb1
      have HS1 := Lib.hid hcut
      clear hcut
      go_wp2_with fail
      go_cut [9, 10] from 67 to 76 (fun v9 _ wx => StF G wx (d1N H 3 0) (d1N H 1 1) (d0N H) (d0N H) [(v9, [switchB (natL, nonceT)]), (u7, [refusedL])])
      case first =>
        rename_i J9 K9 hJ9 hK9
        have HJ9 := Lib.hid hJ9
        clear hJ9
        have P2 := HS1.out.p1
        have P2d : wb1.drew.cell? ⟨G.L, 1, none⟩ = some (.pointer (some ⟨G.g1, 0, none⟩)) := P2
        have P2a : ∀ o, (wb1.alloc o).drew.cell? ⟨G.L, 1, none⟩ = some (.pointer (some ⟨G.g1, 0, none⟩)) := fun o => Ext.cell ((Ext.refl _).alloc o).drew P2
        have P2b : ∀ o, (wb1.drew.alloc o).cell? ⟨G.L, 1, none⟩ = some (.pointer (some ⟨G.g1, 0, none⟩)) := fun o => Ext.cell ((Ext.refl _).drew.alloc o) P2
        have hcv := conv_no wb1
        have hcv2 := conv_no2 wb1
        go_region_with (first
          | (go_at_call 11; go_must (refine (answer27_c _ [117] fastL [110, 111] _ (rd_no wb1) (by decide) (by decide) (by decide) (by decide) (by decide)).mono ?_; rw [← HF1.out]; rintro e wa2 ⟨va2, rfl, hoa2, hxa2⟩; have hY2 : Ext wb1 wa2 := ((Ext.refl _).drew.alloc _).trans hxa2; have pa2 := hY2.cell P2))
          | (go_at_call 10; go_must (refine (feed_d _ G.S G.g1 (d0N H) F1 _ (HS1.out.d1.ext hY2) hoa2.rd HL1.out (d0N_fit H)).mono ?_; rw [HE1.out]; rintro e wb2 ⟨vb2, rfl, hlb2, hdb2, hOb2⟩; have HS2 := Lib.hid ((HS1.out.ext hY2).fed1 HOK.out hOb2 hlb2 hdb2); have pb2 := HS2.out.p1))
          | fail)
        all_goals
          clear P2 P2d P2a P2b hcv hcv2
          go_wp2_with fail
          have hJ9 := HJ9.out
          go_meet
          exact HS2.out
      case rest =>
      rename World => wb2
      have HS2 := Lib.hid hcut
      clear hcut
      have P3 := HS2.out.p1
      have hY3 := Ext.refl wb2
      go_wp2_with (first
        | (go_at_call 10; (refine (feed_d _ G.S G.g1 (d1N H 1 1) rN _ (HS2.out.d1.ext hY3) HS2.out.r (by rw [HRL.out]; decide) (d1N_fit H 1 1)).mono ?_; rw [ex_other2 H]; rintro e wb3 ⟨vb3, rfl, hlb3, hdb3, hOb3⟩; have HS3 := Lib.hid ((HS2.out.ext hY3).fed1 HOK.out hOb3 hlb3 hdb3); have pb3 := HS3.out.p1))
        | fail)
      clear P3  pb3 hY3 hlb3 hdb3 hOb3
      (try clear pa3 hxa3 hoa3)
      have P4 := HS3.out.p2
      have P4d : wb3.drew.cell? ⟨G.L, 2, none⟩ = some (.pointer (some ⟨G.g2, 0, none⟩)) := P4
      have P4a : ∀ o, (wb3.alloc o).drew.cell? ⟨G.L, 2, none⟩ = some (.pointer (some ⟨G.g2, 0, none⟩)) := fun o => Ext.cell ((Ext.refl _).alloc o).drew P4
      have P4b : ∀ o, (wb3.drew.alloc o).cell? ⟨G.L, 2, none⟩ = some (.pointer (some ⟨G.g2, 0, none⟩)) := fun o => Ext.cell ((Ext.refl _).drew.alloc o) P4
      go_region_held3 (fun W' => W'.cell? ⟨G.L, 2, none⟩ = some (.pointer (some ⟨G.g2, 0, none⟩)))
        ((first | with_reducible exact P4 | with_reducible exact P4d | with_reducible exact (P4a _) | with_reducible exact (P4b _) | with_reducible exact pa4 | with_reducible exact pb4 | fail))
        (first
          | (go_at_call 11; go_must (refine (answer27_c _ [120] natL rN _ (HS3.out.r.ext (Ext.refl _).drew) (by decide) (by decide) (by rw [HRL.out]; decide) (by decide) (by decide)).mono ?_; rw [← HF2.out]; rintro e wa4 ⟨va4, rfl, hoa4, hxa4⟩; have hY4 : Ext wb3 wa4 := (Ext.refl _).drew.trans hxa4; have pa4 := hY4.cell P4))
          | (go_at_call 10; go_must (refine (feed_d _ G.S G.g2 (d0N H) F2 _ (HS3.out.d2.ext hY4) hoa4.rd HL2.out (d0N_fit H)).mono ?_; rw [HE2.out]; rintro e wb4 ⟨vb4, rfl, hlb4, hdb4, hOb4⟩; have HS4 := Lib.hid ((HS3.out.ext hY4).fed2 HOK.out hOb4 hlb4 hdb4); have pb4 := HS4.out.p2))
          | fail)
      clear P4 P4d P4a P4b pb4 hY4 hlb4 hdb4 hOb4
      (try clear pa4 hxa4 hoa4)
      have P5 := HS4.out.p2
      have hY5 := Ext.refl wb4
      go_wp2_with (first
        | (have _t := P5; go_at_call 10; (refine (feed_d _ G.S G.g2 (d2N H 1) rN _ (HS4.out.d2.ext hY5) HS4.out.r (by rw [HRL.out]; decide) (d2N_fit H 1)).mono ?_; rw [ex_nobody2 H rN]; rintro e wb5 ⟨vb5, rfl, hlb5, hdb5, hOb5⟩; have HS5 := Lib.hid ((HS4.out.ext hY5).fed2 HOK.out hOb5 hlb5 hdb5); have pb5 := HS5.out.p2; have P6 := HS5.out.p3; have hY6 := Ext.refl wb5; clear P5 hY5))
        | (have _t := P6; go_at_call 10; (refine (feed_d _ G.S G.g3 (d0N H) [] _ (HS5.out.d3.ext hY6) (Rd.nil _) (by decide) (d0N_fit H)).mono ?_; rw [ex_nil H]; rintro e wb6 ⟨vb6, rfl, hlb6, hdb6, hOb6⟩; have HS6 := Lib.hid ((HS5.out.ext hY6).fed3 HOK.out hOb6 hlb6 hdb6); have pb6 := HS6.out.p3; obtain ⟨_, _, l0⟩ := HS6.out.ls (u7, [refusedL]) (by simp); obtain ⟨_, _, l1⟩ := HS6.out.ls (u9, [switchB (natL, nonceT)]) (by simp); obtain ⟨_, _, l2⟩ := HS6.out.ls (vb3, [okL 565760]) (by simp); obtain ⟨_, _, l3⟩ := HS6.out.ls (vb4, [switchB (natL, nonceT)]) (by simp); obtain ⟨_, _, l4⟩ := HS6.out.ls (vb5, [refusedL]) (by simp); obtain ⟨_, _, l5⟩ := HS6.out.ls (vb6, [oddL]) (by simp); obtain ⟨_, _, k0⟩ := HS6.out.d0; have s0 : wb6.cell? ⟨G.g0, 9, none⟩ = some (.int .i64 3) := k0.box.at (j := 9) rfl; have q0 := HS6.out.p0; obtain ⟨_, _, k1⟩ := HS6.out.d1; have s1 : wb6.cell? ⟨G.g1, 9, none⟩ = some (.int .i64 2) := k1.box.at (j := 9) rfl; have q1 := HS6.out.p1; obtain ⟨_, _, k2⟩ := HS6.out.d2; have s2 : wb6.cell? ⟨G.g2, 9, none⟩ = some (.int .i64 3) := k2.box.at (j := 9) rfl; have q2 := HS6.out.p2; obtain ⟨_, _, k3⟩ := HS6.out.d3; have s3 : wb6.cell? ⟨G.g3, 9, none⟩ = some (.int .i64 3) := k3.box.at (j := 9) rfl; have q3 := HS6.out.p3))
        | ((with_reducible show Calls _ _ #[u7] _ _); go_at_call 12; refine (first_refused l0).mono ?_; rintro e wx ⟨rfl, rfl⟩)
        | ((with_reducible show Calls _ _ #[u9] _ _); go_at_call 12; refine (first_switch l1).mono ?_; rintro e wx ⟨rfl, rfl⟩)
        | ((with_reducible show Calls _ _ #[vb3] _ _); go_at_call 12; refine (first_ok l2).mono ?_; rintro e wx ⟨rfl, rfl⟩)
        | ((with_reducible show Calls _ _ #[vb4] _ _); go_at_call 12; refine (first_switch l3).mono ?_; rintro e wx ⟨rfl, rfl⟩)
        | ((with_reducible show Calls _ _ #[vb5] _ _); go_at_call 12; refine (first_refused l4).mono ?_; rintro e wx ⟨rfl, rfl⟩)
        | ((with_reducible show Calls _ _ #[vb6] _ _); go_at_call 12; refine (first_odd l5).mono ?_; rintro e wx ⟨rfl, rfl⟩)
        | ((with_reducible show Calls _ _ #[.pointer (some ⟨G.g0, 0, none⟩)] _ _); go_at_call 13; refine (dstate_c _ G.g0 3 s0).mono ?_; rintro e wx ⟨rfl, rfl⟩)
        | ((with_reducible show Calls _ _ #[.pointer (some ⟨G.g1, 0, none⟩)] _ _); go_at_call 13; refine (dstate_c _ G.g1 2 s1).mono ?_; rintro e wx ⟨rfl, rfl⟩)
        | ((with_reducible show Calls _ _ #[.pointer (some ⟨G.g2, 0, none⟩)] _ _); go_at_call 13; refine (dstate_c _ G.g2 3 s2).mono ?_; rintro e wx ⟨rfl, rfl⟩)
        | ((with_reducible show Calls _ _ #[.pointer (some ⟨G.g3, 0, none⟩)] _ _); go_at_call 13; refine (dstate_c _ G.g3 3 s3).mono ?_; rintro e wx ⟨rfl, rfl⟩)
        | fail)
      go_ret
      have hxe := HS6.out.x
      rw [HW0.out] at hxe
      exact ⟨rfl, HX5.out.trans hxe⟩
end Go.Proofs.Ytbodppfpmpmadaa
