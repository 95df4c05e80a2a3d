/- What is known of a session: the small functions. -/
import Derived.Test.YtdjnjhlgpflcjaaTrG
namespace Go.Proofs.Ytdjnjhlgpflcjaa
open Go.RowKit

section
variable {P : Program} {a : Act} {w : World}
/-- The end of a function that gives an object. -/
theorem ret_one {fn : Func} {R : Ending → World → Prop} {p : Tmp} {ty : TypeId} {g : Nat} {cs : List Value} {d : TypeDesc} (h : fn.results = #[.cell p ty]) (hd : a.defers = [])
    (hp : a.tmps.getD p undef = .pointer (some ⟨g, 0, none⟩)) (B : BoxF w g cs) (hu : P.underlying ty = some d) (hrow : d.isRow = true) (hi : (P.info? ty).map (·.size) = some cs.length)
    (hR : R (.returned (.agg cs.toArray)) w) : bodyPost P fn R .ret a w := by
  refine bodyPost_ret (v := .agg cs.toArray) ?_ hd hR
  have e : (results fn a.tmps).run P w = ((asAddr (a.tmps.getD p undef)).run P w).andThen fun a w₁ => (loadVar ty a).run P w₁ := by
    simp only [results, h]
    simp [Sem.run_bind]
  rw [e, hp]
  simp only [asAddr, Sem.run_pure, Result.andThen_ok, run_loadVar_mid w g 0 ty cs d B.box.range hu hrow hi]
end

/-- What is known of a session, as cells. -/
abbrev trC (s : ByteArray) (vv vt : Value) (tr us lk od : Bool) : List Value := [.string s, vv, vt, .bool tr, .bool us, .bool lk, .bool od]
abbrev nilV : Value := .slice none 0 0

theorem fresh_c (w : World) (s : ByteArray) : Calls Try.prog 11 #[.string s] w fun e w' => e = .returned (.agg (trC s nilV nilV false false false false).toArray) ∧ Ext w w' := by
  go_enter Try.func11, Try.ntmps11
  go_wp2_with fail
  try simp only [Exit.inBlock, Exit.then]
  refine ret_one rfl rfl rfl (BoxF.new w (trC s nilV nilV false false false false) _) Try.underlying35 rfl (by kernel_rfl) ?_
  exact ⟨rfl, (Ext.refl _).alloc _⟩

theorem pinned_c (w : World) (s : ByteArray) (vv : Value) (A : Option Addr) (n c : Nat) (tr us lk od : Bool) :
    Calls Try.prog 13 #[.agg (trC s vv (.slice A n c) tr us lk od).toArray] w fun e w' => e = .returned (.bool (tr || us || lk || od || decide (0 < n))) ∧ Ext w w' := by
  cases tr
  · cases us
    · cases lk
      · cases od
        · by_cases hn : 0 < n
          · have hi : 0 < (n : Int) := by omega
            go_enter Try.func13, Try.ntmps13
            go_wp2_with fail
            go_ret
            exact ⟨by simp [hn], (Ext.refl _).alloc _⟩
          · obtain rfl : n = 0 := by omega
            go_enter Try.func13, Try.ntmps13
            go_wp2_with fail
            go_ret
            exact ⟨by simp, (Ext.refl _).alloc _⟩
        · go_enter Try.func13, Try.ntmps13
          go_wp2_with fail
          go_ret
          exact ⟨rfl, (Ext.refl _).alloc _⟩
      · go_enter Try.func13, Try.ntmps13
        go_wp2_with fail
        go_ret
        exact ⟨rfl, (Ext.refl _).alloc _⟩
    · go_enter Try.func13, Try.ntmps13
      go_wp2_with fail
      go_ret
      exact ⟨rfl, (Ext.refl _).alloc _⟩
  · go_enter Try.func13, Try.ntmps13
    go_wp2_with fail
    go_ret
    exact ⟨rfl, (Ext.refl _).alloc _⟩

theorem BoxF.new1 (w : World) (o : Obj) (cs : List Value) (t : TypeId) : BoxF ((w.alloc o).alloc (.cells cs.toArray t)) (w.heap.size + 1) cs := by
  have := BoxF.new (w.alloc o) cs t
  rwa [show (w.alloc o).heap.size = w.heap.size + 1 by simp] at this
def inTrans (st : Int) : Bool := bits .and .u16 st 1 != 0
set_option maxRecDepth 100000 in
theorem status_c (w : World) (s : ByteArray) (Av At : Option Addr) (nv cv nt ct : Nat) (tr us lk od : Bool) (st : Int) (b : Bool) (hb : inTrans st = b) :
    Calls Try.prog 14 #[.agg (trC s (.slice Av nv cv) (.slice At nt ct) tr us lk od).toArray, .int .u16 st] w fun e w' => e = .returned (.agg (trC s (.slice Av nv cv) (.slice At nt ct) b us lk od).toArray) ∧ Ext w w' := by
  subst hb
  go_enter Try.func14, Try.ntmps14
  go_wp2_with fail
  try simp only [Exit.inBlock, Exit.then]
  refine ret_one rfl rfl rfl (BoxF.new1 w _ (trC s (.slice Av nv cv) (.slice At nt ct) (inTrans st) us lk od) _) Try.underlying35 rfl (by kernel_rfl) ?_
  exact ⟨rfl, ((Ext.refl _).alloc _).alloc _⟩

set_option maxRecDepth 100000 in
theorem bs_nil (w : World) (nm : ByteArray) : Calls Try.prog 37 #[nilV, .string nm] w fun e w' => e = .returned (.tuple #[.int .i64 0, .bool false]) ∧ w = w' := by
  go_enter Try.func37, Try.ntmps37
  go_wp2_with fail
  go_loop [7, 8] (fun i j => i = .int .i64 0 ∧ j = .int .i64 0) (fun _ _ => 0)
  case atStart => exact ⟨rfl, rfl⟩
  case round =>
    obtain ⟨rfl, rfl⟩ := hrel
    go_wp2_with fail
    go_ret2
    exact ⟨rfl, rfl⟩
set_option maxRecDepth 100000 in
theorem bsf_nil (w : World) (nm : ByteArray) (fv : Value) : Calls Try.prog 26 #[nilV, .string nm, fv] w fun e w' => e = .returned (.tuple #[.int .i64 0, .bool false]) ∧ w = w' := by
  go_enter Try.func26, Try.ntmps26
  go_wp2_with fail
  go_loop [9, 10] (fun i j => i = .int .i64 0 ∧ j = .int .i64 0) (fun _ _ => 0)
  case atStart => exact ⟨rfl, rfl⟩
  case round =>
    obtain ⟨rfl, rfl⟩ := hrel
    go_wp2_with fail
    go_ret2
    exact ⟨rfl, rfl⟩
set_option maxRecDepth 100000 in
theorem cloneV_nil (w : World) : Calls Try.prog 42 #[nilV] w fun e w' => e = .returned nilV ∧ w = w' := by
  have hn := fun wx => Lib.run_eql_slice_nil (P := Try.prog) wx 32 54 none 0 0 0 0 Try.underlying32
  go_enter Try.func42, Try.ntmps42
  go_wp2_with fail
  go_ret
  exact ⟨rfl, rfl⟩

section
variable {P : Program} {ops : Array Oper} {rest : List Oper} {o : Oper} {a : Act} {w : World} {Q : Exit → Act → World → Prop}
/-- 'append(l, x...)', where the call owns l and x has one element. -/
theorem wpl_append_row {t sl : TypeId} {sz bytes : Nat} {z : Value} (hsl : P.underlying sl = some (.slice t)) (hinfo : (P.info? t).map (fun i => (i.zero, i.size, i.bytes)) = some (some z, sz, bytes)) (hzs : z.cells.size = sz) (hsz : 0 < sz) (hby : bytes ≤ 100)
    {base : Nat} {v : Value} {rs : List (List Value)} (hown : OwnR t sz w base v rs) (row : List Value) (hrow : row.length = sz) (h1 : row.all (·.oneCell') = true)
    (hgd : o.guard = none) (s x : Operand) (ho : o.op = .call { callee := .builtin .append, args := #[s, x], argTypes := #[sl, sl] })
    (hs : a.eval s = v) (g c : Nat) (hx : a.eval x = .slice (some ⟨g, 0, none⟩) 1 c) (hb : Box w g row) (hlen : rs.length + 1 ≤ 1000000000) (hbase : base ≤ w.heap.size)
    (h : ∀ v' w', OwnR t sz w' base v' (rs ++ [row]) → Below base w w' → wpList P ops Q rest (a.put o.dst v') w') : wpList P ops Q (o :: rest) a w := by
  refine wpList_plain hgd fun K hK => ?_
  obtain ⟨i, hi, hz, hs1, hb1⟩ := info_parts hinfo
  obtain ⟨v', w', hrun, h2, h3, _⟩ := run_append_own (P := P) w base sl o.type t i z sz bytes hsl hi hz hs1 hb1 hzs hsz v rs.length rs.flatten hown.1 ⟨g, 0, none⟩ 1 c row
    (by rw [hrow, Nat.one_mul]) (fun j u hj => by
      have hjl : j < row.length := by
        rcases Nat.lt_or_ge j row.length with h | h
        · exact h
        · rw [List.getElem?_eq_none h] at hj; cases hj
      rw [addr0, hb j hjl, List.getD_eq_getElem?_getD, hj]
      rfl) (fun u hu => by rw [List.all_eq_true] at h1; exact h1 u hu) (by unfold maxLen; omega) (by
        have : (rs.length + 1) * bytes ≤ 1000000000 * 100 := Nat.mul_le_mul hlen hby
        omega) hbase
  have hb' := (Below.refl base w).grown h3 hbase (fun g hg => (World.ownsRow.lt hown.1 g hg).1)
  unfold Oper.wp execOp
  simp only [ho, resolve, invoke, builtin, Sem.run_bind, Sem.run_pure, Result.andThen_ok, List.map_toArray, List.map_cons, List.map_nil, hs, hx, hrun]
  refine hK _ _ (h v' w' ⟨?_, ?_⟩ hb')
  · rw [List.length_append, List.flatten_append, List.flatten_cons, List.flatten_nil, List.append_nil]
    exact h2
  · intro r hr
    rcases List.mem_append.1 hr with h | h
    · exact hown.2 r h
    · simp at h; rw [h]; exact hrow
end
set_option maxRecDepth 100000 in
theorem insert_nil (w : World) (g c : Nat) (n v : ByteArray) (hb : Box w g [.string n, .string v]) :
    Calls Try.prog 43 #[nilV, .int .i64 0, .slice (some ⟨g, 0, none⟩) 1 c] w fun e w' => ∃ v', e = .returned v' ∧ OwnR 54 2 w' w.heap.size v' [[.string n, .string v]] ∧ Ext w w' := by
  have HB := Lib.hid hb
  clear hb
  go_enter Try.func43, Try.ntmps43
  go_wp2_with (at_builtin; refine wpl_append_row (sz := 2) (z := .agg #[.string ByteArray.empty, .string ByteArray.empty]) (bytes := 32) Try.underlying32 (by kernel_rfl) (by kernel_rfl) (by omega) (by omega) (OwnR.nil _ _ _ _) [.string n, .string v] rfl (by kernel_rfl) rfl _ _ rfl rfl g _ rfl HB.out (by simp) (Nat.le_refl _) ?_; intro v1 w1 ho1 hb1)
  go_ret
  exact ⟨_, rfl, ho1, (Ext.refl _).below hb1 (Nat.le_refl _)⟩
end Go.Proofs.Ytdjnjhlgpflcjaa
