import Derived.Test.YtbodppfpmpmadaaGreatGrIC
namespace Go.Proofs.YtbodppfpmpmadaaGreat
open Go.RowKit

set_option maxRecDepth 100000 in
set_option maxHeartbeats 4000000 in
theorem fineAnswer_t (w : World) (caps most ch : Int) (user resp db pl : List UInt8) (ps : Pairs) (Ar Aa : Option Addr) (cr ca : Nat) (h1 : plainP [user, db, pl] = true) (h2 : hasC caps 33280 = true)
    (hd : db = [] ∨ hasC caps 8 = true) (hp : pl = [] ∨ hasC caps 524288 = true) (hr : resp.length ≤ 255) (hn : ps.length ≤ 64) (ha : ps = [] ∨ hasC caps 1048576 = true) :
    Calls Tryz.prog 148 #[.agg #[.int .u32 caps, .int .u32 most, .int .u8 ch, .string (strL user), .slice Ar resp.length cr, .string (strL db), .string (strL pl), .slice Aa ps.length ca]] w fun e w' => e = .returned (.bool true) ∧ Ext w w' := by
  have H1 := Lib.hid h1
  have H2 := Lib.hid h2
  obtain ⟨q1, e1, f1⟩ : ∃ q, (strL db).toList.isEmpty = q ∧ (q = false → hasC caps 8 = true) := ⟨_, rfl, fun hq => hd.resolve_left (fun e => by subst e; simp [strL_tl] at hq)⟩
  obtain ⟨q2, e2, f2⟩ : ∃ q, (strL pl).toList.isEmpty = q ∧ (q = false → hasC caps 524288 = true) := ⟨_, rfl, fun hq => hp.resolve_left (fun e => by subst e; simp [strL_tl] at hq)⟩
  obtain ⟨q3, e3, f3⟩ : ∃ q, ((ps.length : Int) == 0) = q ∧ (q = false → hasC caps 1048576 = true) := ⟨_, rfl, fun hq => ha.resolve_left (fun e => by subst e; simp at hq)⟩
  have F1 := Lib.hid f1
  have F2 := Lib.hid f2
  have F3 := Lib.hid f3
  have hri : (resp.length : Int) ≤ 255 := by omega
  have hni : (ps.length : Int) ≤ 64 := by omega
  clear h1 h2 hd hp hr hn ha f1 f2 f3
  cases q1 <;> cases q2 <;> cases q3
  all_goals
    go_enter Tryz.func148, Tryz.ntmps148
    go_wp2_with fail
    generalize hW0 : w.alloc _ = wS
    have hb : Box wS w.heap.size [.int .u32 caps, .int .u32 most, .int .u8 ch, .string (strL user), .slice Ar resp.length cr, .string (strL db), .string (strL pl), .slice Aa ps.length ca] := by rw [← hW0]; exact Box.new w _ _
    have hx0 : Ext w wS := by rw [← hW0]; exact (Ext.refl w).alloc _
    have hsz : w.heap.size + 1 = wS.heap.size := by rw [← hW0]; simp
    have HSZ := Lib.hid hsz
    have HX0 := Lib.hid hx0
    clear hW0 hsz hx0
    go_wp2_with (first
      | (go_at_call 143; refine (plain_g _ _ [user, db, pl] true (texts_new _ _ _ (by rfl) _ _ _ HSZ.out (by rfl) (by simp)) H1.out).mono ?_; rintro e wT ⟨rfl, hq⟩; have hx1 : Ext wS wT := hq ▸ (Ext.refl wS).alloc _; clear hq; have c0 := hb.one' (j := 0) rfl hx1; have c4 := hb.one' (j := 4) rfl hx1; have c5 := hb.one' (j := 5) rfl hx1; have c6 := hb.one' (j := 6) rfl hx1; have c7 := hb.one' (j := 7) rfl hx1)
      | ((with_reducible show Calls _ _ #[_, Value.int .u32 33280] _ _); go_at_call 83; refine (has_g _ _ _ true H2.out).mono ?_; rintro e wy ⟨rfl, rfl⟩)
      | ((with_reducible show Calls _ _ #[_, Value.int .u32 8] _ _); go_at_call 83; refine (has_g _ _ _ true (F1.out (by trivial))).mono ?_; rintro e wy ⟨rfl, rfl⟩)
      | ((with_reducible show Calls _ _ #[_, Value.int .u32 524288] _ _); go_at_call 83; refine (has_g _ _ _ true (F2.out (by trivial))).mono ?_; rintro e wy ⟨rfl, rfl⟩)
      | ((with_reducible show Calls _ _ #[_, Value.int .u32 1048576] _ _); go_at_call 83; refine (has_g _ _ _ true (F3.out (by trivial))).mono ?_; rintro e wy ⟨rfl, rfl⟩)
      | fail)
    go_ret
    exact ⟨rfl, HX0.out.trans hx1⟩
end Go.Proofs.YtbodppfpmpmadaaGreat

