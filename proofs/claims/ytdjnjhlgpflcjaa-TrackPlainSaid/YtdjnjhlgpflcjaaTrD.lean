/- One change is read: the program. (Printed by gen_trD.py.) -/
import Derived.Test.YtdjnjhlgpflcjaaTrC
import Derived.Deep.RegionHeld3
namespace Go.Proofs.Ytdjnjhlgpflcjaa
open Go.RowKit

def RetOne (w : World) (r : Option Chg) (e : Ending) (w' : World) : Prop :=
  (match r with
    | some c => e = .returned (.tuple #[.agg (chgC c).toArray, .bool true])
    | none => ∃ (k : Int) (n v : ByteArray), e = .returned (.tuple #[.agg #[.int .i64 k, .string n, .string v], .bool false])) ∧ Ext w w'
theorem RetOne.no {w w' : World} {r : Option Chg} (h : r = none) (k : Int) (n v : ByteArray) (hx : Ext w w') : RetOne w r (.returned (.tuple #[.agg #[.int .i64 k, .string n, .string v], .bool false])) w' := by
  subst h; exact ⟨⟨k, n, v, rfl⟩, hx⟩
theorem RetOne.may {w w' : World} {r : Option Chg} (k : Int) (n x : List UInt8) (b : Bool) (h : r = if b = true then some (k, n, x) else none) (hx : Ext w w') : RetOne w r (.returned (.tuple #[.agg #[.int .i64 k, .string (strL n), .string (strL x)], .bool b])) w' := by
  subst h
  cases b
  · exact ⟨⟨_, _, _, rfl⟩, hx⟩
  · exact ⟨rfl, hx⟩
theorem rt_b (w : World) (v : Value) (l x : List UInt8) (n : Nat) (r : Int) (hr : Rd w v l) (h : readT l = (x, n, r)) :
    Calls Try.prog 23 #[v] w fun e w' => e = .returned (.tuple #[.string (strL x), .int .i64 n, .int .i64 r]) ∧ w = w' := by
  have := readText_len w v l hr
  rw [h] at this
  exact this
theorem rt_r (w : World) (v : Value) (l x : List UInt8) (n : Nat) (r : Int) (hr : Rd w v l) (h : readT l = (x, n, r)) :
    Calls Try.prog 31 #[v] w fun e w' => e = .returned (.tuple #[.string (strL x), .int .i64 n, .int .i64 r]) ∧ w = w' := by
  have := readText_ref w v l hr
  rw [h] at this
  exact this
abbrev chg0 (k : Int) : List Value := [.int .i64 k, .string ⟨#[]⟩, .string ⟨#[]⟩]
theorem two_boxes (w w3 : World) (k1 k2 : Int) (t1 t2 : TypeId) (c1 c2 : Array Value) (h1 : c1 = (chg0 k1).toArray) (h2 : c2 = (chg0 k2).toArray) (hx : Ext ((w.alloc (.cells c1 t1)).alloc (.cells c2 t2)) w3) :
    BoxF w3 w.heap.size (chg0 k1) ∧ BoxF w3 (w.heap.size + 1) (chg0 k2) ∧ Ext w w3 := by
  subst h1 h2
  have hx0 : Ext w (w.alloc (.cells (chg0 k1).toArray t1)) := (Ext.refl w).alloc _
  have hsz : (w.alloc (.cells (chg0 k1).toArray t1)).heap.size = w.heap.size + 1 := by simp
  have C := BoxF.new (w.alloc (.cells (chg0 k1).toArray t1)) (chg0 k2) t2
  rw [hsz] at C
  exact ⟨((BoxF.new w (chg0 k1) t1).ext ((Ext.refl _).alloc _)).ext hx, C.ext hx, (hx0.alloc _).trans hx⟩
theorem Rd.onA {g : Nat} {w w' : World} {A : Option Addr} {n c : Nat} {l : List UInt8} (h : Rd w (.slice A n c) l) (k : On g w w') (hne : ∀ a, A = some a → a.block ≠ g) : Rd w' (.slice A n c) l := by
  obtain ⟨A', c', hv, h1, h2, h3, h4⟩ := h
  refine ⟨A', c', hv, h1, h2, h3, fun hl => ?_⟩
  obtain ⟨b, o, hA, hc⟩ := h4 hl
  injection hv with e1 _ _
  have hb := hne _ (e1.trans hA)
  exact ⟨b, o, hA, fun j hj => k.cell (hc j hj) hb⟩
theorem own_ne {A : Option Addr} {n c B g : Nat} (h : (Value.slice A n c).ownBlock = some B) (hne : B ≠ g) : ∀ a, A = some a → a.block ≠ g := by
  intro a ha
  subst ha
  simp [Value.ownBlock] at h
  omega
theorem cut_ne {A : Option Addr} {c i g : Nat} (h : ∀ a, A = some a → a.block ≠ g) : ∀ a, (if c = i then A else A.map (·.add i)) = some a → a.block ≠ g := by
  intro a ha
  split at ha
  · exact h a ha
  · cases A with
    | none => simp at ha
    | some b =>
      simp at ha
      subst ha
      have := h b rfl
      unfold Addr.add
      split <;> exact this
theorem rd_shape {w : World} {A : Option Addr} {m k : Nat} {l : List UInt8} (h : Rd w (.slice A m k) l) : m = l.length ∧ l.length ≤ k := by
  obtain ⟨A', k', hv, h1, _⟩ := h
  injection hv with _ e2 e3
  exact ⟨e2, by omega⟩
theorem rd_first {w : World} {A : Option Addr} {m k : Nat} {l : List UInt8} (h : Rd w (.slice A m k) l) (hp : 0 < l.length) : ∃ b o, A = some ⟨b, o, none⟩ ∧ w.cell? ⟨b, o, none⟩ = some (.int .u8 ((l.getD 0 0).toNat : Int)) := by
  obtain ⟨A', k', hv, h1, _, _, h4⟩ := h
  injection hv with e1 _ _
  obtain ⟨b, o, rfl, hc⟩ := h4 (by intro e; subst e; simp at hp)
  exact ⟨b, o, e1, hc 0 hp⟩
theorem BoxF.c3 {W : World} {g : Nat} {a b c : Value} (h : BoxF W g [a, b, c]) : W.cell? ⟨g, 0, none⟩ = some a ∧ W.cell? ⟨g, 1, none⟩ = some b ∧ W.cell? ⟨g, 2, none⟩ = some c :=
  ⟨h.at (j := 0) rfl, h.at (j := 1) rfl, h.at (j := 2) rfl⟩
theorem BoxF.f3 {W : World} {g : Nat} {a b c : Value} (h : BoxF W g [a, b, c]) : W.frozen? ⟨g, 0, none⟩ = false ∧ W.frozen? ⟨g, 1, none⟩ = false ∧ W.frozen? ⟨g, 2, none⟩ = false :=
  ⟨h.free 0 (by simp), h.free 1 (by simp), h.free 2 (by simp)⟩

theorem oneP_0 (s x : List UInt8) (n : Nat) (h : readT s = (x, n, 0)) : oneP 0 s = tailP 0 x (s.drop n) := by unfold oneP; rw [if_pos rfl, h, if_pos rfl]
theorem oneP_0e (s x : List UInt8) (n : Nat) (r : Int) (h : readT s = (x, n, r)) (hr : r ≠ 0) : oneP 0 s = none := by unfold oneP; rw [if_pos rfl, h, if_neg hr]
theorem oneP_3l (s : List UInt8) (h : s.length = 0) : oneP 3 s = none := by unfold oneP; rw [if_neg (by decide), if_pos rfl, if_pos h]
theorem oneP_3n (s : List UInt8) (h : 0 < s.length) (h0 : s.getD 0 0 ≠ 0) : oneP 3 s = none := by unfold oneP; rw [if_neg (by decide), if_pos rfl, if_neg (by omega), if_neg h0]
theorem oneP_3 (s : List UInt8) (h : 0 < s.length) (h0 : s.getD 0 0 = 0) : oneP 3 s = tailP 3 [] (s.drop 1) := by unfold oneP; rw [if_neg (by decide), if_pos rfl, if_neg (by omega), if_pos h0]
theorem tail_r (k : Int) (n s x : List UInt8) (m : Nat) (r : Int) (h : readT s = (x, m, r)) (hr : r ≠ 0) : tailP k n s = none := by unfold tailP; rw [h, if_neg (fun e => hr e.1)]
theorem tail_n (k : Int) (n s x : List UInt8) (m : Nat) (h : readT s = (x, m, 0)) (hm : m ≠ s.length) : tailP k n s = none := by unfold tailP; rw [h, if_neg (fun e => hm e.2.1)]
theorem tail_m (k : Int) (n s x : List UInt8) (m : Nat) (b : Bool) (h : readT s = (x, m, 0)) (hm : m = s.length) (hb : mayP (k, n, x) = b) : tailP k n s = if b = true then some (k, n, x) else none := by
  unfold tailP
  rw [h]
  dsimp only
  cases b
  · rw [if_neg (fun e => by rw [hb] at e; cases e.2.2), if_neg (by decide)]
  · rw [if_pos ⟨rfl, hm, hb⟩, if_pos rfl]

set_option maxRecDepth 100000 in
set_option maxHeartbeats 2000000 in
theorem one_0e (w : World) (s : List UInt8) (hs : s.length ≤ 100000000) (x1 : List UInt8) (n1 : Nat) (r1 : Int) (h1 : readT s = (x1, n1, r1)) (hr1 : r1 ≠ 0) :
    Calls Try.prog 24 #[.int .u8 0, .string (strL s)] w (RetOne w (oneP 0 s)) := by
  have HRES := Lib.hid (oneP_0e s _ _ _ h1 hr1)
  have HSZ := Lib.hid (show (strL s).size ≤ maxLen by rw [strL_size]; unfold maxLen; omega)
  have H1 := Lib.hid h1
  have hb1 : (r1 == 0) = false := by simpa using hr1
  have hb1' : (r1 != 0) = true := by simpa using hr1
  clear h1 hr1
  go_enter Try.func24, Try.ntmps24
  go_wp2_with (first
    | ((with_reducible show wpList _ _ _ (⟨some 18, _, _, _, _, _⟩ :: _) _ _); refine wpl_bytes bt _ HSZ.out rfl _ rfl rfl ?_; intro A3 m3 k3 w3 hr3 hob hx3; rw [strL_toList] at hr3; obtain ⟨rfl, hk3⟩ := rd_shape hr3; have hneA : ∀ a, A3 = some a → a.block ≠ w.heap.size + 1 := own_ne hob (by simp); obtain ⟨B3, C3, hE⟩ := two_boxes w w3 0 0 28 28 _ _ rfl rfl hx3; clear hx3 hob; have c0 := C3.at (j := 0) rfl)
    | (go_at_call 23; refine (rt_b _ _ _ _ _ _ hr3 H1.out).mono ?_; rintro e w4 ⟨rfl, rfl⟩)
    | ((with_reducible show wpList _ _ _ (⟨some 31, _, _, _, _, _⟩ :: _) _ _); refine wpl_load_box rfl _ _ rfl _ rfl C3 Try.underlying28 rfl (by kernel_rfl) ?_)
    | ((with_reducible show wpList _ _ _ (⟨none, Op.store _ _ _, _, _, _, _⟩ :: _) _ _); refine wpl_store_box rfl _ _ _ rfl _ [.int .i64 0, .string ⟨#[]⟩, .string ⟨#[]⟩] rfl rfl B3 rfl (by kernel_rfl) (by rfl) ?_; intro w9 B9 O9)
    | fail)
  try simp only [Exit.inBlock, Exit.then]
  refine ret_box rfl rfl rfl rfl B9 Try.underlying28 rfl (by kernel_rfl) ?_
  exact RetOne.no HRES.out _ _ _ (hE.on O9 (Nat.le_refl _))

set_option maxRecDepth 100000 in
set_option maxHeartbeats 2000000 in
theorem one_0r (w : World) (s : List UInt8) (hs : s.length ≤ 100000000) (x1 : List UInt8) (n1 : Nat) (h1 : readT s = (x1, n1, 0)) (x2 : List UInt8) (n2 : Nat) (r2 : Int) (h2 : readT (s.drop n1) = (x2, n2, r2)) (hr2 : r2 ≠ 0) :
    Calls Try.prog 24 #[.int .u8 0, .string (strL s)] w (RetOne w (oneP 0 s)) := by
  have HRES := Lib.hid ((oneP_0 s _ _ h1).trans (tail_r _ _ _ _ _ _ h2 hr2))
  have HSZ := Lib.hid (show (strL s).size ≤ maxLen by rw [strL_size]; unfold maxLen; omega)
  have H1 := Lib.hid h1
  have hn1 := (readT_len h1).1
  obtain ⟨t, ht⟩ : ∃ t, t = s.drop n1 := ⟨_, rfl⟩
  rw [← ht] at h2
  have H2 := Lib.hid h2
  have hb2 : (r2 == 0) = false := by simpa using hr2
  have tok : True := trivial
  clear h1 h2 hr2
  go_enter Try.func24, Try.ntmps24
  go_wp2_with (first
    | ((with_reducible show wpList _ _ _ (⟨some 18, _, _, _, _, _⟩ :: _) _ _); refine wpl_bytes bt _ HSZ.out rfl _ rfl rfl ?_; intro A3 m3 k3 w3 hr3 hob hx3; rw [strL_toList] at hr3; obtain ⟨rfl, hk3⟩ := rd_shape hr3; have hneA : ∀ a, A3 = some a → a.block ≠ w.heap.size + 1 := own_ne hob (by simp); obtain ⟨B3, C3, hE⟩ := two_boxes w w3 0 0 28 28 _ _ rfl rfl hx3; clear hx3 hob; have c0 := C3.at (j := 0) rfl)
    | (go_at_call 23; refine (rt_b _ _ _ _ _ _ hr3 H1.out).mono ?_; rintro e w4 ⟨rfl, rfl⟩)
    | fail)
  have z1 := C3.at (j := 1) rfl
  have y1 := C3.free 1 (by simp)
  have hn0 : (0 : Int) ≤ (n1 : Int) := by omega
  have hn3 : (n1 : Int) ≤ (s.length : Int) := by omega
  have hn4 : (n1 : Int) ≤ (k3 : Int) := by omega
  go_region_held3 (fun W' => True) (trivial) (fail)
  have hcut := Rd.cut hr3 n1 s.length hn1 (Nat.le_refl _)
  rw [List.take_length, Nat.mul_one] at hcut
  have hl : s.length - n1 = t.length := by rw [ht, List.length_drop]
  rw [← ht, hl] at hcut
  rw [hl]
  have C5 := (C3.set 1 (.string (strL x1))).ext (Ext.refl _).drew
  have B5 := (B3.on ((On.refl (w.heap.size + 1) w3).set 1 (.string (strL x1))) (by omega)).ext (Ext.refl _).drew
  have hE5 := (hE.setCell (p := ⟨w.heap.size + 1, 1, none⟩) (by simp) (.string (strL x1))).drew
  have hr5 := (hcut.onA ((On.refl (w.heap.size + 1) w3).set 1 (.string (strL x1))) (cut_ne hneA)).ext (Ext.refl _).drew
  generalize (World.setCell w3 _ _).drew = w5 at C5 B5 hE5 hr5 ⊢
  generalize (if k3 = n1 then A3 else _) = A5 at hr5 ⊢
  generalize k3 - n1 = k5 at hr5 ⊢
  clear hr3 hcut ht hl hn0 hn3 hn4 z1 y1 c0 hk3 hneA B3 C3 hE hn1
  go_wp2_with (first
    | (go_at_call 23; refine (rt_b _ _ _ _ _ _ hr5 H2.out).mono ?_; rintro e w6 ⟨rfl, rfl⟩)
    | ((with_reducible show wpList _ _ _ (⟨none, Op.store _ _ _, _, _, _, _⟩ :: _) _ _); clear tok; refine wpl_store_cell rfl _ _ _ rfl (w.heap.size + 1) 2 (.string (strL x2)) rfl rfl rfl rfl (by kernel_rfl) C5 (by simp) ?_; intro w6 C6 O6; have B6 := B5.on O6 (by omega); have hE6 := hE5.on O6 (by omega))
    | fail)
  clear hr5 O6
  have C7 : BoxF w6 (w.heap.size + 1) [.int .i64 0, .string (strL x1), .string (strL x2)] := C6
  have B7 : BoxF w6 w.heap.size (chg0 0) := B6
  have hE7 : Ext w w6 := hE6
  clear B6 C6 hE6
  obtain ⟨z0, z1, z2⟩ := B7.c3
  obtain ⟨y0, y1, y2⟩ := B7.f3
  obtain ⟨p0, p1, p2⟩ := C7.c3
  try dsimp only [Act.put]
  first | go_region | fail
  all_goals
    go_wp2_with fail
    try simp only [Exit.inBlock, Exit.then]
    have B9 := (B7.sets (ds := [.int .i64 0, .string (strL x1), .string (strL x2)]) rfl).ext (Ext.refl _).drew
    have O9 := (hE7.on (On.sets (g := w.heap.size) _ 0 [.int .i64 0, .string (strL x1), .string (strL x2)]) (Nat.le_refl _)).drew
    refine ret_box rfl rfl rfl rfl B9 Try.underlying28 rfl (by kernel_rfl) ?_
    exact RetOne.no HRES.out _ _ _ O9

set_option maxRecDepth 100000 in
set_option maxHeartbeats 2000000 in
theorem one_0n (w : World) (s : List UInt8) (hs : s.length ≤ 100000000) (x1 : List UInt8) (n1 : Nat) (h1 : readT s = (x1, n1, 0)) (x2 : List UInt8) (n2 : Nat) (h2 : readT (s.drop n1) = (x2, n2, 0)) (hn2 : n2 ≠ (s.drop n1).length) :
    Calls Try.prog 24 #[.int .u8 0, .string (strL s)] w (RetOne w (oneP 0 s)) := by
  have HRES := Lib.hid ((oneP_0 s _ _ h1).trans (tail_n _ _ _ _ _ h2 hn2))
  have HSZ := Lib.hid (show (strL s).size ≤ maxLen by rw [strL_size]; unfold maxLen; omega)
  have H1 := Lib.hid h1
  have hn1 := (readT_len h1).1
  obtain ⟨t, ht⟩ : ∃ t, t = s.drop n1 := ⟨_, rfl⟩
  rw [← ht] at h2 hn2
  have H2 := Lib.hid h2
  have hb2 : ((n2 : Int) == (t.length : Int)) = false := by simp; omega
  have tok : True := trivial
  clear h1 h2 hn2
  go_enter Try.func24, Try.ntmps24
  go_wp2_with (first
    | ((with_reducible show wpList _ _ _ (⟨some 18, _, _, _, _, _⟩ :: _) _ _); refine wpl_bytes bt _ HSZ.out rfl _ rfl rfl ?_; intro A3 m3 k3 w3 hr3 hob hx3; rw [strL_toList] at hr3; obtain ⟨rfl, hk3⟩ := rd_shape hr3; have hneA : ∀ a, A3 = some a → a.block ≠ w.heap.size + 1 := own_ne hob (by simp); obtain ⟨B3, C3, hE⟩ := two_boxes w w3 0 0 28 28 _ _ rfl rfl hx3; clear hx3 hob; have c0 := C3.at (j := 0) rfl)
    | (go_at_call 23; refine (rt_b _ _ _ _ _ _ hr3 H1.out).mono ?_; rintro e w4 ⟨rfl, rfl⟩)
    | fail)
  have z1 := C3.at (j := 1) rfl
  have y1 := C3.free 1 (by simp)
  have hn0 : (0 : Int) ≤ (n1 : Int) := by omega
  have hn3 : (n1 : Int) ≤ (s.length : Int) := by omega
  have hn4 : (n1 : Int) ≤ (k3 : Int) := by omega
  go_region_held3 (fun W' => True) (trivial) (fail)
  have hcut := Rd.cut hr3 n1 s.length hn1 (Nat.le_refl _)
  rw [List.take_length, Nat.mul_one] at hcut
  have hl : s.length - n1 = t.length := by rw [ht, List.length_drop]
  rw [← ht, hl] at hcut
  rw [hl]
  have C5 := (C3.set 1 (.string (strL x1))).ext (Ext.refl _).drew
  have B5 := (B3.on ((On.refl (w.heap.size + 1) w3).set 1 (.string (strL x1))) (by omega)).ext (Ext.refl _).drew
  have hE5 := (hE.setCell (p := ⟨w.heap.size + 1, 1, none⟩) (by simp) (.string (strL x1))).drew
  have hr5 := (hcut.onA ((On.refl (w.heap.size + 1) w3).set 1 (.string (strL x1))) (cut_ne hneA)).ext (Ext.refl _).drew
  generalize (World.setCell w3 _ _).drew = w5 at C5 B5 hE5 hr5 ⊢
  generalize (if k3 = n1 then A3 else _) = A5 at hr5 ⊢
  generalize k3 - n1 = k5 at hr5 ⊢
  clear hr3 hcut ht hl hn0 hn3 hn4 z1 y1 c0 hk3 hneA B3 C3 hE hn1
  go_wp2_with (first
    | (go_at_call 23; refine (rt_b _ _ _ _ _ _ hr5 H2.out).mono ?_; rintro e w6 ⟨rfl, rfl⟩)
    | ((with_reducible show wpList _ _ _ (⟨none, Op.store _ _ _, _, _, _, _⟩ :: _) _ _); clear tok; refine wpl_store_cell rfl _ _ _ rfl (w.heap.size + 1) 2 (.string (strL x2)) rfl rfl rfl rfl (by kernel_rfl) C5 (by simp) ?_; intro w6 C6 O6; have B6 := B5.on O6 (by omega); have hE6 := hE5.on O6 (by omega))
    | fail)
  clear hr5 O6
  have C7 : BoxF w6 (w.heap.size + 1) [.int .i64 0, .string (strL x1), .string (strL x2)] := C6
  have B7 : BoxF w6 w.heap.size (chg0 0) := B6
  have hE7 : Ext w w6 := hE6
  clear B6 C6 hE6
  obtain ⟨z0, z1, z2⟩ := B7.c3
  obtain ⟨y0, y1, y2⟩ := B7.f3
  obtain ⟨p0, p1, p2⟩ := C7.c3
  try dsimp only [Act.put]
  first | go_region | fail
  all_goals
    go_wp2_with fail
    try simp only [Exit.inBlock, Exit.then]
    have B9 := (B7.sets (ds := [.int .i64 0, .string (strL x1), .string (strL x2)]) rfl).ext (Ext.refl _).drew
    have O9 := (hE7.on (On.sets (g := w.heap.size) _ 0 [.int .i64 0, .string (strL x1), .string (strL x2)]) (Nat.le_refl _)).drew
    refine ret_box rfl rfl rfl rfl B9 Try.underlying28 rfl (by kernel_rfl) ?_
    exact RetOne.no HRES.out _ _ _ O9

set_option maxRecDepth 100000 in
set_option maxHeartbeats 2000000 in
theorem one_0m (w : World) (s : List UInt8) (hs : s.length ≤ 100000000) (x1 : List UInt8) (n1 : Nat) (h1 : readT s = (x1, n1, 0)) (x2 : List UInt8) (n2 : Nat) (h2 : readT (s.drop n1) = (x2, n2, 0)) (hn2 : n2 = (s.drop n1).length) (b : Bool) (hm : mayP (0, x1, x2) = b) :
    Calls Try.prog 24 #[.int .u8 0, .string (strL s)] w (RetOne w (oneP 0 s)) := by
  have HRES := Lib.hid ((oneP_0 s _ _ h1).trans (tail_m _ _ _ _ _ _ h2 hn2 hm))
  have HSZ := Lib.hid (show (strL s).size ≤ maxLen by rw [strL_size]; unfold maxLen; omega)
  have H1 := Lib.hid h1
  have hn1 := (readT_len h1).1
  obtain ⟨t, ht⟩ : ∃ t, t = s.drop n1 := ⟨_, rfl⟩
  rw [← ht] at h2 hn2
  have H2 := Lib.hid h2
  subst hn2
  have HM := Lib.hid hm
  have tok : True := trivial
  clear h1 h2 hm
  go_enter Try.func24, Try.ntmps24
  go_wp2_with (first
    | ((with_reducible show wpList _ _ _ (⟨some 18, _, _, _, _, _⟩ :: _) _ _); refine wpl_bytes bt _ HSZ.out rfl _ rfl rfl ?_; intro A3 m3 k3 w3 hr3 hob hx3; rw [strL_toList] at hr3; obtain ⟨rfl, hk3⟩ := rd_shape hr3; have hneA : ∀ a, A3 = some a → a.block ≠ w.heap.size + 1 := own_ne hob (by simp); obtain ⟨B3, C3, hE⟩ := two_boxes w w3 0 0 28 28 _ _ rfl rfl hx3; clear hx3 hob; have c0 := C3.at (j := 0) rfl)
    | (go_at_call 23; refine (rt_b _ _ _ _ _ _ hr3 H1.out).mono ?_; rintro e w4 ⟨rfl, rfl⟩)
    | fail)
  have z1 := C3.at (j := 1) rfl
  have y1 := C3.free 1 (by simp)
  have hn0 : (0 : Int) ≤ (n1 : Int) := by omega
  have hn3 : (n1 : Int) ≤ (s.length : Int) := by omega
  have hn4 : (n1 : Int) ≤ (k3 : Int) := by omega
  go_region_held3 (fun W' => True) (trivial) (fail)
  have hcut := Rd.cut hr3 n1 s.length hn1 (Nat.le_refl _)
  rw [List.take_length, Nat.mul_one] at hcut
  have hl : s.length - n1 = t.length := by rw [ht, List.length_drop]
  rw [← ht, hl] at hcut
  rw [hl]
  have C5 := (C3.set 1 (.string (strL x1))).ext (Ext.refl _).drew
  have B5 := (B3.on ((On.refl (w.heap.size + 1) w3).set 1 (.string (strL x1))) (by omega)).ext (Ext.refl _).drew
  have hE5 := (hE.setCell (p := ⟨w.heap.size + 1, 1, none⟩) (by simp) (.string (strL x1))).drew
  have hr5 := (hcut.onA ((On.refl (w.heap.size + 1) w3).set 1 (.string (strL x1))) (cut_ne hneA)).ext (Ext.refl _).drew
  generalize (World.setCell w3 _ _).drew = w5 at C5 B5 hE5 hr5 ⊢
  generalize (if k3 = n1 then A3 else _) = A5 at hr5 ⊢
  generalize k3 - n1 = k5 at hr5 ⊢
  clear hr3 hcut ht hl hn0 hn3 hn4 z1 y1 c0 hk3 hneA B3 C3 hE hn1
  go_wp2_with (first
    | (go_at_call 23; refine (rt_b _ _ _ _ _ _ hr5 H2.out).mono ?_; rintro e w6 ⟨rfl, rfl⟩)
    | ((with_reducible show wpList _ _ _ (⟨none, Op.store _ _ _, _, _, _, _⟩ :: _) _ _); clear tok; refine wpl_store_cell rfl _ _ _ rfl (w.heap.size + 1) 2 (.string (strL x2)) rfl rfl rfl rfl (by kernel_rfl) C5 (by simp) ?_; intro w6 C6 O6; have B6 := B5.on O6 (by omega); have hE6 := hE5.on O6 (by omega))
    | fail)
  clear hr5 O6
  have C7 : BoxF w6 (w.heap.size + 1) [.int .i64 0, .string (strL x1), .string (strL x2)] := C6
  have B7 : BoxF w6 w.heap.size (chg0 0) := B6
  have hE7 : Ext w w6 := hE6
  clear B6 C6 hE6
  obtain ⟨z0, z1, z2⟩ := B7.c3
  obtain ⟨y0, y1, y2⟩ := B7.f3
  have za0 : ∀ o, (w6.alloc o).cell? ⟨w.heap.size, 0, none⟩ = _ := fun o => (B7.ext ((Ext.refl _).alloc o)).c3.1
  have ya0 : ∀ o, (w6.alloc o).frozen? ⟨w.heap.size, 0, none⟩ = false := fun o => (B7.ext ((Ext.refl _).alloc o)).f3.1
  have za1 : ∀ o, (w6.alloc o).cell? ⟨w.heap.size, 1, none⟩ = _ := fun o => (B7.ext ((Ext.refl _).alloc o)).c3.2.1
  have ya1 : ∀ o, (w6.alloc o).frozen? ⟨w.heap.size, 1, none⟩ = false := fun o => (B7.ext ((Ext.refl _).alloc o)).f3.2.1
  have za2 : ∀ o, (w6.alloc o).cell? ⟨w.heap.size, 2, none⟩ = _ := fun o => (B7.ext ((Ext.refl _).alloc o)).c3.2.2
  have ya2 : ∀ o, (w6.alloc o).frozen? ⟨w.heap.size, 2, none⟩ = false := fun o => (B7.ext ((Ext.refl _).alloc o)).f3.2.2
  go_region_held3 (fun W' => W'.cell? ⟨w.heap.size + 1, 0, none⟩ = some (.int .i64 0) ∧ W'.cell? ⟨w.heap.size + 1, 1, none⟩ = some (.string (strL x1)) ∧ W'.cell? ⟨w.heap.size + 1, 2, none⟩ = some (.string (strL x2))) ((refine BoxF.c3 ?_; first | exact C7.ext (Ext.refl _).drew | exact C7.ext ((Ext.refl _).drew.alloc _) | exact C7.ext ((Ext.refl _).alloc _).drew | exact (C7.ext ((Ext.refl _).drew.alloc _)).on (g := w.heap.size + 1) (On.sets _ 0 [.int .i64 0, .string (strL x1), .string (strL x2)]) (by omega) | exact (C7.ext ((Ext.refl _).alloc _).drew).on (On.sets _ 0 [.int .i64 0, .string (strL x1), .string (strL x2)]) (by omega) | fail))
    (first
      | (go_at_call 20; go_must (refine (may_g _ 0 x1 x2 _ HM.out).mono ?_; rintro e w8 ⟨rfl, rfl⟩))
      | fail)
  all_goals
    go_wp2_with fail
    try simp only [Exit.inBlock, Exit.then]
    first
      | (have B9 := ((B7.ext ((Ext.refl _).alloc (.cells #[.int .i64 0, .string (strL x1), .string (strL x2)] 28))).sets (ds := [.int .i64 0, .string (strL x1), .string (strL x2)]) rfl).ext (Ext.refl _).drew; have O9 := ((hE7.trans ((Ext.refl _).alloc (.cells #[.int .i64 0, .string (strL x1), .string (strL x2)] 28))).on (On.sets (g := w.heap.size) _ 0 [.int .i64 0, .string (strL x1), .string (strL x2)]) (Nat.le_refl _)).drew; refine ret_box rfl rfl rfl rfl B9 Try.underlying28 rfl (by kernel_rfl) ?_; exact RetOne.may 0 x1 x2 b HRES.out O9)
      | fail

set_option maxRecDepth 100000 in
set_option maxHeartbeats 2000000 in
theorem one_3l (w : World) (s : List UInt8) (hp : s.length = 0) :
    Calls Try.prog 24 #[.int .u8 3, .string (strL s)] w (RetOne w (oneP 3 s)) := by
  have HRES := Lib.hid (oneP_3l s hp)
  have HSZ := Lib.hid (show (strL s).size ≤ maxLen by rw [strL_size]; unfold maxLen; omega)
  have hpi : (s.length : Int) = 0 := by omega
  go_enter Try.func24, Try.ntmps24
  go_wp2_with (first
    | ((with_reducible show wpList _ _ _ (⟨some 18, _, _, _, _, _⟩ :: _) _ _); refine wpl_bytes bt _ HSZ.out rfl _ rfl rfl ?_; intro A3 m3 k3 w3 hr3 hob hx3; rw [strL_toList] at hr3; obtain ⟨rfl, hk3⟩ := rd_shape hr3; have hneA : ∀ a, A3 = some a → a.block ≠ w.heap.size + 1 := own_ne hob (by simp); obtain ⟨B3, C3, hE⟩ := two_boxes w w3 0 3 28 28 _ _ rfl rfl hx3; clear hx3 hob; have c0 := C3.at (j := 0) rfl)
    | ((with_reducible show wpList _ _ _ (⟨some 48, _, _, _, _, _⟩ :: _) _ _); refine wpl_load_box rfl _ _ rfl _ rfl C3 Try.underlying28 rfl (by kernel_rfl) ?_)
    | ((with_reducible show wpList _ _ _ (⟨none, Op.store _ _ _, _, _, _, _⟩ :: _) _ _); refine wpl_store_box rfl _ _ _ rfl _ [.int .i64 3, .string ⟨#[]⟩, .string ⟨#[]⟩] rfl rfl B3 rfl (by kernel_rfl) (by rfl) ?_; intro w9 B9 O9)
    | fail)
  try simp only [Exit.inBlock, Exit.then]
  refine ret_box rfl rfl rfl rfl B9 Try.underlying28 rfl (by kernel_rfl) ?_
  exact RetOne.no HRES.out _ _ _ (hE.on O9 (Nat.le_refl _))

set_option maxRecDepth 100000 in
set_option maxHeartbeats 2000000 in
theorem one_3z (w : World) (s : List UInt8) (hs : s.length ≤ 100000000) (hp : 0 < s.length) (h0 : s.getD 0 0 ≠ 0) :
    Calls Try.prog 24 #[.int .u8 3, .string (strL s)] w (RetOne w (oneP 3 s)) := by
  have HRES := Lib.hid (oneP_3n s hp h0)
  have HSZ := Lib.hid (show (strL s).size ≤ maxLen by rw [strL_size]; unfold maxLen; omega)
  obtain ⟨x0, hx0⟩ : ∃ x0 : Int, ((s.getD 0 0).toNat : Int) = x0 := ⟨_, rfl⟩
  have hb0 : (x0 == 0) = false := by rw [← hx0]; simp only [beq_eq_false_iff_ne]; intro e; exact h0 (UInt8.toNat_inj.1 (by rw [show UInt8.toNat 0 = 0 from rfl]; omega))
  have hb0' : (x0 != 0) = true := by rw [bne, hb0]; rfl
  have HX0 := Lib.hid hx0
  have hpi : ¬ ((s.length : Int) = 0) := by omega
  have hpb : ((s.length : Int) == 0) = false := by simpa using hpi
  clear hx0 h0
  go_enter Try.func24, Try.ntmps24
  go_wp2_with (first
    | ((with_reducible show wpList _ _ _ (⟨some 18, _, _, _, _, _⟩ :: _) _ _); refine wpl_bytes bt _ HSZ.out rfl _ rfl rfl ?_; intro A3 m3 k3 w3 hr3 hob hx3; rw [strL_toList] at hr3; obtain ⟨rfl, hk3⟩ := rd_shape hr3; have hneA : ∀ a, A3 = some a → a.block ≠ w.heap.size + 1 := own_ne hob (by simp); obtain ⟨B3, C3, hE⟩ := two_boxes w w3 0 3 28 28 _ _ rfl rfl hx3; clear hx3 hob; have c0 := C3.at (j := 0) rfl; obtain ⟨b3, o3, rfl, hc3⟩ := rd_first hr3 hp; rw [HX0.out] at hc3)
    | ((with_reducible show wpList _ _ _ (⟨some 48, _, _, _, _, _⟩ :: _) _ _); refine wpl_load_box rfl _ _ rfl _ rfl C3 Try.underlying28 rfl (by kernel_rfl) ?_)
    | ((with_reducible show wpList _ _ _ (⟨none, Op.store _ _ _, _, _, _, _⟩ :: _) _ _); refine wpl_store_box rfl _ _ _ rfl _ [.int .i64 3, .string ⟨#[]⟩, .string ⟨#[]⟩] rfl rfl B3 rfl (by kernel_rfl) (by rfl) ?_; intro w9 B9 O9)
    | fail)
  try simp only [Exit.inBlock, Exit.then]
  refine ret_box rfl rfl rfl rfl B9 Try.underlying28 rfl (by kernel_rfl) ?_
  exact RetOne.no HRES.out _ _ _ (hE.on O9 (Nat.le_refl _))

set_option maxRecDepth 100000 in
set_option maxHeartbeats 2000000 in
theorem one_3r (w : World) (s : List UInt8) (hs : s.length ≤ 100000000) (hp : 0 < s.length) (h0 : s.getD 0 0 = 0) (x2 : List UInt8) (n2 : Nat) (r2 : Int) (h2 : readT (s.drop 1) = (x2, n2, r2)) (hr2 : r2 ≠ 0) :
    Calls Try.prog 24 #[.int .u8 3, .string (strL s)] w (RetOne w (oneP 3 s)) := by
  have HRES := Lib.hid ((oneP_3 s hp h0).trans (tail_r _ _ _ _ _ _ h2 hr2))
  have HSZ := Lib.hid (show (strL s).size ≤ maxLen by rw [strL_size]; unfold maxLen; omega)
  obtain ⟨x0, hx0⟩ : ∃ x0 : Int, ((s.getD 0 0).toNat : Int) = x0 := ⟨_, rfl⟩
  have hb0 : x0 = 0 := by rw [← hx0, h0]; rfl
  subst hb0
  have HX0 := Lib.hid hx0
  have hpi : ¬ ((s.length : Int) = 0) := by omega
  have hpb : ((s.length : Int) == 0) = false := by simpa using hpi
  obtain ⟨t, ht⟩ : ∃ t, t = s.drop 1 := ⟨_, rfl⟩
  rw [← ht] at h2
  have HT := Lib.hid ht
  have H2 := Lib.hid h2
  have hb2 : (r2 == 0) = false := by simpa using hr2
  have tok : True := trivial
  clear hx0 h0 ht h2 hr2
  go_enter Try.func24, Try.ntmps24
  go_wp2_with (first
    | ((with_reducible show wpList _ _ _ (⟨some 18, _, _, _, _, _⟩ :: _) _ _); refine wpl_bytes bt _ HSZ.out rfl _ rfl rfl ?_; intro A3 m3 k3 w3 hr3 hob hx3; rw [strL_toList] at hr3; obtain ⟨rfl, hk3⟩ := rd_shape hr3; have hneA : ∀ a, A3 = some a → a.block ≠ w.heap.size + 1 := own_ne hob (by simp); obtain ⟨B3, C3, hE⟩ := two_boxes w w3 0 3 28 28 _ _ rfl rfl hx3; clear hx3 hob; have c0 := C3.at (j := 0) rfl; obtain ⟨b3, o3, rfl, hc3⟩ := rd_first hr3 hp; rw [HX0.out] at hc3)
    | ((with_reducible show wpList _ _ _ (⟨some 50, _, _, _, _, _⟩ :: _) _ _); refine wpl_cut_lo bt hr3 1 (by omega) (by omega) rfl _ _ _ rfl rfl rfl ?_; intro A5 m5 k5 hr5; rw [show (1 : Int).toNat = 1 from rfl, ← HT.out] at hr5; obtain ⟨rfl, hk5⟩ := rd_shape hr5)
    | (go_at_call 23; refine (rt_b _ _ _ _ _ _ hr5 H2.out).mono ?_; rintro e w6 ⟨rfl, rfl⟩)
    | ((with_reducible show wpList _ _ _ (⟨none, Op.store _ _ _, _, _, _, _⟩ :: _) _ _); clear tok; refine wpl_store_cell rfl _ _ _ rfl (w.heap.size + 1) 2 (.string (strL x2)) rfl rfl rfl rfl (by kernel_rfl) C3 (by simp) ?_; intro w6 C6 O6; have B6 := B3.on O6 (by omega); have hE6 := hE.on O6 (by omega))
    | fail)
  clear hr5 hr3 O6 hc3 c0 B3 C3 hE hneA
  have C7 : BoxF w6 (w.heap.size + 1) [.int .i64 3, .string (strL []), .string (strL x2)] := C6
  have B7 : BoxF w6 w.heap.size (chg0 0) := B6
  have hE7 : Ext w w6 := hE6
  clear B6 C6 hE6
  obtain ⟨z0, z1, z2⟩ := B7.c3
  obtain ⟨y0, y1, y2⟩ := B7.f3
  obtain ⟨p0, p1, p2⟩ := C7.c3
  try dsimp only [Act.put]
  first | go_region | fail
  all_goals
    go_wp2_with fail
    try simp only [Exit.inBlock, Exit.then]
    have B9 := (B7.sets (ds := [.int .i64 3, .string (strL []), .string (strL x2)]) rfl).ext (Ext.refl _).drew
    have O9 := (hE7.on (On.sets (g := w.heap.size) _ 0 [.int .i64 3, .string (strL []), .string (strL x2)]) (Nat.le_refl _)).drew
    refine ret_box rfl rfl rfl rfl B9 Try.underlying28 rfl (by kernel_rfl) ?_
    exact RetOne.no HRES.out _ _ _ O9

set_option maxRecDepth 100000 in
set_option maxHeartbeats 2000000 in
theorem one_3n (w : World) (s : List UInt8) (hs : s.length ≤ 100000000) (hp : 0 < s.length) (h0 : s.getD 0 0 = 0) (x2 : List UInt8) (n2 : Nat) (h2 : readT (s.drop 1) = (x2, n2, 0)) (hn2 : n2 ≠ (s.drop 1).length) :
    Calls Try.prog 24 #[.int .u8 3, .string (strL s)] w (RetOne w (oneP 3 s)) := by
  have HRES := Lib.hid ((oneP_3 s hp h0).trans (tail_n _ _ _ _ _ h2 hn2))
  have HSZ := Lib.hid (show (strL s).size ≤ maxLen by rw [strL_size]; unfold maxLen; omega)
  obtain ⟨x0, hx0⟩ : ∃ x0 : Int, ((s.getD 0 0).toNat : Int) = x0 := ⟨_, rfl⟩
  have hb0 : x0 = 0 := by rw [← hx0, h0]; rfl
  subst hb0
  have HX0 := Lib.hid hx0
  have hpi : ¬ ((s.length : Int) = 0) := by omega
  have hpb : ((s.length : Int) == 0) = false := by simpa using hpi
  obtain ⟨t, ht⟩ : ∃ t, t = s.drop 1 := ⟨_, rfl⟩
  rw [← ht] at h2 hn2
  have HT := Lib.hid ht
  have H2 := Lib.hid h2
  have hb2 : ((n2 : Int) == (t.length : Int)) = false := by simp; omega
  have tok : True := trivial
  clear hx0 h0 ht h2 hn2
  go_enter Try.func24, Try.ntmps24
  go_wp2_with (first
    | ((with_reducible show wpList _ _ _ (⟨some 18, _, _, _, _, _⟩ :: _) _ _); refine wpl_bytes bt _ HSZ.out rfl _ rfl rfl ?_; intro A3 m3 k3 w3 hr3 hob hx3; rw [strL_toList] at hr3; obtain ⟨rfl, hk3⟩ := rd_shape hr3; have hneA : ∀ a, A3 = some a → a.block ≠ w.heap.size + 1 := own_ne hob (by simp); obtain ⟨B3, C3, hE⟩ := two_boxes w w3 0 3 28 28 _ _ rfl rfl hx3; clear hx3 hob; have c0 := C3.at (j := 0) rfl; obtain ⟨b3, o3, rfl, hc3⟩ := rd_first hr3 hp; rw [HX0.out] at hc3)
    | ((with_reducible show wpList _ _ _ (⟨some 50, _, _, _, _, _⟩ :: _) _ _); refine wpl_cut_lo bt hr3 1 (by omega) (by omega) rfl _ _ _ rfl rfl rfl ?_; intro A5 m5 k5 hr5; rw [show (1 : Int).toNat = 1 from rfl, ← HT.out] at hr5; obtain ⟨rfl, hk5⟩ := rd_shape hr5)
    | (go_at_call 23; refine (rt_b _ _ _ _ _ _ hr5 H2.out).mono ?_; rintro e w6 ⟨rfl, rfl⟩)
    | ((with_reducible show wpList _ _ _ (⟨none, Op.store _ _ _, _, _, _, _⟩ :: _) _ _); clear tok; refine wpl_store_cell rfl _ _ _ rfl (w.heap.size + 1) 2 (.string (strL x2)) rfl rfl rfl rfl (by kernel_rfl) C3 (by simp) ?_; intro w6 C6 O6; have B6 := B3.on O6 (by omega); have hE6 := hE.on O6 (by omega))
    | fail)
  clear hr5 hr3 O6 hc3 c0 B3 C3 hE hneA
  have C7 : BoxF w6 (w.heap.size + 1) [.int .i64 3, .string (strL []), .string (strL x2)] := C6
  have B7 : BoxF w6 w.heap.size (chg0 0) := B6
  have hE7 : Ext w w6 := hE6
  clear B6 C6 hE6
  obtain ⟨z0, z1, z2⟩ := B7.c3
  obtain ⟨y0, y1, y2⟩ := B7.f3
  obtain ⟨p0, p1, p2⟩ := C7.c3
  try dsimp only [Act.put]
  first | go_region | fail
  all_goals
    go_wp2_with fail
    try simp only [Exit.inBlock, Exit.then]
    have B9 := (B7.sets (ds := [.int .i64 3, .string (strL []), .string (strL x2)]) rfl).ext (Ext.refl _).drew
    have O9 := (hE7.on (On.sets (g := w.heap.size) _ 0 [.int .i64 3, .string (strL []), .string (strL x2)]) (Nat.le_refl _)).drew
    refine ret_box rfl rfl rfl rfl B9 Try.underlying28 rfl (by kernel_rfl) ?_
    exact RetOne.no HRES.out _ _ _ O9

set_option maxRecDepth 100000 in
set_option maxHeartbeats 2000000 in
theorem one_3m (w : World) (s : List UInt8) (hs : s.length ≤ 100000000) (hp : 0 < s.length) (h0 : s.getD 0 0 = 0) (x2 : List UInt8) (n2 : Nat) (h2 : readT (s.drop 1) = (x2, n2, 0)) (hn2 : n2 = (s.drop 1).length) (b : Bool) (hm : mayP (3, [], x2) = b) :
    Calls Try.prog 24 #[.int .u8 3, .string (strL s)] w (RetOne w (oneP 3 s)) := by
  have HRES := Lib.hid ((oneP_3 s hp h0).trans (tail_m _ _ _ _ _ _ h2 hn2 hm))
  have HSZ := Lib.hid (show (strL s).size ≤ maxLen by rw [strL_size]; unfold maxLen; omega)
  obtain ⟨x0, hx0⟩ : ∃ x0 : Int, ((s.getD 0 0).toNat : Int) = x0 := ⟨_, rfl⟩
  have hb0 : x0 = 0 := by rw [← hx0, h0]; rfl
  subst hb0
  have HX0 := Lib.hid hx0
  have hpi : ¬ ((s.length : Int) = 0) := by omega
  have hpb : ((s.length : Int) == 0) = false := by simpa using hpi
  obtain ⟨t, ht⟩ : ∃ t, t = s.drop 1 := ⟨_, rfl⟩
  rw [← ht] at h2 hn2
  have HT := Lib.hid ht
  have H2 := Lib.hid h2
  subst hn2
  have HM := Lib.hid hm
  have tok : True := trivial
  clear hx0 h0 ht h2 hm
  go_enter Try.func24, Try.ntmps24
  go_wp2_with (first
    | ((with_reducible show wpList _ _ _ (⟨some 18, _, _, _, _, _⟩ :: _) _ _); refine wpl_bytes bt _ HSZ.out rfl _ rfl rfl ?_; intro A3 m3 k3 w3 hr3 hob hx3; rw [strL_toList] at hr3; obtain ⟨rfl, hk3⟩ := rd_shape hr3; have hneA : ∀ a, A3 = some a → a.block ≠ w.heap.size + 1 := own_ne hob (by simp); obtain ⟨B3, C3, hE⟩ := two_boxes w w3 0 3 28 28 _ _ rfl rfl hx3; clear hx3 hob; have c0 := C3.at (j := 0) rfl; obtain ⟨b3, o3, rfl, hc3⟩ := rd_first hr3 hp; rw [HX0.out] at hc3)
    | ((with_reducible show wpList _ _ _ (⟨some 50, _, _, _, _, _⟩ :: _) _ _); refine wpl_cut_lo bt hr3 1 (by omega) (by omega) rfl _ _ _ rfl rfl rfl ?_; intro A5 m5 k5 hr5; rw [show (1 : Int).toNat = 1 from rfl, ← HT.out] at hr5; obtain ⟨rfl, hk5⟩ := rd_shape hr5)
    | (go_at_call 23; refine (rt_b _ _ _ _ _ _ hr5 H2.out).mono ?_; rintro e w6 ⟨rfl, rfl⟩)
    | ((with_reducible show wpList _ _ _ (⟨none, Op.store _ _ _, _, _, _, _⟩ :: _) _ _); clear tok; refine wpl_store_cell rfl _ _ _ rfl (w.heap.size + 1) 2 (.string (strL x2)) rfl rfl rfl rfl (by kernel_rfl) C3 (by simp) ?_; intro w6 C6 O6; have B6 := B3.on O6 (by omega); have hE6 := hE.on O6 (by omega))
    | fail)
  clear hr5 hr3 O6 hc3 c0 B3 C3 hE hneA
  have C7 : BoxF w6 (w.heap.size + 1) [.int .i64 3, .string (strL []), .string (strL x2)] := C6
  have B7 : BoxF w6 w.heap.size (chg0 0) := B6
  have hE7 : Ext w w6 := hE6
  clear B6 C6 hE6
  obtain ⟨z0, z1, z2⟩ := B7.c3
  obtain ⟨y0, y1, y2⟩ := B7.f3
  have za0 : ∀ o, (w6.alloc o).cell? ⟨w.heap.size, 0, none⟩ = _ := fun o => (B7.ext ((Ext.refl _).alloc o)).c3.1
  have ya0 : ∀ o, (w6.alloc o).frozen? ⟨w.heap.size, 0, none⟩ = false := fun o => (B7.ext ((Ext.refl _).alloc o)).f3.1
  have za1 : ∀ o, (w6.alloc o).cell? ⟨w.heap.size, 1, none⟩ = _ := fun o => (B7.ext ((Ext.refl _).alloc o)).c3.2.1
  have ya1 : ∀ o, (w6.alloc o).frozen? ⟨w.heap.size, 1, none⟩ = false := fun o => (B7.ext ((Ext.refl _).alloc o)).f3.2.1
  have za2 : ∀ o, (w6.alloc o).cell? ⟨w.heap.size, 2, none⟩ = _ := fun o => (B7.ext ((Ext.refl _).alloc o)).c3.2.2
  have ya2 : ∀ o, (w6.alloc o).frozen? ⟨w.heap.size, 2, none⟩ = false := fun o => (B7.ext ((Ext.refl _).alloc o)).f3.2.2
  go_region_held3 (fun W' => W'.cell? ⟨w.heap.size + 1, 0, none⟩ = some (.int .i64 3) ∧ W'.cell? ⟨w.heap.size + 1, 1, none⟩ = some (.string (strL [])) ∧ W'.cell? ⟨w.heap.size + 1, 2, none⟩ = some (.string (strL x2))) ((refine BoxF.c3 ?_; first | exact C7.ext (Ext.refl _).drew | exact C7.ext ((Ext.refl _).drew.alloc _) | exact C7.ext ((Ext.refl _).alloc _).drew | exact (C7.ext ((Ext.refl _).drew.alloc _)).on (g := w.heap.size + 1) (On.sets _ 0 [.int .i64 3, .string (strL []), .string (strL x2)]) (by omega) | exact (C7.ext ((Ext.refl _).alloc _).drew).on (On.sets _ 0 [.int .i64 3, .string (strL []), .string (strL x2)]) (by omega) | fail))
    (first
      | (go_at_call 20; go_must (refine (may_g _ 3 [] x2 _ HM.out).mono ?_; rintro e w8 ⟨rfl, rfl⟩))
      | fail)
  all_goals
    go_wp2_with fail
    try simp only [Exit.inBlock, Exit.then]
    first
      | (have B9 := ((B7.ext ((Ext.refl _).alloc (.cells #[.int .i64 3, .string (strL []), .string (strL x2)] 28))).sets (ds := [.int .i64 3, .string (strL []), .string (strL x2)]) rfl).ext (Ext.refl _).drew; have O9 := ((hE7.trans ((Ext.refl _).alloc (.cells #[.int .i64 3, .string (strL []), .string (strL x2)] 28))).on (On.sets (g := w.heap.size) _ 0 [.int .i64 3, .string (strL []), .string (strL x2)]) (Nat.le_refl _)).drew; refine ret_box rfl rfl rfl rfl B9 Try.underlying28 rfl (by kernel_rfl) ?_; exact RetOne.may 3 [] x2 b HRES.out O9)
      | fail

set_option maxRecDepth 100000 in
set_option maxHeartbeats 2000000 in
theorem one_1r (w : World) (s : List UInt8) (hs : s.length ≤ 100000000) (x2 : List UInt8) (n2 : Nat) (r2 : Int) (h2 : readT (s) = (x2, n2, r2)) (hr2 : r2 ≠ 0) :
    Calls Try.prog 24 #[.int .u8 1, .string (strL s)] w (RetOne w (oneP 1 s)) := by
  have HRES := Lib.hid ((show oneP 1 s = tailP 1 [] s from by unfold oneP; rw [if_neg (by decide), if_neg (by decide)]).trans (tail_r _ _ _ _ _ _ h2 hr2))
  have HSZ := Lib.hid (show (strL s).size ≤ maxLen by rw [strL_size]; unfold maxLen; omega)
  obtain ⟨t, ht⟩ : ∃ t, t = s := ⟨_, rfl⟩
  rw [← ht] at h2
  subst ht
  have H2 := Lib.hid h2
  have hb2 : (r2 == 0) = false := by simpa using hr2
  have tok : True := trivial
  clear h2 hr2
  go_enter Try.func24, Try.ntmps24
  go_wp2_with (first
    | ((with_reducible show wpList _ _ _ (⟨some 18, _, _, _, _, _⟩ :: _) _ _); refine wpl_bytes bt _ HSZ.out rfl _ rfl rfl ?_; intro A3 m3 k3 w3 hr3 hob hx3; rw [strL_toList] at hr3; obtain ⟨rfl, hk3⟩ := rd_shape hr3; have hneA : ∀ a, A3 = some a → a.block ≠ w.heap.size + 1 := own_ne hob (by simp); obtain ⟨B3, C3, hE⟩ := two_boxes w w3 0 1 28 28 _ _ rfl rfl hx3; clear hx3 hob; have c0 := C3.at (j := 0) rfl)
    | (go_at_call 23; refine (rt_b _ _ _ _ _ _ hr3 H2.out).mono ?_; rintro e w6 ⟨rfl, rfl⟩)
    | ((with_reducible show wpList _ _ _ (⟨none, Op.store _ _ _, _, _, _, _⟩ :: _) _ _); clear tok; refine wpl_store_cell rfl _ _ _ rfl (w.heap.size + 1) 2 (.string (strL x2)) rfl rfl rfl rfl (by kernel_rfl) C3 (by simp) ?_; intro w6 C6 O6; have B6 := B3.on O6 (by omega); have hE6 := hE.on O6 (by omega))
    | fail)
  clear hr3 O6 c0 B3 C3 hE hneA
  have C7 : BoxF w6 (w.heap.size + 1) [.int .i64 1, .string (strL []), .string (strL x2)] := C6
  have B7 : BoxF w6 w.heap.size (chg0 0) := B6
  have hE7 : Ext w w6 := hE6
  clear B6 C6 hE6
  obtain ⟨z0, z1, z2⟩ := B7.c3
  obtain ⟨y0, y1, y2⟩ := B7.f3
  obtain ⟨p0, p1, p2⟩ := C7.c3
  try dsimp only [Act.put]
  first | go_region | fail
  all_goals
    go_wp2_with fail
    try simp only [Exit.inBlock, Exit.then]
    have B9 := (B7.sets (ds := [.int .i64 1, .string (strL []), .string (strL x2)]) rfl).ext (Ext.refl _).drew
    have O9 := (hE7.on (On.sets (g := w.heap.size) _ 0 [.int .i64 1, .string (strL []), .string (strL x2)]) (Nat.le_refl _)).drew
    refine ret_box rfl rfl rfl rfl B9 Try.underlying28 rfl (by kernel_rfl) ?_
    exact RetOne.no HRES.out _ _ _ O9

set_option maxRecDepth 100000 in
set_option maxHeartbeats 2000000 in
theorem one_1n (w : World) (s : List UInt8) (hs : s.length ≤ 100000000) (x2 : List UInt8) (n2 : Nat) (h2 : readT (s) = (x2, n2, 0)) (hn2 : n2 ≠ (s).length) :
    Calls Try.prog 24 #[.int .u8 1, .string (strL s)] w (RetOne w (oneP 1 s)) := by
  have HRES := Lib.hid ((show oneP 1 s = tailP 1 [] s from by unfold oneP; rw [if_neg (by decide), if_neg (by decide)]).trans (tail_n _ _ _ _ _ h2 hn2))
  have HSZ := Lib.hid (show (strL s).size ≤ maxLen by rw [strL_size]; unfold maxLen; omega)
  obtain ⟨t, ht⟩ : ∃ t, t = s := ⟨_, rfl⟩
  rw [← ht] at h2 hn2
  subst ht
  have H2 := Lib.hid h2
  have hb2 : ((n2 : Int) == (t.length : Int)) = false := by simp; omega
  have tok : True := trivial
  clear h2 hn2
  go_enter Try.func24, Try.ntmps24
  go_wp2_with (first
    | ((with_reducible show wpList _ _ _ (⟨some 18, _, _, _, _, _⟩ :: _) _ _); refine wpl_bytes bt _ HSZ.out rfl _ rfl rfl ?_; intro A3 m3 k3 w3 hr3 hob hx3; rw [strL_toList] at hr3; obtain ⟨rfl, hk3⟩ := rd_shape hr3; have hneA : ∀ a, A3 = some a → a.block ≠ w.heap.size + 1 := own_ne hob (by simp); obtain ⟨B3, C3, hE⟩ := two_boxes w w3 0 1 28 28 _ _ rfl rfl hx3; clear hx3 hob; have c0 := C3.at (j := 0) rfl)
    | (go_at_call 23; refine (rt_b _ _ _ _ _ _ hr3 H2.out).mono ?_; rintro e w6 ⟨rfl, rfl⟩)
    | ((with_reducible show wpList _ _ _ (⟨none, Op.store _ _ _, _, _, _, _⟩ :: _) _ _); clear tok; refine wpl_store_cell rfl _ _ _ rfl (w.heap.size + 1) 2 (.string (strL x2)) rfl rfl rfl rfl (by kernel_rfl) C3 (by simp) ?_; intro w6 C6 O6; have B6 := B3.on O6 (by omega); have hE6 := hE.on O6 (by omega))
    | fail)
  clear hr3 O6 c0 B3 C3 hE hneA
  have C7 : BoxF w6 (w.heap.size + 1) [.int .i64 1, .string (strL []), .string (strL x2)] := C6
  have B7 : BoxF w6 w.heap.size (chg0 0) := B6
  have hE7 : Ext w w6 := hE6
  clear B6 C6 hE6
  obtain ⟨z0, z1, z2⟩ := B7.c3
  obtain ⟨y0, y1, y2⟩ := B7.f3
  obtain ⟨p0, p1, p2⟩ := C7.c3
  try dsimp only [Act.put]
  first | go_region | fail
  all_goals
    go_wp2_with fail
    try simp only [Exit.inBlock, Exit.then]
    have B9 := (B7.sets (ds := [.int .i64 1, .string (strL []), .string (strL x2)]) rfl).ext (Ext.refl _).drew
    have O9 := (hE7.on (On.sets (g := w.heap.size) _ 0 [.int .i64 1, .string (strL []), .string (strL x2)]) (Nat.le_refl _)).drew
    refine ret_box rfl rfl rfl rfl B9 Try.underlying28 rfl (by kernel_rfl) ?_
    exact RetOne.no HRES.out _ _ _ O9

set_option maxRecDepth 100000 in
set_option maxHeartbeats 2000000 in
theorem one_1m (w : World) (s : List UInt8) (hs : s.length ≤ 100000000) (x2 : List UInt8) (n2 : Nat) (h2 : readT (s) = (x2, n2, 0)) (hn2 : n2 = (s).length) (b : Bool) (hm : mayP (1, [], x2) = b) :
    Calls Try.prog 24 #[.int .u8 1, .string (strL s)] w (RetOne w (oneP 1 s)) := by
  have HRES := Lib.hid ((show oneP 1 s = tailP 1 [] s from by unfold oneP; rw [if_neg (by decide), if_neg (by decide)]).trans (tail_m _ _ _ _ _ _ h2 hn2 hm))
  have HSZ := Lib.hid (show (strL s).size ≤ maxLen by rw [strL_size]; unfold maxLen; omega)
  obtain ⟨t, ht⟩ : ∃ t, t = s := ⟨_, rfl⟩
  rw [← ht] at h2 hn2
  subst ht
  have H2 := Lib.hid h2
  subst hn2
  have HM := Lib.hid hm
  have tok : True := trivial
  clear h2 hm
  go_enter Try.func24, Try.ntmps24
  go_wp2_with (first
    | ((with_reducible show wpList _ _ _ (⟨some 18, _, _, _, _, _⟩ :: _) _ _); refine wpl_bytes bt _ HSZ.out rfl _ rfl rfl ?_; intro A3 m3 k3 w3 hr3 hob hx3; rw [strL_toList] at hr3; obtain ⟨rfl, hk3⟩ := rd_shape hr3; have hneA : ∀ a, A3 = some a → a.block ≠ w.heap.size + 1 := own_ne hob (by simp); obtain ⟨B3, C3, hE⟩ := two_boxes w w3 0 1 28 28 _ _ rfl rfl hx3; clear hx3 hob; have c0 := C3.at (j := 0) rfl)
    | (go_at_call 23; refine (rt_b _ _ _ _ _ _ hr3 H2.out).mono ?_; rintro e w6 ⟨rfl, rfl⟩)
    | ((with_reducible show wpList _ _ _ (⟨none, Op.store _ _ _, _, _, _, _⟩ :: _) _ _); clear tok; refine wpl_store_cell rfl _ _ _ rfl (w.heap.size + 1) 2 (.string (strL x2)) rfl rfl rfl rfl (by kernel_rfl) C3 (by simp) ?_; intro w6 C6 O6; have B6 := B3.on O6 (by omega); have hE6 := hE.on O6 (by omega))
    | fail)
  clear hr3 O6 c0 B3 C3 hE hneA
  have C7 : BoxF w6 (w.heap.size + 1) [.int .i64 1, .string (strL []), .string (strL x2)] := C6
  have B7 : BoxF w6 w.heap.size (chg0 0) := B6
  have hE7 : Ext w w6 := hE6
  clear B6 C6 hE6
  obtain ⟨z0, z1, z2⟩ := B7.c3
  obtain ⟨y0, y1, y2⟩ := B7.f3
  have za0 : ∀ o, (w6.alloc o).cell? ⟨w.heap.size, 0, none⟩ = _ := fun o => (B7.ext ((Ext.refl _).alloc o)).c3.1
  have ya0 : ∀ o, (w6.alloc o).frozen? ⟨w.heap.size, 0, none⟩ = false := fun o => (B7.ext ((Ext.refl _).alloc o)).f3.1
  have za1 : ∀ o, (w6.alloc o).cell? ⟨w.heap.size, 1, none⟩ = _ := fun o => (B7.ext ((Ext.refl _).alloc o)).c3.2.1
  have ya1 : ∀ o, (w6.alloc o).frozen? ⟨w.heap.size, 1, none⟩ = false := fun o => (B7.ext ((Ext.refl _).alloc o)).f3.2.1
  have za2 : ∀ o, (w6.alloc o).cell? ⟨w.heap.size, 2, none⟩ = _ := fun o => (B7.ext ((Ext.refl _).alloc o)).c3.2.2
  have ya2 : ∀ o, (w6.alloc o).frozen? ⟨w.heap.size, 2, none⟩ = false := fun o => (B7.ext ((Ext.refl _).alloc o)).f3.2.2
  go_region_held3 (fun W' => W'.cell? ⟨w.heap.size + 1, 0, none⟩ = some (.int .i64 1) ∧ W'.cell? ⟨w.heap.size + 1, 1, none⟩ = some (.string (strL [])) ∧ W'.cell? ⟨w.heap.size + 1, 2, none⟩ = some (.string (strL x2))) ((refine BoxF.c3 ?_; first | exact C7.ext (Ext.refl _).drew | exact C7.ext ((Ext.refl _).drew.alloc _) | exact C7.ext ((Ext.refl _).alloc _).drew | exact (C7.ext ((Ext.refl _).drew.alloc _)).on (g := w.heap.size + 1) (On.sets _ 0 [.int .i64 1, .string (strL []), .string (strL x2)]) (by omega) | exact (C7.ext ((Ext.refl _).alloc _).drew).on (On.sets _ 0 [.int .i64 1, .string (strL []), .string (strL x2)]) (by omega) | fail))
    (first
      | (go_at_call 20; go_must (refine (may_g _ 1 [] x2 _ HM.out).mono ?_; rintro e w8 ⟨rfl, rfl⟩))
      | fail)
  all_goals
    go_wp2_with fail
    try simp only [Exit.inBlock, Exit.then]
    first
      | (have B9 := ((B7.ext ((Ext.refl _).alloc (.cells #[.int .i64 1, .string (strL []), .string (strL x2)] 28))).sets (ds := [.int .i64 1, .string (strL []), .string (strL x2)]) rfl).ext (Ext.refl _).drew; have O9 := ((hE7.trans ((Ext.refl _).alloc (.cells #[.int .i64 1, .string (strL []), .string (strL x2)] 28))).on (On.sets (g := w.heap.size) _ 0 [.int .i64 1, .string (strL []), .string (strL x2)]) (Nat.le_refl _)).drew; refine ret_box rfl rfl rfl rfl B9 Try.underlying28 rfl (by kernel_rfl) ?_; exact RetOne.may 1 [] x2 b HRES.out O9)
      | fail

set_option maxRecDepth 100000 in
set_option maxHeartbeats 2000000 in
theorem one_2r (w : World) (s : List UInt8) (hs : s.length ≤ 100000000) (x2 : List UInt8) (n2 : Nat) (r2 : Int) (h2 : readT (s) = (x2, n2, r2)) (hr2 : r2 ≠ 0) :
    Calls Try.prog 24 #[.int .u8 2, .string (strL s)] w (RetOne w (oneP 2 s)) := by
  have HRES := Lib.hid ((show oneP 2 s = tailP 2 [] s from by unfold oneP; rw [if_neg (by decide), if_neg (by decide)]).trans (tail_r _ _ _ _ _ _ h2 hr2))
  have HSZ := Lib.hid (show (strL s).size ≤ maxLen by rw [strL_size]; unfold maxLen; omega)
  obtain ⟨t, ht⟩ : ∃ t, t = s := ⟨_, rfl⟩
  rw [← ht] at h2
  subst ht
  have H2 := Lib.hid h2
  have hb2 : (r2 == 0) = false := by simpa using hr2
  have tok : True := trivial
  clear h2 hr2
  go_enter Try.func24, Try.ntmps24
  go_wp2_with (first
    | ((with_reducible show wpList _ _ _ (⟨some 18, _, _, _, _, _⟩ :: _) _ _); refine wpl_bytes bt _ HSZ.out rfl _ rfl rfl ?_; intro A3 m3 k3 w3 hr3 hob hx3; rw [strL_toList] at hr3; obtain ⟨rfl, hk3⟩ := rd_shape hr3; have hneA : ∀ a, A3 = some a → a.block ≠ w.heap.size + 1 := own_ne hob (by simp); obtain ⟨B3, C3, hE⟩ := two_boxes w w3 0 2 28 28 _ _ rfl rfl hx3; clear hx3 hob; have c0 := C3.at (j := 0) rfl)
    | (go_at_call 23; refine (rt_b _ _ _ _ _ _ hr3 H2.out).mono ?_; rintro e w6 ⟨rfl, rfl⟩)
    | ((with_reducible show wpList _ _ _ (⟨none, Op.store _ _ _, _, _, _, _⟩ :: _) _ _); clear tok; refine wpl_store_cell rfl _ _ _ rfl (w.heap.size + 1) 2 (.string (strL x2)) rfl rfl rfl rfl (by kernel_rfl) C3 (by simp) ?_; intro w6 C6 O6; have B6 := B3.on O6 (by omega); have hE6 := hE.on O6 (by omega))
    | fail)
  clear hr3 O6 c0 B3 C3 hE hneA
  have C7 : BoxF w6 (w.heap.size + 1) [.int .i64 2, .string (strL []), .string (strL x2)] := C6
  have B7 : BoxF w6 w.heap.size (chg0 0) := B6
  have hE7 : Ext w w6 := hE6
  clear B6 C6 hE6
  obtain ⟨z0, z1, z2⟩ := B7.c3
  obtain ⟨y0, y1, y2⟩ := B7.f3
  obtain ⟨p0, p1, p2⟩ := C7.c3
  try dsimp only [Act.put]
  first | go_region | fail
  all_goals
    go_wp2_with fail
    try simp only [Exit.inBlock, Exit.then]
    have B9 := (B7.sets (ds := [.int .i64 2, .string (strL []), .string (strL x2)]) rfl).ext (Ext.refl _).drew
    have O9 := (hE7.on (On.sets (g := w.heap.size) _ 0 [.int .i64 2, .string (strL []), .string (strL x2)]) (Nat.le_refl _)).drew
    refine ret_box rfl rfl rfl rfl B9 Try.underlying28 rfl (by kernel_rfl) ?_
    exact RetOne.no HRES.out _ _ _ O9

set_option maxRecDepth 100000 in
set_option maxHeartbeats 2000000 in
theorem one_2n (w : World) (s : List UInt8) (hs : s.length ≤ 100000000) (x2 : List UInt8) (n2 : Nat) (h2 : readT (s) = (x2, n2, 0)) (hn2 : n2 ≠ (s).length) :
    Calls Try.prog 24 #[.int .u8 2, .string (strL s)] w (RetOne w (oneP 2 s)) := by
  have HRES := Lib.hid ((show oneP 2 s = tailP 2 [] s from by unfold oneP; rw [if_neg (by decide), if_neg (by decide)]).trans (tail_n _ _ _ _ _ h2 hn2))
  have HSZ := Lib.hid (show (strL s).size ≤ maxLen by rw [strL_size]; unfold maxLen; omega)
  obtain ⟨t, ht⟩ : ∃ t, t = s := ⟨_, rfl⟩
  rw [← ht] at h2 hn2
  subst ht
  have H2 := Lib.hid h2
  have hb2 : ((n2 : Int) == (t.length : Int)) = false := by simp; omega
  have tok : True := trivial
  clear h2 hn2
  go_enter Try.func24, Try.ntmps24
  go_wp2_with (first
    | ((with_reducible show wpList _ _ _ (⟨some 18, _, _, _, _, _⟩ :: _) _ _); refine wpl_bytes bt _ HSZ.out rfl _ rfl rfl ?_; intro A3 m3 k3 w3 hr3 hob hx3; rw [strL_toList] at hr3; obtain ⟨rfl, hk3⟩ := rd_shape hr3; have hneA : ∀ a, A3 = some a → a.block ≠ w.heap.size + 1 := own_ne hob (by simp); obtain ⟨B3, C3, hE⟩ := two_boxes w w3 0 2 28 28 _ _ rfl rfl hx3; clear hx3 hob; have c0 := C3.at (j := 0) rfl)
    | (go_at_call 23; refine (rt_b _ _ _ _ _ _ hr3 H2.out).mono ?_; rintro e w6 ⟨rfl, rfl⟩)
    | ((with_reducible show wpList _ _ _ (⟨none, Op.store _ _ _, _, _, _, _⟩ :: _) _ _); clear tok; refine wpl_store_cell rfl _ _ _ rfl (w.heap.size + 1) 2 (.string (strL x2)) rfl rfl rfl rfl (by kernel_rfl) C3 (by simp) ?_; intro w6 C6 O6; have B6 := B3.on O6 (by omega); have hE6 := hE.on O6 (by omega))
    | fail)
  clear hr3 O6 c0 B3 C3 hE hneA
  have C7 : BoxF w6 (w.heap.size + 1) [.int .i64 2, .string (strL []), .string (strL x2)] := C6
  have B7 : BoxF w6 w.heap.size (chg0 0) := B6
  have hE7 : Ext w w6 := hE6
  clear B6 C6 hE6
  obtain ⟨z0, z1, z2⟩ := B7.c3
  obtain ⟨y0, y1, y2⟩ := B7.f3
  obtain ⟨p0, p1, p2⟩ := C7.c3
  try dsimp only [Act.put]
  first | go_region | fail
  all_goals
    go_wp2_with fail
    try simp only [Exit.inBlock, Exit.then]
    have B9 := (B7.sets (ds := [.int .i64 2, .string (strL []), .string (strL x2)]) rfl).ext (Ext.refl _).drew
    have O9 := (hE7.on (On.sets (g := w.heap.size) _ 0 [.int .i64 2, .string (strL []), .string (strL x2)]) (Nat.le_refl _)).drew
    refine ret_box rfl rfl rfl rfl B9 Try.underlying28 rfl (by kernel_rfl) ?_
    exact RetOne.no HRES.out _ _ _ O9

set_option maxRecDepth 100000 in
set_option maxHeartbeats 2000000 in
theorem one_2m (w : World) (s : List UInt8) (hs : s.length ≤ 100000000) (x2 : List UInt8) (n2 : Nat) (h2 : readT (s) = (x2, n2, 0)) (hn2 : n2 = (s).length) (b : Bool) (hm : mayP (2, [], x2) = b) :
    Calls Try.prog 24 #[.int .u8 2, .string (strL s)] w (RetOne w (oneP 2 s)) := by
  have HRES := Lib.hid ((show oneP 2 s = tailP 2 [] s from by unfold oneP; rw [if_neg (by decide), if_neg (by decide)]).trans (tail_m _ _ _ _ _ _ h2 hn2 hm))
  have HSZ := Lib.hid (show (strL s).size ≤ maxLen by rw [strL_size]; unfold maxLen; omega)
  obtain ⟨t, ht⟩ : ∃ t, t = s := ⟨_, rfl⟩
  rw [← ht] at h2 hn2
  subst ht
  have H2 := Lib.hid h2
  subst hn2
  have HM := Lib.hid hm
  have tok : True := trivial
  clear h2 hm
  go_enter Try.func24, Try.ntmps24
  go_wp2_with (first
    | ((with_reducible show wpList _ _ _ (⟨some 18, _, _, _, _, _⟩ :: _) _ _); refine wpl_bytes bt _ HSZ.out rfl _ rfl rfl ?_; intro A3 m3 k3 w3 hr3 hob hx3; rw [strL_toList] at hr3; obtain ⟨rfl, hk3⟩ := rd_shape hr3; have hneA : ∀ a, A3 = some a → a.block ≠ w.heap.size + 1 := own_ne hob (by simp); obtain ⟨B3, C3, hE⟩ := two_boxes w w3 0 2 28 28 _ _ rfl rfl hx3; clear hx3 hob; have c0 := C3.at (j := 0) rfl)
    | (go_at_call 23; refine (rt_b _ _ _ _ _ _ hr3 H2.out).mono ?_; rintro e w6 ⟨rfl, rfl⟩)
    | ((with_reducible show wpList _ _ _ (⟨none, Op.store _ _ _, _, _, _, _⟩ :: _) _ _); clear tok; refine wpl_store_cell rfl _ _ _ rfl (w.heap.size + 1) 2 (.string (strL x2)) rfl rfl rfl rfl (by kernel_rfl) C3 (by simp) ?_; intro w6 C6 O6; have B6 := B3.on O6 (by omega); have hE6 := hE.on O6 (by omega))
    | fail)
  clear hr3 O6 c0 B3 C3 hE hneA
  have C7 : BoxF w6 (w.heap.size + 1) [.int .i64 2, .string (strL []), .string (strL x2)] := C6
  have B7 : BoxF w6 w.heap.size (chg0 0) := B6
  have hE7 : Ext w w6 := hE6
  clear B6 C6 hE6
  obtain ⟨z0, z1, z2⟩ := B7.c3
  obtain ⟨y0, y1, y2⟩ := B7.f3
  have za0 : ∀ o, (w6.alloc o).cell? ⟨w.heap.size, 0, none⟩ = _ := fun o => (B7.ext ((Ext.refl _).alloc o)).c3.1
  have ya0 : ∀ o, (w6.alloc o).frozen? ⟨w.heap.size, 0, none⟩ = false := fun o => (B7.ext ((Ext.refl _).alloc o)).f3.1
  have za1 : ∀ o, (w6.alloc o).cell? ⟨w.heap.size, 1, none⟩ = _ := fun o => (B7.ext ((Ext.refl _).alloc o)).c3.2.1
  have ya1 : ∀ o, (w6.alloc o).frozen? ⟨w.heap.size, 1, none⟩ = false := fun o => (B7.ext ((Ext.refl _).alloc o)).f3.2.1
  have za2 : ∀ o, (w6.alloc o).cell? ⟨w.heap.size, 2, none⟩ = _ := fun o => (B7.ext ((Ext.refl _).alloc o)).c3.2.2
  have ya2 : ∀ o, (w6.alloc o).frozen? ⟨w.heap.size, 2, none⟩ = false := fun o => (B7.ext ((Ext.refl _).alloc o)).f3.2.2
  go_region_held3 (fun W' => W'.cell? ⟨w.heap.size + 1, 0, none⟩ = some (.int .i64 2) ∧ W'.cell? ⟨w.heap.size + 1, 1, none⟩ = some (.string (strL [])) ∧ W'.cell? ⟨w.heap.size + 1, 2, none⟩ = some (.string (strL x2))) ((refine BoxF.c3 ?_; first | exact C7.ext (Ext.refl _).drew | exact C7.ext ((Ext.refl _).drew.alloc _) | exact C7.ext ((Ext.refl _).alloc _).drew | exact (C7.ext ((Ext.refl _).drew.alloc _)).on (g := w.heap.size + 1) (On.sets _ 0 [.int .i64 2, .string (strL []), .string (strL x2)]) (by omega) | exact (C7.ext ((Ext.refl _).alloc _).drew).on (On.sets _ 0 [.int .i64 2, .string (strL []), .string (strL x2)]) (by omega) | fail))
    (first
      | (go_at_call 20; go_must (refine (may_g _ 2 [] x2 _ HM.out).mono ?_; rintro e w8 ⟨rfl, rfl⟩))
      | fail)
  all_goals
    go_wp2_with fail
    try simp only [Exit.inBlock, Exit.then]
    first
      | (have B9 := ((B7.ext ((Ext.refl _).alloc (.cells #[.int .i64 2, .string (strL []), .string (strL x2)] 28))).sets (ds := [.int .i64 2, .string (strL []), .string (strL x2)]) rfl).ext (Ext.refl _).drew; have O9 := ((hE7.trans ((Ext.refl _).alloc (.cells #[.int .i64 2, .string (strL []), .string (strL x2)] 28))).on (On.sets (g := w.heap.size) _ 0 [.int .i64 2, .string (strL []), .string (strL x2)]) (Nat.le_refl _)).drew; refine ret_box rfl rfl rfl rfl B9 Try.underlying28 rfl (by kernel_rfl) ?_; exact RetOne.may 2 [] x2 b HRES.out O9)
      | fail

set_option maxRecDepth 100000 in
set_option maxHeartbeats 2000000 in
theorem one_4r (w : World) (s : List UInt8) (hs : s.length ≤ 100000000) (x2 : List UInt8) (n2 : Nat) (r2 : Int) (h2 : readT (s) = (x2, n2, r2)) (hr2 : r2 ≠ 0) :
    Calls Try.prog 24 #[.int .u8 4, .string (strL s)] w (RetOne w (oneP 4 s)) := by
  have HRES := Lib.hid ((show oneP 4 s = tailP 4 [] s from by unfold oneP; rw [if_neg (by decide), if_neg (by decide)]).trans (tail_r _ _ _ _ _ _ h2 hr2))
  have HSZ := Lib.hid (show (strL s).size ≤ maxLen by rw [strL_size]; unfold maxLen; omega)
  obtain ⟨t, ht⟩ : ∃ t, t = s := ⟨_, rfl⟩
  rw [← ht] at h2
  subst ht
  have H2 := Lib.hid h2
  have hb2 : (r2 == 0) = false := by simpa using hr2
  have tok : True := trivial
  clear h2 hr2
  go_enter Try.func24, Try.ntmps24
  go_wp2_with (first
    | ((with_reducible show wpList _ _ _ (⟨some 18, _, _, _, _, _⟩ :: _) _ _); refine wpl_bytes bt _ HSZ.out rfl _ rfl rfl ?_; intro A3 m3 k3 w3 hr3 hob hx3; rw [strL_toList] at hr3; obtain ⟨rfl, hk3⟩ := rd_shape hr3; have hneA : ∀ a, A3 = some a → a.block ≠ w.heap.size + 1 := own_ne hob (by simp); obtain ⟨B3, C3, hE⟩ := two_boxes w w3 0 4 28 28 _ _ rfl rfl hx3; clear hx3 hob; have c0 := C3.at (j := 0) rfl)
    | (go_at_call 23; refine (rt_b _ _ _ _ _ _ hr3 H2.out).mono ?_; rintro e w6 ⟨rfl, rfl⟩)
    | ((with_reducible show wpList _ _ _ (⟨none, Op.store _ _ _, _, _, _, _⟩ :: _) _ _); clear tok; refine wpl_store_cell rfl _ _ _ rfl (w.heap.size + 1) 2 (.string (strL x2)) rfl rfl rfl rfl (by kernel_rfl) C3 (by simp) ?_; intro w6 C6 O6; have B6 := B3.on O6 (by omega); have hE6 := hE.on O6 (by omega))
    | fail)
  clear hr3 O6 c0 B3 C3 hE hneA
  have C7 : BoxF w6 (w.heap.size + 1) [.int .i64 4, .string (strL []), .string (strL x2)] := C6
  have B7 : BoxF w6 w.heap.size (chg0 0) := B6
  have hE7 : Ext w w6 := hE6
  clear B6 C6 hE6
  obtain ⟨z0, z1, z2⟩ := B7.c3
  obtain ⟨y0, y1, y2⟩ := B7.f3
  obtain ⟨p0, p1, p2⟩ := C7.c3
  try dsimp only [Act.put]
  first | go_region | fail
  all_goals
    go_wp2_with fail
    try simp only [Exit.inBlock, Exit.then]
    have B9 := (B7.sets (ds := [.int .i64 4, .string (strL []), .string (strL x2)]) rfl).ext (Ext.refl _).drew
    have O9 := (hE7.on (On.sets (g := w.heap.size) _ 0 [.int .i64 4, .string (strL []), .string (strL x2)]) (Nat.le_refl _)).drew
    refine ret_box rfl rfl rfl rfl B9 Try.underlying28 rfl (by kernel_rfl) ?_
    exact RetOne.no HRES.out _ _ _ O9

set_option maxRecDepth 100000 in
set_option maxHeartbeats 2000000 in
theorem one_4n (w : World) (s : List UInt8) (hs : s.length ≤ 100000000) (x2 : List UInt8) (n2 : Nat) (h2 : readT (s) = (x2, n2, 0)) (hn2 : n2 ≠ (s).length) :
    Calls Try.prog 24 #[.int .u8 4, .string (strL s)] w (RetOne w (oneP 4 s)) := by
  have HRES := Lib.hid ((show oneP 4 s = tailP 4 [] s from by unfold oneP; rw [if_neg (by decide), if_neg (by decide)]).trans (tail_n _ _ _ _ _ h2 hn2))
  have HSZ := Lib.hid (show (strL s).size ≤ maxLen by rw [strL_size]; unfold maxLen; omega)
  obtain ⟨t, ht⟩ : ∃ t, t = s := ⟨_, rfl⟩
  rw [← ht] at h2 hn2
  subst ht
  have H2 := Lib.hid h2
  have hb2 : ((n2 : Int) == (t.length : Int)) = false := by simp; omega
  have tok : True := trivial
  clear h2 hn2
  go_enter Try.func24, Try.ntmps24
  go_wp2_with (first
    | ((with_reducible show wpList _ _ _ (⟨some 18, _, _, _, _, _⟩ :: _) _ _); refine wpl_bytes bt _ HSZ.out rfl _ rfl rfl ?_; intro A3 m3 k3 w3 hr3 hob hx3; rw [strL_toList] at hr3; obtain ⟨rfl, hk3⟩ := rd_shape hr3; have hneA : ∀ a, A3 = some a → a.block ≠ w.heap.size + 1 := own_ne hob (by simp); obtain ⟨B3, C3, hE⟩ := two_boxes w w3 0 4 28 28 _ _ rfl rfl hx3; clear hx3 hob; have c0 := C3.at (j := 0) rfl)
    | (go_at_call 23; refine (rt_b _ _ _ _ _ _ hr3 H2.out).mono ?_; rintro e w6 ⟨rfl, rfl⟩)
    | ((with_reducible show wpList _ _ _ (⟨none, Op.store _ _ _, _, _, _, _⟩ :: _) _ _); clear tok; refine wpl_store_cell rfl _ _ _ rfl (w.heap.size + 1) 2 (.string (strL x2)) rfl rfl rfl rfl (by kernel_rfl) C3 (by simp) ?_; intro w6 C6 O6; have B6 := B3.on O6 (by omega); have hE6 := hE.on O6 (by omega))
    | fail)
  clear hr3 O6 c0 B3 C3 hE hneA
  have C7 : BoxF w6 (w.heap.size + 1) [.int .i64 4, .string (strL []), .string (strL x2)] := C6
  have B7 : BoxF w6 w.heap.size (chg0 0) := B6
  have hE7 : Ext w w6 := hE6
  clear B6 C6 hE6
  obtain ⟨z0, z1, z2⟩ := B7.c3
  obtain ⟨y0, y1, y2⟩ := B7.f3
  obtain ⟨p0, p1, p2⟩ := C7.c3
  try dsimp only [Act.put]
  first | go_region | fail
  all_goals
    go_wp2_with fail
    try simp only [Exit.inBlock, Exit.then]
    have B9 := (B7.sets (ds := [.int .i64 4, .string (strL []), .string (strL x2)]) rfl).ext (Ext.refl _).drew
    have O9 := (hE7.on (On.sets (g := w.heap.size) _ 0 [.int .i64 4, .string (strL []), .string (strL x2)]) (Nat.le_refl _)).drew
    refine ret_box rfl rfl rfl rfl B9 Try.underlying28 rfl (by kernel_rfl) ?_
    exact RetOne.no HRES.out _ _ _ O9

set_option maxRecDepth 100000 in
set_option maxHeartbeats 2000000 in
theorem one_4m (w : World) (s : List UInt8) (hs : s.length ≤ 100000000) (x2 : List UInt8) (n2 : Nat) (h2 : readT (s) = (x2, n2, 0)) (hn2 : n2 = (s).length) (b : Bool) (hm : mayP (4, [], x2) = b) :
    Calls Try.prog 24 #[.int .u8 4, .string (strL s)] w (RetOne w (oneP 4 s)) := by
  have HRES := Lib.hid ((show oneP 4 s = tailP 4 [] s from by unfold oneP; rw [if_neg (by decide), if_neg (by decide)]).trans (tail_m _ _ _ _ _ _ h2 hn2 hm))
  have HSZ := Lib.hid (show (strL s).size ≤ maxLen by rw [strL_size]; unfold maxLen; omega)
  obtain ⟨t, ht⟩ : ∃ t, t = s := ⟨_, rfl⟩
  rw [← ht] at h2 hn2
  subst ht
  have H2 := Lib.hid h2
  subst hn2
  have HM := Lib.hid hm
  have tok : True := trivial
  clear h2 hm
  go_enter Try.func24, Try.ntmps24
  go_wp2_with (first
    | ((with_reducible show wpList _ _ _ (⟨some 18, _, _, _, _, _⟩ :: _) _ _); refine wpl_bytes bt _ HSZ.out rfl _ rfl rfl ?_; intro A3 m3 k3 w3 hr3 hob hx3; rw [strL_toList] at hr3; obtain ⟨rfl, hk3⟩ := rd_shape hr3; have hneA : ∀ a, A3 = some a → a.block ≠ w.heap.size + 1 := own_ne hob (by simp); obtain ⟨B3, C3, hE⟩ := two_boxes w w3 0 4 28 28 _ _ rfl rfl hx3; clear hx3 hob; have c0 := C3.at (j := 0) rfl)
    | (go_at_call 23; refine (rt_b _ _ _ _ _ _ hr3 H2.out).mono ?_; rintro e w6 ⟨rfl, rfl⟩)
    | ((with_reducible show wpList _ _ _ (⟨none, Op.store _ _ _, _, _, _, _⟩ :: _) _ _); clear tok; refine wpl_store_cell rfl _ _ _ rfl (w.heap.size + 1) 2 (.string (strL x2)) rfl rfl rfl rfl (by kernel_rfl) C3 (by simp) ?_; intro w6 C6 O6; have B6 := B3.on O6 (by omega); have hE6 := hE.on O6 (by omega))
    | fail)
  clear hr3 O6 c0 B3 C3 hE hneA
  have C7 : BoxF w6 (w.heap.size + 1) [.int .i64 4, .string (strL []), .string (strL x2)] := C6
  have B7 : BoxF w6 w.heap.size (chg0 0) := B6
  have hE7 : Ext w w6 := hE6
  clear B6 C6 hE6
  obtain ⟨z0, z1, z2⟩ := B7.c3
  obtain ⟨y0, y1, y2⟩ := B7.f3
  have za0 : ∀ o, (w6.alloc o).cell? ⟨w.heap.size, 0, none⟩ = _ := fun o => (B7.ext ((Ext.refl _).alloc o)).c3.1
  have ya0 : ∀ o, (w6.alloc o).frozen? ⟨w.heap.size, 0, none⟩ = false := fun o => (B7.ext ((Ext.refl _).alloc o)).f3.1
  have za1 : ∀ o, (w6.alloc o).cell? ⟨w.heap.size, 1, none⟩ = _ := fun o => (B7.ext ((Ext.refl _).alloc o)).c3.2.1
  have ya1 : ∀ o, (w6.alloc o).frozen? ⟨w.heap.size, 1, none⟩ = false := fun o => (B7.ext ((Ext.refl _).alloc o)).f3.2.1
  have za2 : ∀ o, (w6.alloc o).cell? ⟨w.heap.size, 2, none⟩ = _ := fun o => (B7.ext ((Ext.refl _).alloc o)).c3.2.2
  have ya2 : ∀ o, (w6.alloc o).frozen? ⟨w.heap.size, 2, none⟩ = false := fun o => (B7.ext ((Ext.refl _).alloc o)).f3.2.2
  go_region_held3 (fun W' => W'.cell? ⟨w.heap.size + 1, 0, none⟩ = some (.int .i64 4) ∧ W'.cell? ⟨w.heap.size + 1, 1, none⟩ = some (.string (strL [])) ∧ W'.cell? ⟨w.heap.size + 1, 2, none⟩ = some (.string (strL x2))) ((refine BoxF.c3 ?_; first | exact C7.ext (Ext.refl _).drew | exact C7.ext ((Ext.refl _).drew.alloc _) | exact C7.ext ((Ext.refl _).alloc _).drew | exact (C7.ext ((Ext.refl _).drew.alloc _)).on (g := w.heap.size + 1) (On.sets _ 0 [.int .i64 4, .string (strL []), .string (strL x2)]) (by omega) | exact (C7.ext ((Ext.refl _).alloc _).drew).on (On.sets _ 0 [.int .i64 4, .string (strL []), .string (strL x2)]) (by omega) | fail))
    (first
      | (go_at_call 20; go_must (refine (may_g _ 4 [] x2 _ HM.out).mono ?_; rintro e w8 ⟨rfl, rfl⟩))
      | fail)
  all_goals
    go_wp2_with fail
    try simp only [Exit.inBlock, Exit.then]
    first
      | (have B9 := ((B7.ext ((Ext.refl _).alloc (.cells #[.int .i64 4, .string (strL []), .string (strL x2)] 28))).sets (ds := [.int .i64 4, .string (strL []), .string (strL x2)]) rfl).ext (Ext.refl _).drew; have O9 := ((hE7.trans ((Ext.refl _).alloc (.cells #[.int .i64 4, .string (strL []), .string (strL x2)] 28))).on (On.sets (g := w.heap.size) _ 0 [.int .i64 4, .string (strL []), .string (strL x2)]) (Nat.le_refl _)).drew; refine ret_box rfl rfl rfl rfl B9 Try.underlying28 rfl (by kernel_rfl) ?_; exact RetOne.may 4 [] x2 b HRES.out O9)
      | fail

set_option maxRecDepth 100000 in
set_option maxHeartbeats 2000000 in
theorem one_5r (w : World) (s : List UInt8) (hs : s.length ≤ 100000000) (x2 : List UInt8) (n2 : Nat) (r2 : Int) (h2 : readT (s) = (x2, n2, r2)) (hr2 : r2 ≠ 0) :
    Calls Try.prog 24 #[.int .u8 5, .string (strL s)] w (RetOne w (oneP 5 s)) := by
  have HRES := Lib.hid ((show oneP 5 s = tailP 5 [] s from by unfold oneP; rw [if_neg (by decide), if_neg (by decide)]).trans (tail_r _ _ _ _ _ _ h2 hr2))
  have HSZ := Lib.hid (show (strL s).size ≤ maxLen by rw [strL_size]; unfold maxLen; omega)
  obtain ⟨t, ht⟩ : ∃ t, t = s := ⟨_, rfl⟩
  rw [← ht] at h2
  subst ht
  have H2 := Lib.hid h2
  have hb2 : (r2 == 0) = false := by simpa using hr2
  have tok : True := trivial
  clear h2 hr2
  go_enter Try.func24, Try.ntmps24
  go_wp2_with (first
    | ((with_reducible show wpList _ _ _ (⟨some 18, _, _, _, _, _⟩ :: _) _ _); refine wpl_bytes bt _ HSZ.out rfl _ rfl rfl ?_; intro A3 m3 k3 w3 hr3 hob hx3; rw [strL_toList] at hr3; obtain ⟨rfl, hk3⟩ := rd_shape hr3; have hneA : ∀ a, A3 = some a → a.block ≠ w.heap.size + 1 := own_ne hob (by simp); obtain ⟨B3, C3, hE⟩ := two_boxes w w3 0 5 28 28 _ _ rfl rfl hx3; clear hx3 hob; have c0 := C3.at (j := 0) rfl)
    | (go_at_call 23; refine (rt_b _ _ _ _ _ _ hr3 H2.out).mono ?_; rintro e w6 ⟨rfl, rfl⟩)
    | ((with_reducible show wpList _ _ _ (⟨none, Op.store _ _ _, _, _, _, _⟩ :: _) _ _); clear tok; refine wpl_store_cell rfl _ _ _ rfl (w.heap.size + 1) 2 (.string (strL x2)) rfl rfl rfl rfl (by kernel_rfl) C3 (by simp) ?_; intro w6 C6 O6; have B6 := B3.on O6 (by omega); have hE6 := hE.on O6 (by omega))
    | fail)
  clear hr3 O6 c0 B3 C3 hE hneA
  have C7 : BoxF w6 (w.heap.size + 1) [.int .i64 5, .string (strL []), .string (strL x2)] := C6
  have B7 : BoxF w6 w.heap.size (chg0 0) := B6
  have hE7 : Ext w w6 := hE6
  clear B6 C6 hE6
  obtain ⟨z0, z1, z2⟩ := B7.c3
  obtain ⟨y0, y1, y2⟩ := B7.f3
  obtain ⟨p0, p1, p2⟩ := C7.c3
  try dsimp only [Act.put]
  first | go_region | fail
  all_goals
    go_wp2_with fail
    try simp only [Exit.inBlock, Exit.then]
    have B9 := (B7.sets (ds := [.int .i64 5, .string (strL []), .string (strL x2)]) rfl).ext (Ext.refl _).drew
    have O9 := (hE7.on (On.sets (g := w.heap.size) _ 0 [.int .i64 5, .string (strL []), .string (strL x2)]) (Nat.le_refl _)).drew
    refine ret_box rfl rfl rfl rfl B9 Try.underlying28 rfl (by kernel_rfl) ?_
    exact RetOne.no HRES.out _ _ _ O9

set_option maxRecDepth 100000 in
set_option maxHeartbeats 2000000 in
theorem one_5n (w : World) (s : List UInt8) (hs : s.length ≤ 100000000) (x2 : List UInt8) (n2 : Nat) (h2 : readT (s) = (x2, n2, 0)) (hn2 : n2 ≠ (s).length) :
    Calls Try.prog 24 #[.int .u8 5, .string (strL s)] w (RetOne w (oneP 5 s)) := by
  have HRES := Lib.hid ((show oneP 5 s = tailP 5 [] s from by unfold oneP; rw [if_neg (by decide), if_neg (by decide)]).trans (tail_n _ _ _ _ _ h2 hn2))
  have HSZ := Lib.hid (show (strL s).size ≤ maxLen by rw [strL_size]; unfold maxLen; omega)
  obtain ⟨t, ht⟩ : ∃ t, t = s := ⟨_, rfl⟩
  rw [← ht] at h2 hn2
  subst ht
  have H2 := Lib.hid h2
  have hb2 : ((n2 : Int) == (t.length : Int)) = false := by simp; omega
  have tok : True := trivial
  clear h2 hn2
  go_enter Try.func24, Try.ntmps24
  go_wp2_with (first
    | ((with_reducible show wpList _ _ _ (⟨some 18, _, _, _, _, _⟩ :: _) _ _); refine wpl_bytes bt _ HSZ.out rfl _ rfl rfl ?_; intro A3 m3 k3 w3 hr3 hob hx3; rw [strL_toList] at hr3; obtain ⟨rfl, hk3⟩ := rd_shape hr3; have hneA : ∀ a, A3 = some a → a.block ≠ w.heap.size + 1 := own_ne hob (by simp); obtain ⟨B3, C3, hE⟩ := two_boxes w w3 0 5 28 28 _ _ rfl rfl hx3; clear hx3 hob; have c0 := C3.at (j := 0) rfl)
    | (go_at_call 23; refine (rt_b _ _ _ _ _ _ hr3 H2.out).mono ?_; rintro e w6 ⟨rfl, rfl⟩)
    | ((with_reducible show wpList _ _ _ (⟨none, Op.store _ _ _, _, _, _, _⟩ :: _) _ _); clear tok; refine wpl_store_cell rfl _ _ _ rfl (w.heap.size + 1) 2 (.string (strL x2)) rfl rfl rfl rfl (by kernel_rfl) C3 (by simp) ?_; intro w6 C6 O6; have B6 := B3.on O6 (by omega); have hE6 := hE.on O6 (by omega))
    | fail)
  clear hr3 O6 c0 B3 C3 hE hneA
  have C7 : BoxF w6 (w.heap.size + 1) [.int .i64 5, .string (strL []), .string (strL x2)] := C6
  have B7 : BoxF w6 w.heap.size (chg0 0) := B6
  have hE7 : Ext w w6 := hE6
  clear B6 C6 hE6
  obtain ⟨z0, z1, z2⟩ := B7.c3
  obtain ⟨y0, y1, y2⟩ := B7.f3
  obtain ⟨p0, p1, p2⟩ := C7.c3
  try dsimp only [Act.put]
  first | go_region | fail
  all_goals
    go_wp2_with fail
    try simp only [Exit.inBlock, Exit.then]
    have B9 := (B7.sets (ds := [.int .i64 5, .string (strL []), .string (strL x2)]) rfl).ext (Ext.refl _).drew
    have O9 := (hE7.on (On.sets (g := w.heap.size) _ 0 [.int .i64 5, .string (strL []), .string (strL x2)]) (Nat.le_refl _)).drew
    refine ret_box rfl rfl rfl rfl B9 Try.underlying28 rfl (by kernel_rfl) ?_
    exact RetOne.no HRES.out _ _ _ O9

set_option maxRecDepth 100000 in
set_option maxHeartbeats 2000000 in
theorem one_5m (w : World) (s : List UInt8) (hs : s.length ≤ 100000000) (x2 : List UInt8) (n2 : Nat) (h2 : readT (s) = (x2, n2, 0)) (hn2 : n2 = (s).length) (b : Bool) (hm : mayP (5, [], x2) = b) :
    Calls Try.prog 24 #[.int .u8 5, .string (strL s)] w (RetOne w (oneP 5 s)) := by
  have HRES := Lib.hid ((show oneP 5 s = tailP 5 [] s from by unfold oneP; rw [if_neg (by decide), if_neg (by decide)]).trans (tail_m _ _ _ _ _ _ h2 hn2 hm))
  have HSZ := Lib.hid (show (strL s).size ≤ maxLen by rw [strL_size]; unfold maxLen; omega)
  obtain ⟨t, ht⟩ : ∃ t, t = s := ⟨_, rfl⟩
  rw [← ht] at h2 hn2
  subst ht
  have H2 := Lib.hid h2
  subst hn2
  have HM := Lib.hid hm
  have tok : True := trivial
  clear h2 hm
  go_enter Try.func24, Try.ntmps24
  go_wp2_with (first
    | ((with_reducible show wpList _ _ _ (⟨some 18, _, _, _, _, _⟩ :: _) _ _); refine wpl_bytes bt _ HSZ.out rfl _ rfl rfl ?_; intro A3 m3 k3 w3 hr3 hob hx3; rw [strL_toList] at hr3; obtain ⟨rfl, hk3⟩ := rd_shape hr3; have hneA : ∀ a, A3 = some a → a.block ≠ w.heap.size + 1 := own_ne hob (by simp); obtain ⟨B3, C3, hE⟩ := two_boxes w w3 0 5 28 28 _ _ rfl rfl hx3; clear hx3 hob; have c0 := C3.at (j := 0) rfl)
    | (go_at_call 23; refine (rt_b _ _ _ _ _ _ hr3 H2.out).mono ?_; rintro e w6 ⟨rfl, rfl⟩)
    | ((with_reducible show wpList _ _ _ (⟨none, Op.store _ _ _, _, _, _, _⟩ :: _) _ _); clear tok; refine wpl_store_cell rfl _ _ _ rfl (w.heap.size + 1) 2 (.string (strL x2)) rfl rfl rfl rfl (by kernel_rfl) C3 (by simp) ?_; intro w6 C6 O6; have B6 := B3.on O6 (by omega); have hE6 := hE.on O6 (by omega))
    | fail)
  clear hr3 O6 c0 B3 C3 hE hneA
  have C7 : BoxF w6 (w.heap.size + 1) [.int .i64 5, .string (strL []), .string (strL x2)] := C6
  have B7 : BoxF w6 w.heap.size (chg0 0) := B6
  have hE7 : Ext w w6 := hE6
  clear B6 C6 hE6
  obtain ⟨z0, z1, z2⟩ := B7.c3
  obtain ⟨y0, y1, y2⟩ := B7.f3
  have za0 : ∀ o, (w6.alloc o).cell? ⟨w.heap.size, 0, none⟩ = _ := fun o => (B7.ext ((Ext.refl _).alloc o)).c3.1
  have ya0 : ∀ o, (w6.alloc o).frozen? ⟨w.heap.size, 0, none⟩ = false := fun o => (B7.ext ((Ext.refl _).alloc o)).f3.1
  have za1 : ∀ o, (w6.alloc o).cell? ⟨w.heap.size, 1, none⟩ = _ := fun o => (B7.ext ((Ext.refl _).alloc o)).c3.2.1
  have ya1 : ∀ o, (w6.alloc o).frozen? ⟨w.heap.size, 1, none⟩ = false := fun o => (B7.ext ((Ext.refl _).alloc o)).f3.2.1
  have za2 : ∀ o, (w6.alloc o).cell? ⟨w.heap.size, 2, none⟩ = _ := fun o => (B7.ext ((Ext.refl _).alloc o)).c3.2.2
  have ya2 : ∀ o, (w6.alloc o).frozen? ⟨w.heap.size, 2, none⟩ = false := fun o => (B7.ext ((Ext.refl _).alloc o)).f3.2.2
  go_region_held3 (fun W' => W'.cell? ⟨w.heap.size + 1, 0, none⟩ = some (.int .i64 5) ∧ W'.cell? ⟨w.heap.size + 1, 1, none⟩ = some (.string (strL [])) ∧ W'.cell? ⟨w.heap.size + 1, 2, none⟩ = some (.string (strL x2))) ((refine BoxF.c3 ?_; first | exact C7.ext (Ext.refl _).drew | exact C7.ext ((Ext.refl _).drew.alloc _) | exact C7.ext ((Ext.refl _).alloc _).drew | exact (C7.ext ((Ext.refl _).drew.alloc _)).on (g := w.heap.size + 1) (On.sets _ 0 [.int .i64 5, .string (strL []), .string (strL x2)]) (by omega) | exact (C7.ext ((Ext.refl _).alloc _).drew).on (On.sets _ 0 [.int .i64 5, .string (strL []), .string (strL x2)]) (by omega) | fail))
    (first
      | (go_at_call 20; go_must (refine (may_g _ 5 [] x2 _ HM.out).mono ?_; rintro e w8 ⟨rfl, rfl⟩))
      | fail)
  all_goals
    go_wp2_with fail
    try simp only [Exit.inBlock, Exit.then]
    first
      | (have B9 := ((B7.ext ((Ext.refl _).alloc (.cells #[.int .i64 5, .string (strL []), .string (strL x2)] 28))).sets (ds := [.int .i64 5, .string (strL []), .string (strL x2)]) rfl).ext (Ext.refl _).drew; have O9 := ((hE7.trans ((Ext.refl _).alloc (.cells #[.int .i64 5, .string (strL []), .string (strL x2)] 28))).on (On.sets (g := w.heap.size) _ 0 [.int .i64 5, .string (strL []), .string (strL x2)]) (Nat.le_refl _)).drew; refine ret_box rfl rfl rfl rfl B9 Try.underlying28 rfl (by kernel_rfl) ?_; exact RetOne.may 5 [] x2 b HRES.out O9)
      | fail
end Go.Proofs.Ytdjnjhlgpflcjaa
