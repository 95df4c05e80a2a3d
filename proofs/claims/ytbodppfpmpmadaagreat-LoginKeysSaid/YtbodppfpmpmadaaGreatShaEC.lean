import Derived.Test.YtbodppfpmpmadaaGreatShaDC
namespace Go.Proofs.YtbodppfpmpmadaaGreat
open Go.RowKit

def K2 : List Int := [1116352408, 1899447441, 3049323471, 3921009573, 961987163, 1508970993, 2453635748, 2870763221, 3624381080, 310598401, 607225278, 1426881987, 1925078388, 2162078206, 2614888103, 3248222580, 3835390401, 4022224774, 264347078, 604807628, 770255983, 1249150122, 1555081692, 1996064986, 2554220882, 2821834349, 2952996808, 3210313671, 3336571891, 3584528711, 113926993, 338241895, 666307205, 773529912, 1294757372, 1396182291, 1695183700, 1986661051, 2177026350, 2456956037, 2730485921, 2820302411, 3259730800, 3345764771, 3516065817, 3600352804, 4094571909, 275423344, 430227734, 506948616, 659060556, 883997877, 958139571, 1322822218, 1537002063, 1747873779, 1955562222, 2024104815, 2227730452, 2361852424, 2428436474, 2756734187, 3204031479, 3329325298]
def sg0 (x : Int) : Int := bits .xor .u32 (bits .xor .u32 (rolS x 25) (rolS x 14)) (x / 8)
def sg1 (x : Int) : Int := bits .xor .u32 (bits .xor .u32 (rolS x 15) (rolS x 13)) (x / 1024)
def sch2 (rest : List UInt8) : Nat → List Int
  | 0 => []
  | t + 1 => sch2 rest t ++ [if t < 16 then wordS (rest.getD (4 * t) 0) (rest.getD (4 * t + 1) 0) (rest.getD (4 * t + 2) 0) (rest.getD (4 * t + 3) 0)
      else add32 (add32 (add32 (sg1 ((sch2 rest t).getD (t - 2) 0)) ((sch2 rest t).getD (t - 7) 0)) (sg0 ((sch2 rest t).getD (t - 15) 0))) ((sch2 rest t).getD (t - 16) 0)]
theorem sch2_length (rest : List UInt8) : ∀ t, (sch2 rest t).length = t
  | 0 => rfl
  | t + 1 => by rw [sch2, List.length_append, sch2_length rest t]; rfl
def bs1 (e : Int) : Int := bits .xor .u32 (bits .xor .u32 (rolS e 26) (rolS e 21)) (rolS e 7)
def bs0 (a : Int) : Int := bits .xor .u32 (bits .xor .u32 (rolS a 30) (rolS a 19)) (rolS a 10)
def ch2 (e f g : Int) : Int := bits .xor .u32 (bits .and .u32 e f) (bits .and .u32 (bits .xor .u32 IntKind.u32.max e) g)
def mj2 (a b c : Int) : Int := bits .xor .u32 (bits .xor .u32 (bits .and .u32 a b) (bits .and .u32 a c)) (bits .and .u32 b c)
def xx2 (e f g i k p : Int) : Int := add32 (add32 (add32 (add32 i (bs1 e)) (ch2 e f g)) k) p
def yy2 (a b c : Int) : Int := add32 (bs0 a) (mj2 a b c)
def rnd2 (p s : List Int) (t : Nat) : List Int :=
  let X := xx2 (s.getD 4 0) (s.getD 5 0) (s.getD 6 0) (s.getD 7 0) (K2.getD t 0) (p.getD t 0)
  [add32 X (yy2 (s.getD 0 0) (s.getD 1 0) (s.getD 2 0)), s.getD 0 0, s.getD 1 0, s.getD 2 0, add32 (s.getD 3 0) X, s.getD 4 0, s.getD 5 0, s.getD 6 0]
def rnds2 (p s : List Int) : Nat → List Int
  | 0 => s
  | t + 1 => rnd2 p (rnds2 p s t) t
theorem add32_4 (a b c d : Int) : (a + b + c + d) % 4294967296 = add32 (add32 (add32 a b) c) d := by
  have h : ∀ x, IntKind.u32.wrap x = x % 4294967296 := fun _ => rfl
  unfold add32
  rw [h, h, h]
  omega
theorem add32_7 (i b c k p s m : Int) : (i + b + c + k + p + (s + m)) % 4294967296 = add32 (add32 (add32 (add32 (add32 i b) c) k) p) (add32 s m) := by
  have h : ∀ x, IntKind.u32.wrap x = x % 4294967296 := fun _ => rfl
  unfold add32
  rw [h, h, h, h, h, h]
  omega
theorem add32_6 (d i b c k p : Int) : (d + (i + b + c + k + p)) % 4294967296 = add32 d (add32 (add32 (add32 (add32 i b) c) k) p) := by
  have h : ∀ x, IntKind.u32.wrap x = x % 4294967296 := fun _ => rfl
  unfold add32
  rw [h, h, h, h, h]
  omega
theorem rnds2_succ {p s : List Int} {t : Nat} {a b c d e f g i : Int} (h : rnds2 p s t = [a, b, c, d, e, f, g, i]) :
    rnds2 p s (t + 1) = [add32 (xx2 e f g i (K2.getD t 0) (p.getD t 0)) (yy2 a b c), a, b, c, add32 d (xx2 e f g i (K2.getD t 0) (p.getD t 0)), e, f, g] := by
  rw [rnds2, h, rnd2]
  rfl
theorem rnds2_length (p s : List Int) (h : s.length = 8) : ∀ t, (rnds2 p s t).length = 8
  | 0 => h
  | _ + 1 => rfl
def comp2 (ws : List Int) (rest : List UInt8) : List Int := addW ws (rnds2 (sch2 rest 64) ws 64) 8

def wc (l : List Int) : List Value := l.map (Value.int .u32)
theorem wc_length (l : List Int) : (wc l).length = l.length := by simp [wc]
theorem wc_get (l : List Int) (j : Nat) (h : j < l.length) : (wc l)[j]? = some (.int .u32 (l.getD j 0)) := by
  simp [wc, List.getElem?_eq_getElem h, List.getD]
section
variable {P : Program} {w : World} {a : Act}
theorem ret_box1 {fn : Func} {R : Ending → World → Prop} {p : Tmp} {ty : TypeId} {g : Nat} {cs : List Value} {d : TypeDesc} (h : fn.results = #[.cell p ty]) (hd : a.defers = [])
    (hp : a.tmps.getD p undef = .pointer (some ⟨g, 0, none⟩)) (B : BoxF w g cs) (hu : P.underlying ty = some d) (hrow : d.isRow = true) (hi : (P.info? ty).map (·.size) = some cs.length)
    (hR : R (.returned (.agg cs.toArray)) w) : bodyPost P fn R .ret a w := by
  refine bodyPost_ret (v := .agg cs.toArray) ?_ hd hR
  have e : (results fn a.tmps).run P w = ((asAddr (a.tmps.getD p undef)).run P w).andThen fun a w' => (loadVar ty a).run P w' := by
    simp only [results, h]
    simp [Sem.run_bind]
  rw [e, hp]
  simp only [asAddr, Sem.run_pure, Result.andThen_ok, run_loadVar_mid w g 0 ty cs d B.box.range hu hrow hi]
end

set_option maxRecDepth 100000 in
set_option maxHeartbeats 1000000 in
theorem constants_c (w : World) : Calls Tryz.prog 220 #[] w fun e w' => e = .returned (.agg (wc K2).toArray) ∧ Ext w w' := by
  go_enter Tryz.func220, Tryz.ntmps220
  go_wp2_with (first
    | ((with_reducible show wpList _ _ _ (⟨some 0, Op.alloc _, _, _, _, _⟩ :: _) _ _); refine wpl_alloc rfl _ rfl (arrC [] 64) (by kernel_rfl) ?_; intro w1 B1 hx1)
    | ((with_reducible show wpList _ _ _ (⟨none, Op.store _ _ _, _, _, _, _⟩ :: _) _ _); refine wpl_store_box rfl _ _ _ rfl w.heap.size (wc K2) rfl rfl B1 (by kernel_rfl) (by kernel_rfl) (by kernel_rfl) ?_; intro w2 B2 O2)
    | fail)
  exact ret_box1 (p := 0) (ty := 203) rfl rfl rfl B2 Tryz.underlying203 rfl (by kernel_rfl) ⟨rfl, hx1.on O2 (Nat.le_refl _)⟩

set_option maxRecDepth 100000 in
set_option maxHeartbeats 4000000 in
theorem block2_c (w : World) (h : Nat) (kind : Int) (ws : List Int) (rest : List UInt8) (n all : Int) (H : BoxF w h (hashC kind ws rest n all)) (hw : ws.length = 8) (hr : rest.length = 64) :
    Calls Tryz.prog 210 #[.pointer (some ⟨h, 0, none⟩)] w fun e w' => e = .returned (.tuple #[]) ∧ On h w w' ∧ BoxF w' h (hashC kind (comp2 ws rest) rest n all) := by
  obtain ⟨y0, y1, y2, y3, y4, y5, y6, y7, rfl⟩ : ∃ a b c d e f g i, ws = [a, b, c, d, e, f, g, i] := by
    match ws, hw with
    | [a, b, c, d, e, f, g, i], _ => exact ⟨a, b, c, d, e, f, g, i, rfl⟩
  have H0 := Lib.hid H
  clear H
  have hlt : h < w.heap.size := H0.out.lt
  have HLT := Lib.hid hlt
  clear hlt
  go_enter Tryz.func210, Tryz.ntmps210
  go_wp2_with ((with_reducible show wpList _ _ _ (⟨some 2, Op.alloc _, _, _, _, _⟩ :: _) _ _); refine wpl_alloc rfl _ rfl (arrC [] 64) (by kernel_rfl) ?_; intro w1 B1 hx1)
  go_loopw [3, 4, 5, 20] (fun _ _ _ i W => ∃ t : Nat, t ≤ 64 ∧ i = .int .i64 t ∧ BoxF W w.heap.size (arrC (sch2 rest t) 64) ∧ Ext w W) (fun _ _ _ i _ => 64 - (intOf i).toNat)
  case atStart => exact ⟨0, Nat.zero_le _, rfl, B1, hx1⟩
  case round =>
    obtain ⟨t, ht, rfl, B, hx⟩ := hrel
    have HB := Lib.hid B
    by_cases h16 : t < 16
    · have m0 : IntKind.i64.wrap (4 * (t : Int)) = ((4 * t : Nat) : Int) := by rw [IntKind.wrap_i64]; omega
      have hlen := sch2_length rest t
      have hd := drop4 (l := rest) (j := 4 * t) (by omega)
      have hR := hash_rest (H0.out.ext hx) hw hr (4 * t) (64 - 4 * t) (by omega) rfl
      rw [hd] at hR
      go_wp2_with (first
        | ((with_reducible show AtS 31); refine wpl_slice_arr rfl _ _ 64 Tryz.underlying185 (sizeOf_u8 bt) _ _ _ rfl h 9 (4 * t) rfl _ rfl (by omega) (by omega) ?_)
        | (go_at_call 217; refine (word_c _ _ _ _ _ _ _ hR).mono ?_; rintro e w2 ⟨rfl, hx2⟩; have B2 := B.ext hx2)
        | ((with_reducible show wpList _ _ _ (⟨none, Op.store _ _ _, _, _, _, _⟩ :: _) _ _); refine wpl_store_cell rfl _ _ _ rfl _ t (.int .u32 (wordS (rest.getD (4 * t) 0) (rest.getD (4 * t + 1) 0) (rest.getD (4 * t + 2) 0) (rest.getD (4 * t + 3) 0))) rfl rfl rfl rfl (by kernel_rfl) B2 (by rw [arrC_length _ _ (by omega)]; omega) ?_; intro w3 B3 O3)
        | fail)
      have e := arrC_set (sch2 rest t) 64 (wordS (rest.getD (4 * t) 0) (rest.getD (4 * t + 1) 0) (rest.getD (4 * t + 2) 0) (rest.getD (4 * t + 3) 0)) (by omega)
      rw [hlen] at e
      rw [e] at B3
      have e2 : sch2 rest (t + 1) = sch2 rest t ++ [wordS (rest.getD (4 * t) 0) (rest.getD (4 * t + 1) 0) (rest.getD (4 * t + 2) 0) (rest.getD (4 * t + 3) 0)] := by rw [sch2, if_pos h16]
      go_roundw
      case rel => exact ⟨t + 1, by omega, by go_num, by rw [e2]; exact B3, (hx.trans hx2).on O3 (Nat.le_refl _)⟩
      case measure => simp [intOf]; omega
    · by_cases h64 : t < 64
      · have hlen := sch2_length rest t
        obtain ⟨a2, ha2⟩ : ∃ a2, a2 = t - 2 := ⟨_, rfl⟩
        obtain ⟨a7, ha7⟩ : ∃ a7, a7 = t - 7 := ⟨_, rfl⟩
        obtain ⟨a15, ha15⟩ : ∃ a15, a15 = t - 15 := ⟨_, rfl⟩
        obtain ⟨a16, ha16⟩ : ∃ a16, a16 = t - 16 := ⟨_, rfl⟩
        have m2 : IntKind.i64.wrap ((t : Int) - 2) = (a2 : Int) := by rw [IntKind.wrap_i64]; omega
        have m7 : IntKind.i64.wrap ((t : Int) - 7) = (a7 : Int) := by rw [IntKind.wrap_i64]; omega
        have m15 : IntKind.i64.wrap ((t : Int) - 15) = (a15 : Int) := by rw [IntKind.wrap_i64]; omega
        have m16 : IntKind.i64.wrap ((t : Int) - 16) = (a16 : Int) := by rw [IntKind.wrap_i64]; omega
        have b2 : (a2 : Int) < 64 := by omega
        have b7 : (a7 : Int) < 64 := by omega
        have b15 : (a15 : Int) < 64 := by omega
        have b16 : (a16 : Int) < 64 := by omega
        have n2 : a2 < 64 := by omega
        have n7 : a7 < 64 := by omega
        have n15 : a15 < 64 := by omega
        have n16 : a16 < 64 := by omega
        have e2 : sch2 rest (t + 1) = sch2 rest t ++ [add32 (add32 (add32 (sg1 ((sch2 rest t).getD a2 0)) ((sch2 rest t).getD a7 0)) (sg0 ((sch2 rest t).getD a15 0))) ((sch2 rest t).getD a16 0)] := by
          rw [sch2, if_neg h16, ha2, ha7, ha15, ha16]
        have c2 := B.at (arrC_get (sch2 rest t) 64 a2 (by omega))
        have c7 := B.at (arrC_get (sch2 rest t) 64 a7 (by omega))
        have c15 := B.at (arrC_get (sch2 rest t) 64 a15 (by omega))
        have c16 := B.at (arrC_get (sch2 rest t) 64 a16 (by omega))
        generalize (sch2 rest t).getD a2 0 = x2 at c2 e2
        generalize (sch2 rest t).getD a7 0 = x7 at c7 e2
        generalize (sch2 rest t).getD a15 0 = x15 at c15 e2
        generalize (sch2 rest t).getD a16 0 = x16 at c16 e2
        have hz : wr.cell? ⟨w.heap.size, t, none⟩ = some (.int .u32 0) := by
          refine B.at ?_
          rw [arrC, List.getElem?_map, List.getElem?_append_right (by omega), hlen, Nat.sub_self]
          obtain ⟨q, hq⟩ : ∃ q, 64 - t = q + 1 := ⟨64 - t - 1, by omega⟩
          rw [hq]
          rfl
        have hf := B.free t (by rw [arrC_length _ _ (by omega)]; omega)
        have d2 : (World.drew wr).cell? ⟨w.heap.size, a2, none⟩ = some (.int .u32 x2) := c2
        have d15 : (World.drew wr).cell? ⟨w.heap.size, a15, none⟩ = some (.int .u32 x15) := c15
        have dd2 : (World.drew (World.drew wr)).cell? ⟨w.heap.size, a2, none⟩ = some (.int .u32 x2) := c2
        clear ha2 ha7 ha15 ha16
        go_wp2_with fail
        go_region_held3 (fun W' => W'.cell? ⟨w.heap.size, a15, none⟩ = some (.int .u32 x15))
          ((first | (with_reducible exact d15) | fail))
          (first | (go_at_call 219; (with_reducible show Calls _ _ #[_, Value.int .i64 7] _ _); refine (ror_25 _ _).mono ?_; rintro e w2 ⟨rfl, rfl⟩) | (go_at_call 219; refine (ror_14 _ _).mono ?_; rintro e w2 ⟨rfl, rfl⟩) | fail)
        go_wp2_with fail
        go_region_held3 (fun W' => W'.cell? ⟨w.heap.size, a2, none⟩ = some (.int .u32 x2))
          ((first | (with_reducible exact dd2) | fail))
          (first | (go_at_call 219; (with_reducible show Calls _ _ #[_, Value.int .i64 17] _ _); refine (ror_15 _ _).mono ?_; rintro e w2 ⟨rfl, rfl⟩) | (go_at_call 219; refine (ror_13 _ _).mono ?_; rintro e w2 ⟨rfl, rfl⟩) | fail)
        go_wp2_with fail
        go_region
        all_goals
          go_wp2_with fail
          have e4 := add32_4 (sg1 x2) x7 (sg0 x15) x16
          have B3 := (B.set t (.int .u32 ((sg1 x2 + x7 + sg0 x15 + x16) % 4294967296))).ext (Ext.refl _).drew.drew.drew
          have e := arrC_set (sch2 rest t) 64 ((sg1 x2 + x7 + sg0 x15 + x16) % 4294967296) (by omega)
          rw [hlen] at e
          rw [e] at B3
          rw [← e4] at e2
          go_roundw
          case rel => exact ⟨t + 1, by omega, by go_num, by rw [e2]; exact B3, (hx.on ((On.refl _ wr).set t (.int .u32 _)) (Nat.le_refl _)).drew.drew.drew⟩
          case measure => simp [intOf]; omega
      · obtain rfl : t = 64 := by omega
        simp only [Int.cast_ofNat_Int]
        have HW := Lib.hid (H0.out.ext hx)
        have q1 : wr.cell? ⟨h, 1, none⟩ = some (.int .u32 y0) := HW.out.at (j := 1) rfl
        have q2 : wr.cell? ⟨h, 2, none⟩ = some (.int .u32 y1) := HW.out.at (j := 2) rfl
        have q3 : wr.cell? ⟨h, 3, none⟩ = some (.int .u32 y2) := HW.out.at (j := 3) rfl
        have q4 : wr.cell? ⟨h, 4, none⟩ = some (.int .u32 y3) := HW.out.at (j := 4) rfl
        have q5 : wr.cell? ⟨h, 5, none⟩ = some (.int .u32 y4) := HW.out.at (j := 5) rfl
        have q6 : wr.cell? ⟨h, 6, none⟩ = some (.int .u32 y5) := HW.out.at (j := 6) rfl
        have q7 : wr.cell? ⟨h, 7, none⟩ = some (.int .u32 y6) := HW.out.at (j := 7) rfl
        have q8 : wr.cell? ⟨h, 8, none⟩ = some (.int .u32 y7) := HW.out.at (j := 8) rfl
        have hsz : w.heap.size < wr.heap.size := B.lt
        have HSZ := Lib.hid hsz
        clear hsz
        go_wp2_with (first
          | ((with_reducible show wpList _ _ _ (⟨some 87, Op.load _ _, _, _, _, _⟩ :: _) _ _); refine wpl_load_p rfl _ _ rfl h 1 rfl (wc [y0, y1, y2, y3, y4, y5, y6, y7]) _ (Box.part (cs := hashC kind [y0, y1, y2, y3, y4, y5, y6, y7] rest n all) HW.out.box 8 rfl) Tryz.underlying183 rfl (by kernel_rfl) ?_)
          | ((with_reducible show wpList _ _ _ (⟨some 6, Op.alloc _, _, _, _, _⟩ :: _) _ _); refine wpl_alloc rfl _ rfl (wc [0, 0, 0, 0, 0, 0, 0, 0]) (by kernel_rfl) ?_; intro w3 Bv3 hx3)
          | ((with_reducible show AtW 183); refine wpl_store_box rfl _ _ _ rfl wr.heap.size (wc [y0, y1, y2, y3, y4, y5, y6, y7]) rfl rfl Bv3 (by kernel_rfl) (by kernel_rfl) (by kernel_rfl) ?_; intro w4 Bv4 O4; have hx4 := hx3.on O4 (Nat.le_refl _))
          | (go_at_call 220; refine (constants_c _).mono ?_; rintro e w5 ⟨rfl, hx5⟩; have Bv5 := Bv4.ext hx5)
          | ((with_reducible show wpList _ _ _ (⟨some 7, Op.alloc _, _, _, _, _⟩ :: _) _ _); refine wpl_alloc rfl _ rfl (arrC [] 64) (by kernel_rfl) ?_; intro w6 Bk6 hx6)
          | ((with_reducible show AtW 203); refine wpl_store_box rfl _ _ _ rfl w5.heap.size (wc K2) rfl rfl Bk6 (by kernel_rfl) (by kernel_rfl) (by kernel_rfl) ?_; intro w7 Bk7 O7; have hx7 := hx6.on O7 (Nat.le_refl _))
          | fail)
        clear q1 q2 q3 q4 q5 q6 q7 q8 HB
        obtain ⟨p, hpe⟩ : ∃ p, p = sch2 rest 64 := ⟨_, rfl⟩
        have hlp0 := sch2_length rest 64
        rw [← hpe] at B hlp0
        have HPE := Lib.hid hpe
        have HLP := Lib.hid hlp0
        clear hpe hlp0
        have Bv7 := Bv5.ext hx7
        have Bw7 := ((B.ext hx4).ext hx5).ext hx7
        have hxw7 := ((hx.trans hx4).trans hx5).trans hx7
        have hsk : wr.heap.size < w5.heap.size := Bv5.lt
        have hsw := HSZ.out
        generalize wr.heap.size = gv at *
        generalize w5.heap.size = gk at *
        generalize hgw : w.heap.size = gw at *
        have HGW := Lib.hid hgw
        have N1 := Lib.hid (show gv ≠ gw ∧ gk ≠ gv ∧ gw ≠ gv ∧ gw ≤ gv by omega)
        clear Bv3 hx3 Bv4 O4 hx4 Bv5 hx5 Bk6 hx6 O7 hx7 hsk hsw HSZ hgw
        go_loopw [8, 9, 10, 11, 12, 13, 14, 15, 16, 17, 89] (fun _ _ _ _ _ _ _ _ _ _ i W => ∃ t : Nat, ∃ xa xb xc xd xe xf xg xi : Int, t ≤ 64 ∧ i = .int .i64 t ∧ BoxF W gv (wc [xa, xb, xc, xd, xe, xf, xg, xi]) ∧ BoxF W gw (arrC p 64) ∧ BoxF W gk (wc K2) ∧ Ext w W ∧ rnds2 p [y0, y1, y2, y3, y4, y5, y6, y7] t = [xa, xb, xc, xd, xe, xf, xg, xi]) (fun _ _ _ _ _ _ _ _ _ _ i _ => 64 - (intOf i).toNat)
        case atStart => exact ⟨0, _, _, _, _, _, _, _, _, Nat.zero_le _, rfl, Bv7, Bw7, Bk7, hxw7, rfl⟩
        case round =>
          clear Bv7 Bw7 Bk7 hxw7 B hx HW
          obtain ⟨t, xa, xb, xc, xd, xe, xf, xg, xi, ht2, rfl, V, Bw, Bk, hx2, hs⟩ := hrel
          have HS := Lib.hid hs
          have HV := Lib.hid V
          have HBw := Lib.hid Bw
          have HBk := Lib.hid Bk
          have HX2 := Lib.hid hx2
          clear hs V Bw Bk hx2
          by_cases h64b : t < 64
          · have tb : (t : Int) < 64 := by omega
            have v0 : (World.drew wr).cell? ⟨gv, 0, none⟩ = some (.int .u32 xa) := HV.out.at (j := 0) rfl
            have v1 : (World.drew wr).cell? ⟨gv, 1, none⟩ = some (.int .u32 xb) := HV.out.at (j := 1) rfl
            have v2 : (World.drew wr).cell? ⟨gv, 2, none⟩ = some (.int .u32 xc) := HV.out.at (j := 2) rfl
            have v3 : (World.drew wr).cell? ⟨gv, 3, none⟩ = some (.int .u32 xd) := HV.out.at (j := 3) rfl
            have v4 : (World.drew wr).cell? ⟨gv, 4, none⟩ = some (.int .u32 xe) := HV.out.at (j := 4) rfl
            have v5 : (World.drew wr).cell? ⟨gv, 5, none⟩ = some (.int .u32 xf) := HV.out.at (j := 5) rfl
            have v6 : (World.drew wr).cell? ⟨gv, 6, none⟩ = some (.int .u32 xg) := HV.out.at (j := 6) rfl
            have v7 : (World.drew (World.drew wr)).cell? ⟨gv, 7, none⟩ = some (.int .u32 xi) := HV.out.at (j := 7) rfl
            obtain ⟨kt, hkt⟩ : ∃ k, k = K2.getD t 0 := ⟨_, rfl⟩
            obtain ⟨pt, hpt⟩ : ∃ k, k = p.getD t 0 := ⟨_, rfl⟩
            have ck : (World.drew (World.drew wr)).cell? ⟨gk, t, none⟩ = some (.int .u32 kt) := by rw [hkt]; exact HBk.out.at (wc_get K2 t h64b)
            have cp : (World.drew (World.drew wr)).cell? ⟨gw, t, none⟩ = some (.int .u32 pt) := by rw [hpt]; exact HBw.out.at (arrC_get p 64 t (by have := HLP.out; omega))
            have HK := Lib.hid hkt
            have HP := Lib.hid hpt
            clear hkt hpt
            go_wp2_with fail
            go_region_held3 (fun W' => W'.cell? ⟨gv, 0, none⟩ = some (.int .u32 xa) ∧ W'.cell? ⟨gv, 1, none⟩ = some (.int .u32 xb) ∧ W'.cell? ⟨gv, 2, none⟩ = some (.int .u32 xc) ∧ W'.cell? ⟨gv, 3, none⟩ = some (.int .u32 xd) ∧ W'.cell? ⟨gv, 4, none⟩ = some (.int .u32 xe) ∧ W'.cell? ⟨gv, 5, none⟩ = some (.int .u32 xf) ∧ W'.cell? ⟨gv, 6, none⟩ = some (.int .u32 xg))
              ((first | (with_reducible exact ⟨v0, v1, v2, v3, v4, v5, v6⟩) | fail)) (fail)
            go_wp2_with fail
            go_region_held3 (fun W' => W'.cell? ⟨gv, 7, none⟩ = some (.int .u32 xi) ∧ W'.cell? ⟨gk, t, none⟩ = some (.int .u32 kt) ∧ W'.cell? ⟨gw, t, none⟩ = some (.int .u32 pt))
              ((first | (with_reducible exact ⟨v7, ck, cp⟩) | fail))
              (first | (go_at_call 219; (with_reducible show Calls _ _ #[_, Value.int .i64 6] _ _); refine (ror_26 _ _).mono ?_; rintro e w2 ⟨rfl, rfl⟩) | (go_at_call 219; (with_reducible show Calls _ _ #[_, Value.int .i64 11] _ _); refine (ror_21 _ _).mono ?_; rintro e w2 ⟨rfl, rfl⟩) | (go_at_call 219; refine (ror_7 _ _).mono ?_; rintro e w2 ⟨rfl, rfl⟩) | fail)
            have VD : BoxF (World.drew (World.drew wr)) gv (wc [xa, xb, xc, xd, xe, xf, xg, xi]) := HV.out.ext (Ext.refl _).drew.drew
            go_wp2_with (first
              | (go_at_call 219; (with_reducible show Calls _ _ #[_, Value.int .i64 2] _ _); refine (ror_30 _ _).mono ?_; rintro e w2 ⟨rfl, rfl⟩)
              | (go_at_call 219; (with_reducible show Calls _ _ #[_, Value.int .i64 13] _ _); refine (ror_19 _ _).mono ?_; rintro e w2 ⟨rfl, rfl⟩)
              | (go_at_call 219; (with_reducible show Calls _ _ #[_, Value.int .i64 22] _ _); refine (ror_10 _ _).mono ?_; rintro e w2 ⟨rfl, rfl⟩)
              | ((with_reducible show AtW 183); refine wpl_store_box rfl _ _ _ rfl gv (wc [_, _, _, _, _, _, _, _]) rfl rfl VD rfl (by kernel_rfl) rfl ?_; intro w4 V4 O4)
              | fail)
            have hS := rnds2_succ HS.out
            rw [← HK.out, ← HP.out, show add32 (xx2 xe xf xg xi kt pt) (yy2 xa xb xc) = _ from (add32_7 xi (bs1 xe) (ch2 xe xf xg) kt pt (bs0 xa) (mj2 xa xb xc)).symm, show add32 xd (xx2 xe xf xg xi kt pt) = _ from (add32_6 xd xi (bs1 xe) (ch2 xe xf xg) kt pt).symm] at hS
            go_roundw
            case rel => exact ⟨t + 1, _, _, _, _, _, _, _, _, by omega, by go_num, V4, (HBw.out.ext (Ext.refl _).drew.drew).on O4 N1.out.2.2.1, (HBk.out.ext (Ext.refl _).drew.drew).on O4 N1.out.2.1, HX2.out.drew.drew.on O4 (by rw [HGW.out]; exact N1.out.2.2.2), hS⟩
            case measure => simp [intOf]; omega
          · obtain rfl : t = 64 := by omega
            simp only [Int.cast_ofNat_Int]
            go_wp2_with (first
              | ((with_reducible show wpList _ _ _ (⟨some 168, Op.load _ _, _, _, _, _⟩ :: _) _ _); refine wpl_load_box rfl _ _ rfl gv rfl HV.out Tryz.underlying183 rfl (by kernel_rfl) ?_)
              | fail)
            have BH0 : BoxF wr h (hashC kind (addW [y0, y1, y2, y3, y4, y5, y6, y7] [xa, xb, xc, xd, xe, xf, xg, xi] 0) rest n all) := H0.out.ext HX2.out
            have O40 := On.of (g := h) HX2.out
            go_loopw [18, 19, 169] (fun _ _ i W => ∃ j : Nat, j ≤ 8 ∧ i = .int .i64 j ∧ BoxF W h (hashC kind (addW [y0, y1, y2, y3, y4, y5, y6, y7] [xa, xb, xc, xd, xe, xf, xg, xi] j) rest n all) ∧ On h w W) (fun _ _ i _ => 8 - (intOf i).toNat)
            case atStart => exact ⟨0, Nat.zero_le _, rfl, BH0, O40⟩
            case round =>
              clear BH0 O40
              obtain ⟨j, hj, rfl, BH, O4⟩ := hrel
              have i0 : ∀ w : World, (Instr.index 183 (.agg (wc [xa, xb, xc, xd, xe, xf, xg, xi]).toArray) (.int .i64 0)).run Tryz.prog w = .ok (.int .u32 xa) w := fun _ => by kernel_rfl
              have i1 : ∀ w : World, (Instr.index 183 (.agg (wc [xa, xb, xc, xd, xe, xf, xg, xi]).toArray) (.int .i64 1)).run Tryz.prog w = .ok (.int .u32 xb) w := fun _ => by kernel_rfl
              have i2 : ∀ w : World, (Instr.index 183 (.agg (wc [xa, xb, xc, xd, xe, xf, xg, xi]).toArray) (.int .i64 2)).run Tryz.prog w = .ok (.int .u32 xc) w := fun _ => by kernel_rfl
              have i3 : ∀ w : World, (Instr.index 183 (.agg (wc [xa, xb, xc, xd, xe, xf, xg, xi]).toArray) (.int .i64 3)).run Tryz.prog w = .ok (.int .u32 xd) w := fun _ => by kernel_rfl
              have i4 : ∀ w : World, (Instr.index 183 (.agg (wc [xa, xb, xc, xd, xe, xf, xg, xi]).toArray) (.int .i64 4)).run Tryz.prog w = .ok (.int .u32 xe) w := fun _ => by kernel_rfl
              have i5 : ∀ w : World, (Instr.index 183 (.agg (wc [xa, xb, xc, xd, xe, xf, xg, xi]).toArray) (.int .i64 5)).run Tryz.prog w = .ok (.int .u32 xf) w := fun _ => by kernel_rfl
              have i6 : ∀ w : World, (Instr.index 183 (.agg (wc [xa, xb, xc, xd, xe, xf, xg, xi]).toArray) (.int .i64 6)).run Tryz.prog w = .ok (.int .u32 xg) w := fun _ => by kernel_rfl
              have i7 : ∀ w : World, (Instr.index 183 (.agg (wc [xa, xb, xc, xd, xe, xf, xg, xi]).toArray) (.int .i64 7)).run Tryz.prog w = .ok (.int .u32 xi) w := fun _ => by kernel_rfl
              have hj8 : j = 0 ∨ j = 1 ∨ j = 2 ∨ j = 3 ∨ j = 4 ∨ j = 5 ∨ j = 6 ∨ j = 7 ∨ j = 8 := by omega
              rcases hj8 with rfl | rfl | rfl | rfl | rfl | rfl | rfl | rfl | rfl
              all_goals simp only [Int.cast_ofNat_Int]
              · have p := BH.at (j := 1) (v := .int .u32 y0) rfl
                have f := BH.free 1 (by rw [hashC_length, hr]; omega)
                go_wp2_with fail
                go_region
                all_goals
                  go_wp2_with fail
                  go_roundw
                  case rel => exact ⟨1, by omega, rfl, (BH.set 1 (.int .u32 (add32 y0 xa))).ext (Ext.refl _).drew, (O4.set 1 _).ext (Ext.refl _).drew⟩
                  case measure => simp [intOf]
              · have p := BH.at (j := 2) (v := .int .u32 y1) rfl
                have f := BH.free 2 (by rw [hashC_length, hr]; omega)
                go_wp2_with fail
                go_region
                all_goals
                  go_wp2_with fail
                  go_roundw
                  case rel => exact ⟨2, by omega, rfl, (BH.set 2 (.int .u32 (add32 y1 xb))).ext (Ext.refl _).drew, (O4.set 2 _).ext (Ext.refl _).drew⟩
                  case measure => simp [intOf]
              · have p := BH.at (j := 3) (v := .int .u32 y2) rfl
                have f := BH.free 3 (by rw [hashC_length, hr]; omega)
                go_wp2_with fail
                go_region
                all_goals
                  go_wp2_with fail
                  go_roundw
                  case rel => exact ⟨3, by omega, rfl, (BH.set 3 (.int .u32 (add32 y2 xc))).ext (Ext.refl _).drew, (O4.set 3 _).ext (Ext.refl _).drew⟩
                  case measure => simp [intOf]
              · have p := BH.at (j := 4) (v := .int .u32 y3) rfl
                have f := BH.free 4 (by rw [hashC_length, hr]; omega)
                go_wp2_with fail
                go_region
                all_goals
                  go_wp2_with fail
                  go_roundw
                  case rel => exact ⟨4, by omega, rfl, (BH.set 4 (.int .u32 (add32 y3 xd))).ext (Ext.refl _).drew, (O4.set 4 _).ext (Ext.refl _).drew⟩
                  case measure => simp [intOf]
              · have p := BH.at (j := 5) (v := .int .u32 y4) rfl
                have f := BH.free 5 (by rw [hashC_length, hr]; omega)
                go_wp2_with fail
                go_region
                all_goals
                  go_wp2_with fail
                  go_roundw
                  case rel => exact ⟨5, by omega, rfl, (BH.set 5 (.int .u32 (add32 y4 xe))).ext (Ext.refl _).drew, (O4.set 5 _).ext (Ext.refl _).drew⟩
                  case measure => simp [intOf]
              · have p := BH.at (j := 6) (v := .int .u32 y5) rfl
                have f := BH.free 6 (by rw [hashC_length, hr]; omega)
                go_wp2_with fail
                go_region
                all_goals
                  go_wp2_with fail
                  go_roundw
                  case rel => exact ⟨6, by omega, rfl, (BH.set 6 (.int .u32 (add32 y5 xf))).ext (Ext.refl _).drew, (O4.set 6 _).ext (Ext.refl _).drew⟩
                  case measure => simp [intOf]
              · have p := BH.at (j := 7) (v := .int .u32 y6) rfl
                have f := BH.free 7 (by rw [hashC_length, hr]; omega)
                go_wp2_with fail
                go_region
                all_goals
                  go_wp2_with fail
                  go_roundw
                  case rel => exact ⟨7, by omega, rfl, (BH.set 7 (.int .u32 (add32 y6 xg))).ext (Ext.refl _).drew, (O4.set 7 _).ext (Ext.refl _).drew⟩
                  case measure => simp [intOf]
              · have p := BH.at (j := 8) (v := .int .u32 y7) rfl
                have f := BH.free 8 (by rw [hashC_length, hr]; omega)
                go_wp2_with fail
                go_region
                all_goals
                  go_wp2_with fail
                  go_roundw
                  case rel => exact ⟨8, by omega, rfl, (BH.set 8 (.int .u32 (add32 y7 xi))).ext (Ext.refl _).drew, (O4.set 8 _).ext (Ext.refl _).drew⟩
                  case measure => simp [intOf]
              · go_wp2_with fail
                refine bodyPost_end (results_none rfl _ _ _) rfl ?_
                refine ⟨rfl, O4, ?_⟩
                have e : comp2 [y0, y1, y2, y3, y4, y5, y6, y7] rest = addW [y0, y1, y2, y3, y4, y5, y6, y7] [xa, xb, xc, xd, xe, xf, xg, xi] 8 := by
                  have hs := HS.out
                  rw [HPE.out] at hs
                  unfold comp2
                  rw [hs]
                rw [e]
                exact BH
end Go.Proofs.YtbodppfpmpmadaaGreat

