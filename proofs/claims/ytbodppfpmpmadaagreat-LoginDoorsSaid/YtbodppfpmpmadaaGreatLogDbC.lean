import Derived.Test.YtbodppfpmpmadaaGreatL17C
import Derived.Test.YtbodppfpmpmadaaGreatL13C
namespace Go.Proofs.YtbodppfpmpmadaaGreat
open Go.RowKit

set_option maxRecDepth 100000 in
set_option maxHeartbeats 1000000 in
theorem doors_big0 (w : World) (us : List UserV) (ver n pl : List UInt8) (thr caps ch st : Int) (vn vu vl vb vo : Value) (ls : List (List UInt8)) (bs : List Bool) (other : List UInt8) (hus : Recs w 5 vu (us.map userC)) (hn : Rd w vn n) (hl : Lists w vl ls) (hb : Bls w vb bs) (ho : Rd w vo other) (hq : smallQ ls = false) :
    Calls Tryz.prog 4 #[vu, .agg #[.string (strL ver), .int .u32 thr, vn, .int .u32 caps, .int .u8 ch, .int .u16 st, .string (strL pl)], vl, vb, vo] w fun e w' => e = .returned (.bool true) ∧ Ext w w' := by
  have HUS := Lib.hid hus
  have HL := Lib.hid hl
  have HBL := Lib.hid hb
  have HOT := Lib.hid ho
  obtain ⟨Au, cu, hvu, hleu, hmu⟩ := hus.shape
  rw [List.length_map] at hvu hleu
  obtain ⟨N, hN⟩ : ∃ N, N = us.length := ⟨_, rfl⟩
  rw [← hN] at hvu hleu
  subst hvu
  have HN := Lib.hid hN
  obtain ⟨An, cn, rfl, _⟩ := id hn
  have HNN := Lib.hid hn
  obtain ⟨Ao, co, rfl, _⟩ := id ho
  obtain ⟨Al, cl, hvl, hlel, hml, _⟩ := id hl
  obtain ⟨M, hM⟩ : ∃ M, M = ls.length := ⟨_, rfl⟩
  rw [← hM] at hvl hlel
  subst hvl
  have HM := Lib.hid hM
  obtain ⟨Ab, cb, hvb, hleb, hmb, _⟩ := id hb
  obtain ⟨MB, hMB⟩ : ∃ MB, MB = bs.length := ⟨_, rfl⟩
  rw [← hMB] at hvb hleb
  subst hvb
  have HMB := Lib.hid hMB
  unfold maxLen at hmu hml hmb
  have HQ := Lib.hid hq
  clear hus hl hb ho hn hN hM hMB hq
  go_enter Tryz.func4, Tryz.ntmps4
  go_upto_region 1 with fail
  generalize hW0 : w.alloc _ = wS
  have hb0 : BoxF wS w.heap.size [.string (strL ver), .int .u32 thr, .slice An n.length cn, .int .u32 caps, .int .u8 ch, .int .u16 st, .string (strL pl)] := by rw [← hW0]; exact BoxF.new w _ _
  have hx0 : Ext w wS := by rw [← hW0]; exact (Ext.refl w).alloc _
  clear hW0
  have HB0 := Lib.hid hb0
  have HX0 := Lib.hid hx0
  clear hb0 hx0
  go_wp2_with (first
    | (go_at_call 17; refine (lives27_c _).mono ?_; rintro e w1 ⟨rfl, hx1⟩; have B1 := HB0.out.ext hx1; have g0 := B1.at (j := 0) rfl; have g2 := B1.at (j := 2) rfl; have g6 := B1.at (j := 6) rfl)
    | (go_at_call 18; refine (small27_c _ _ ls (HL.out.ext (HX0.out.trans hx1))).mono ?_; rw [HQ.out]; rintro e wx ⟨rfl, rfl⟩)
    | fail)
  go_ret
  exact ⟨rfl, HX0.out.trans hx1⟩
set_option maxRecDepth 100000 in
set_option maxHeartbeats 1000000 in
theorem doors_big1 (w : World) (us : List UserV) (ver n pl : List UInt8) (thr caps ch st : Int) (vn vu vl vb vo : Value) (ls : List (List UInt8)) (bs : List Bool) (other : List UInt8) (hus : Recs w 5 vu (us.map userC)) (hn : Rd w vn n) (hl : Lists w vl ls) (hb : Bls w vb bs) (ho : Rd w vo other) (hq : smallQ ls = true) (h0 : (us.length : Int) > 100) :
    Calls Tryz.prog 4 #[vu, .agg #[.string (strL ver), .int .u32 thr, vn, .int .u32 caps, .int .u8 ch, .int .u16 st, .string (strL pl)], vl, vb, vo] w fun e w' => e = .returned (.bool true) ∧ Ext w w' := by
  have HUS := Lib.hid hus
  have HL := Lib.hid hl
  have HBL := Lib.hid hb
  have HOT := Lib.hid ho
  obtain ⟨Au, cu, hvu, hleu, hmu⟩ := hus.shape
  rw [List.length_map] at hvu hleu
  obtain ⟨N, hN⟩ : ∃ N, N = us.length := ⟨_, rfl⟩
  rw [← hN] at hvu hleu h0
  subst hvu
  have HN := Lib.hid hN
  obtain ⟨An, cn, rfl, _⟩ := id hn
  have HNN := Lib.hid hn
  obtain ⟨Ao, co, rfl, _⟩ := id ho
  obtain ⟨Al, cl, hvl, hlel, hml, _⟩ := id hl
  obtain ⟨M, hM⟩ : ∃ M, M = ls.length := ⟨_, rfl⟩
  rw [← hM] at hvl hlel
  subst hvl
  have HM := Lib.hid hM
  obtain ⟨Ab, cb, hvb, hleb, hmb, _⟩ := id hb
  obtain ⟨MB, hMB⟩ : ∃ MB, MB = bs.length := ⟨_, rfl⟩
  rw [← hMB] at hvb hleb
  subst hvb
  have HMB := Lib.hid hMB
  unfold maxLen at hmu hml hmb
  have HQ := Lib.hid hq
  clear hus hl hb ho hn hN hM hMB hq
  go_enter Tryz.func4, Tryz.ntmps4
  go_upto_region 1 with fail
  generalize hW0 : w.alloc _ = wS
  have hb0 : BoxF wS w.heap.size [.string (strL ver), .int .u32 thr, .slice An n.length cn, .int .u32 caps, .int .u8 ch, .int .u16 st, .string (strL pl)] := by rw [← hW0]; exact BoxF.new w _ _
  have hx0 : Ext w wS := by rw [← hW0]; exact (Ext.refl w).alloc _
  clear hW0
  have HB0 := Lib.hid hb0
  have HX0 := Lib.hid hx0
  clear hb0 hx0
  go_wp2_with (first
    | (go_at_call 17; refine (lives27_c _).mono ?_; rintro e w1 ⟨rfl, hx1⟩; have B1 := HB0.out.ext hx1; have g0 := B1.at (j := 0) rfl; have g2 := B1.at (j := 2) rfl; have g6 := B1.at (j := 6) rfl)
    | (go_at_call 18; refine (small27_c _ _ ls (HL.out.ext (HX0.out.trans hx1))).mono ?_; rw [HQ.out]; rintro e wx ⟨rfl, rfl⟩)
    | fail)
  go_ret
  exact ⟨rfl, HX0.out.trans hx1⟩
set_option maxRecDepth 100000 in
set_option maxHeartbeats 1000000 in
theorem doors_big2 (w : World) (us : List UserV) (ver n pl : List UInt8) (thr caps ch st : Int) (vn vu vl vb vo : Value) (ls : List (List UInt8)) (bs : List Bool) (other : List UInt8) (hus : Recs w 5 vu (us.map userC)) (hn : Rd w vn n) (hl : Lists w vl ls) (hb : Bls w vb bs) (ho : Rd w vo other) (hq : smallQ ls = true) (h0 : ¬ (us.length : Int) > 100) (h1 : (other.length : Int) > 100) :
    Calls Tryz.prog 4 #[vu, .agg #[.string (strL ver), .int .u32 thr, vn, .int .u32 caps, .int .u8 ch, .int .u16 st, .string (strL pl)], vl, vb, vo] w fun e w' => e = .returned (.bool true) ∧ Ext w w' := by
  have HUS := Lib.hid hus
  have HL := Lib.hid hl
  have HBL := Lib.hid hb
  have HOT := Lib.hid ho
  obtain ⟨Au, cu, hvu, hleu, hmu⟩ := hus.shape
  rw [List.length_map] at hvu hleu
  obtain ⟨N, hN⟩ : ∃ N, N = us.length := ⟨_, rfl⟩
  rw [← hN] at hvu hleu h0
  subst hvu
  have HN := Lib.hid hN
  obtain ⟨An, cn, rfl, _⟩ := id hn
  have HNN := Lib.hid hn
  obtain ⟨Ao, co, rfl, _⟩ := id ho
  obtain ⟨Al, cl, hvl, hlel, hml, _⟩ := id hl
  obtain ⟨M, hM⟩ : ∃ M, M = ls.length := ⟨_, rfl⟩
  rw [← hM] at hvl hlel
  subst hvl
  have HM := Lib.hid hM
  obtain ⟨Ab, cb, hvb, hleb, hmb, _⟩ := id hb
  obtain ⟨MB, hMB⟩ : ∃ MB, MB = bs.length := ⟨_, rfl⟩
  rw [← hMB] at hvb hleb
  subst hvb
  have HMB := Lib.hid hMB
  unfold maxLen at hmu hml hmb
  have HQ := Lib.hid hq
  clear hus hl hb ho hn hN hM hMB hq
  go_enter Tryz.func4, Tryz.ntmps4
  go_upto_region 1 with fail
  generalize hW0 : w.alloc _ = wS
  have hb0 : BoxF wS w.heap.size [.string (strL ver), .int .u32 thr, .slice An n.length cn, .int .u32 caps, .int .u8 ch, .int .u16 st, .string (strL pl)] := by rw [← hW0]; exact BoxF.new w _ _
  have hx0 : Ext w wS := by rw [← hW0]; exact (Ext.refl w).alloc _
  clear hW0
  have HB0 := Lib.hid hb0
  have HX0 := Lib.hid hx0
  clear hb0 hx0
  go_wp2_with (first
    | (go_at_call 17; refine (lives27_c _).mono ?_; rintro e w1 ⟨rfl, hx1⟩; have B1 := HB0.out.ext hx1; have g0 := B1.at (j := 0) rfl; have g2 := B1.at (j := 2) rfl; have g6 := B1.at (j := 6) rfl)
    | (go_at_call 18; refine (small27_c _ _ ls (HL.out.ext (HX0.out.trans hx1))).mono ?_; rw [HQ.out]; rintro e wx ⟨rfl, rfl⟩)
    | fail)
  go_ret
  exact ⟨rfl, HX0.out.trans hx1⟩
set_option maxRecDepth 100000 in
set_option maxHeartbeats 1000000 in
theorem doors_big3 (w : World) (us : List UserV) (ver n pl : List UInt8) (thr caps ch st : Int) (vn vu vl vb vo : Value) (ls : List (List UInt8)) (bs : List Bool) (other : List UInt8) (hus : Recs w 5 vu (us.map userC)) (hn : Rd w vn n) (hl : Lists w vl ls) (hb : Bls w vb bs) (ho : Rd w vo other) (hq : smallQ ls = true) (h0 : ¬ (us.length : Int) > 100) (h1 : ¬ (other.length : Int) > 100) (h2 : ((strL ver).size : Int) > 3000) :
    Calls Tryz.prog 4 #[vu, .agg #[.string (strL ver), .int .u32 thr, vn, .int .u32 caps, .int .u8 ch, .int .u16 st, .string (strL pl)], vl, vb, vo] w fun e w' => e = .returned (.bool true) ∧ Ext w w' := by
  have HUS := Lib.hid hus
  have HL := Lib.hid hl
  have HBL := Lib.hid hb
  have HOT := Lib.hid ho
  obtain ⟨Au, cu, hvu, hleu, hmu⟩ := hus.shape
  rw [List.length_map] at hvu hleu
  obtain ⟨N, hN⟩ : ∃ N, N = us.length := ⟨_, rfl⟩
  rw [← hN] at hvu hleu h0
  subst hvu
  have HN := Lib.hid hN
  obtain ⟨An, cn, rfl, _⟩ := id hn
  have HNN := Lib.hid hn
  obtain ⟨Ao, co, rfl, _⟩ := id ho
  obtain ⟨Al, cl, hvl, hlel, hml, _⟩ := id hl
  obtain ⟨M, hM⟩ : ∃ M, M = ls.length := ⟨_, rfl⟩
  rw [← hM] at hvl hlel
  subst hvl
  have HM := Lib.hid hM
  obtain ⟨Ab, cb, hvb, hleb, hmb, _⟩ := id hb
  obtain ⟨MB, hMB⟩ : ∃ MB, MB = bs.length := ⟨_, rfl⟩
  rw [← hMB] at hvb hleb
  subst hvb
  have HMB := Lib.hid hMB
  unfold maxLen at hmu hml hmb
  have HQ := Lib.hid hq
  clear hus hl hb ho hn hN hM hMB hq
  go_enter Tryz.func4, Tryz.ntmps4
  go_upto_region 1 with fail
  generalize hW0 : w.alloc _ = wS
  have hb0 : BoxF wS w.heap.size [.string (strL ver), .int .u32 thr, .slice An n.length cn, .int .u32 caps, .int .u8 ch, .int .u16 st, .string (strL pl)] := by rw [← hW0]; exact BoxF.new w _ _
  have hx0 : Ext w wS := by rw [← hW0]; exact (Ext.refl w).alloc _
  clear hW0
  have HB0 := Lib.hid hb0
  have HX0 := Lib.hid hx0
  clear hb0 hx0
  go_wp2_with (first
    | (go_at_call 17; refine (lives27_c _).mono ?_; rintro e w1 ⟨rfl, hx1⟩; have B1 := HB0.out.ext hx1; have g0 := B1.at (j := 0) rfl; have g2 := B1.at (j := 2) rfl; have g6 := B1.at (j := 6) rfl)
    | (go_at_call 18; refine (small27_c _ _ ls (HL.out.ext (HX0.out.trans hx1))).mono ?_; rw [HQ.out]; rintro e wx ⟨rfl, rfl⟩)
    | fail)
  go_ret
  exact ⟨rfl, HX0.out.trans hx1⟩
set_option maxRecDepth 100000 in
set_option maxHeartbeats 1000000 in
theorem doors_big4 (w : World) (us : List UserV) (ver n pl : List UInt8) (thr caps ch st : Int) (vn vu vl vb vo : Value) (ls : List (List UInt8)) (bs : List Bool) (other : List UInt8) (hus : Recs w 5 vu (us.map userC)) (hn : Rd w vn n) (hl : Lists w vl ls) (hb : Bls w vb bs) (ho : Rd w vo other) (hq : smallQ ls = true) (h0 : ¬ (us.length : Int) > 100) (h1 : ¬ (other.length : Int) > 100) (h2 : ¬ ((strL ver).size : Int) > 3000) (h3 : ((strL pl).size : Int) > 3000) :
    Calls Tryz.prog 4 #[vu, .agg #[.string (strL ver), .int .u32 thr, vn, .int .u32 caps, .int .u8 ch, .int .u16 st, .string (strL pl)], vl, vb, vo] w fun e w' => e = .returned (.bool true) ∧ Ext w w' := by
  have HUS := Lib.hid hus
  have HL := Lib.hid hl
  have HBL := Lib.hid hb
  have HOT := Lib.hid ho
  obtain ⟨Au, cu, hvu, hleu, hmu⟩ := hus.shape
  rw [List.length_map] at hvu hleu
  obtain ⟨N, hN⟩ : ∃ N, N = us.length := ⟨_, rfl⟩
  rw [← hN] at hvu hleu h0
  subst hvu
  have HN := Lib.hid hN
  obtain ⟨An, cn, rfl, _⟩ := id hn
  have HNN := Lib.hid hn
  obtain ⟨Ao, co, rfl, _⟩ := id ho
  obtain ⟨Al, cl, hvl, hlel, hml, _⟩ := id hl
  obtain ⟨M, hM⟩ : ∃ M, M = ls.length := ⟨_, rfl⟩
  rw [← hM] at hvl hlel
  subst hvl
  have HM := Lib.hid hM
  obtain ⟨Ab, cb, hvb, hleb, hmb, _⟩ := id hb
  obtain ⟨MB, hMB⟩ : ∃ MB, MB = bs.length := ⟨_, rfl⟩
  rw [← hMB] at hvb hleb
  subst hvb
  have HMB := Lib.hid hMB
  unfold maxLen at hmu hml hmb
  have HQ := Lib.hid hq
  clear hus hl hb ho hn hN hM hMB hq
  go_enter Tryz.func4, Tryz.ntmps4
  go_upto_region 1 with fail
  generalize hW0 : w.alloc _ = wS
  have hb0 : BoxF wS w.heap.size [.string (strL ver), .int .u32 thr, .slice An n.length cn, .int .u32 caps, .int .u8 ch, .int .u16 st, .string (strL pl)] := by rw [← hW0]; exact BoxF.new w _ _
  have hx0 : Ext w wS := by rw [← hW0]; exact (Ext.refl w).alloc _
  clear hW0
  have HB0 := Lib.hid hb0
  have HX0 := Lib.hid hx0
  clear hb0 hx0
  go_wp2_with (first
    | (go_at_call 17; refine (lives27_c _).mono ?_; rintro e w1 ⟨rfl, hx1⟩; have B1 := HB0.out.ext hx1; have g0 := B1.at (j := 0) rfl; have g2 := B1.at (j := 2) rfl; have g6 := B1.at (j := 6) rfl)
    | (go_at_call 18; refine (small27_c _ _ ls (HL.out.ext (HX0.out.trans hx1))).mono ?_; rw [HQ.out]; rintro e wx ⟨rfl, rfl⟩)
    | fail)
  go_ret
  exact ⟨rfl, HX0.out.trans hx1⟩
set_option maxRecDepth 100000 in
set_option maxHeartbeats 1000000 in
theorem doors_big5 (w : World) (us : List UserV) (ver n pl : List UInt8) (thr caps ch st : Int) (vn vu vl vb vo : Value) (ls : List (List UInt8)) (bs : List Bool) (other : List UInt8) (hus : Recs w 5 vu (us.map userC)) (hn : Rd w vn n) (hl : Lists w vl ls) (hb : Bls w vb bs) (ho : Rd w vo other) (hq : smallQ ls = true) (h0 : ¬ (us.length : Int) > 100) (h1 : ¬ (other.length : Int) > 100) (h2 : ¬ ((strL ver).size : Int) > 3000) (h3 : ¬ ((strL pl).size : Int) > 3000) (h4 : (n.length : Int) > 100) :
    Calls Tryz.prog 4 #[vu, .agg #[.string (strL ver), .int .u32 thr, vn, .int .u32 caps, .int .u8 ch, .int .u16 st, .string (strL pl)], vl, vb, vo] w fun e w' => e = .returned (.bool true) ∧ Ext w w' := by
  have HUS := Lib.hid hus
  have HL := Lib.hid hl
  have HBL := Lib.hid hb
  have HOT := Lib.hid ho
  obtain ⟨Au, cu, hvu, hleu, hmu⟩ := hus.shape
  rw [List.length_map] at hvu hleu
  obtain ⟨N, hN⟩ : ∃ N, N = us.length := ⟨_, rfl⟩
  rw [← hN] at hvu hleu h0
  subst hvu
  have HN := Lib.hid hN
  obtain ⟨An, cn, rfl, _⟩ := id hn
  have HNN := Lib.hid hn
  obtain ⟨Ao, co, rfl, _⟩ := id ho
  obtain ⟨Al, cl, hvl, hlel, hml, _⟩ := id hl
  obtain ⟨M, hM⟩ : ∃ M, M = ls.length := ⟨_, rfl⟩
  rw [← hM] at hvl hlel
  subst hvl
  have HM := Lib.hid hM
  obtain ⟨Ab, cb, hvb, hleb, hmb, _⟩ := id hb
  obtain ⟨MB, hMB⟩ : ∃ MB, MB = bs.length := ⟨_, rfl⟩
  rw [← hMB] at hvb hleb
  subst hvb
  have HMB := Lib.hid hMB
  unfold maxLen at hmu hml hmb
  have HQ := Lib.hid hq
  clear hus hl hb ho hn hN hM hMB hq
  go_enter Tryz.func4, Tryz.ntmps4
  go_upto_region 1 with fail
  generalize hW0 : w.alloc _ = wS
  have hb0 : BoxF wS w.heap.size [.string (strL ver), .int .u32 thr, .slice An n.length cn, .int .u32 caps, .int .u8 ch, .int .u16 st, .string (strL pl)] := by rw [← hW0]; exact BoxF.new w _ _
  have hx0 : Ext w wS := by rw [← hW0]; exact (Ext.refl w).alloc _
  clear hW0
  have HB0 := Lib.hid hb0
  have HX0 := Lib.hid hx0
  clear hb0 hx0
  go_wp2_with (first
    | (go_at_call 17; refine (lives27_c _).mono ?_; rintro e w1 ⟨rfl, hx1⟩; have B1 := HB0.out.ext hx1; have g0 := B1.at (j := 0) rfl; have g2 := B1.at (j := 2) rfl; have g6 := B1.at (j := 6) rfl)
    | (go_at_call 18; refine (small27_c _ _ ls (HL.out.ext (HX0.out.trans hx1))).mono ?_; rw [HQ.out]; rintro e wx ⟨rfl, rfl⟩)
    | fail)
  go_ret
  exact ⟨rfl, HX0.out.trans hx1⟩
end Go.Proofs.YtbodppfpmpmadaaGreat

