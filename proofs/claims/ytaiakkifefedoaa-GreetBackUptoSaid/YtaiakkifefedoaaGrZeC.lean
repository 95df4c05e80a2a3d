import Derived.Test.YtaiakkifefedoaaL5C
import Derived.Test.YtaiakkifefedoaaGrHC
import Derived.Deep.QuietTactic
import Derived.BigQuiet
/- Are packets gone through? (Printed by gen_grZe.py.) -/
namespace Go.Proofs.Ytaiakkifefedoaa
open Go.RowKit

def sumA : Pairs → Nat
  | [] => 0
  | p :: ps => p.1.length + p.2.length + sumA ps
theorem sumA_append : ∀ (a b : Pairs), sumA (a ++ b) = sumA a + sumA b
  | [], b => by simp [sumA]
  | p :: a, b => by rw [List.cons_append, sumA, sumA, sumA_append a b]; omega
theorem sumA_take (ps : Pairs) (k : Nat) (h : k < ps.length) : sumA (ps.take (k + 1)) = sumA (ps.take k) + (ps.getD k ([], [])).1.length + (ps.getD k ([], [])).2.length := by
  rw [List.take_add_one, List.getElem?_eq_getElem h, sumA_append, List.getD_eq_getElem?_getD, List.getElem?_eq_getElem h]
  show _ + sumA [ps[k]] = _
  rw [sumA, sumA]
  show _ + (ps[k].1.length + ps[k].2.length + 0) = sumA (ps.take k) + ps[k].1.length + ps[k].2.length
  omega
theorem sumA_le : ∀ (ps : Pairs) (B : Nat), (∀ p ∈ ps, p.1.length ≤ B ∧ p.2.length ≤ B) → sumA ps ≤ ps.length * (2 * B)
  | [], _, _ => by simp [sumA]
  | p :: ps, B, h => by
    have h1 := h p (by simp)
    have h2 := sumA_le ps B (fun q hq => h q (by simp [hq]))
    rw [sumA, List.length_cons, Nat.succ_mul]
    omega
def smallK (n0 : Nat) (pa pc : Pairs) : Bool := decide (pa.length ≤ 100) && (decide (pc.length ≤ 100) && decide (((n0 + sumA pa + sumA pc : Nat) : Int) ≤ 4000))

set_option linter.unusedVariables false in
set_option maxRecDepth 100000 in
set_option maxHeartbeats 2000000 in
theorem small_c (w : World) (t1 t2 t3 t4 t5 t6 t7 t8 t9 : ByteArray) (ng nr nn nc : Nat) (Ag Ar Aa As Ac Ad : Option Addr) (cg cr ca cs cc cd : Nat) (thrg capsg chg stg capsa mosta cha chc c : Int) (psa psc : Pairs)
    (ha : Attrs w (.slice Aa psa.length ca) psa) (hc : Attrs w (.slice Ad psc.length cd) psc) (hpa : ∀ p ∈ psa, p.1.length ≤ 1048576 ∧ p.2.length ≤ 1048576) (hpc : ∀ p ∈ psc, p.1.length ≤ 1048576 ∧ p.2.length ≤ 1048576)
    (hz0 : t1.size ≤ 1048576) (hz1 : ng ≤ 1048576) (hz2 : t2.size ≤ 1048576) (hz3 : t3.size ≤ 1048576) (hz4 : nr ≤ 1048576) (hz5 : t4.size ≤ 1048576) (hz6 : t5.size ≤ 1048576) (hz7 : t6.size ≤ 1048576) (hz8 : nn ≤ 1048576) (hz9 : t7.size ≤ 1048576) (hz10 : nc ≤ 1048576) (hz11 : t8.size ≤ 1048576) (hz12 : t9.size ≤ 1048576) :
    Calls Try.prog 15 #[.agg #[.string t1, .int .u32 thrg, .slice Ag ng cg, .int .u32 capsg, .int .u8 chg, .int .u16 stg, .string t2, .int .u32 capsa, .int .u32 mosta, .int .u8 cha, .string t3, .slice Ar nr cr, .string t4, .string t5, .slice Aa psa.length ca, .string t6, .slice As nn cs, .string t7, .slice Ac nc cc, .string t8, .int .u16 chc, .string t9, .slice Ad psc.length cd, .int .u32 c]] w fun e w' => e = .returned (.bool (smallK (t1.size + ng + t2.size + t3.size + nr + t4.size + t5.size + t6.size + nn + t7.size + nc + t8.size + t9.size) psa psc)) ∧ Ext w w' := by
  have HA := Lib.hid ha
  have HC := Lib.hid hc
  obtain ⟨n0, hn0⟩ : ∃ n0 : Nat, n0 = t1.size + ng + t2.size + t3.size + nr + t4.size + t5.size + t6.size + nn + t7.size + nc + t8.size + t9.size := ⟨_, rfl⟩
  rw [← hn0]
  have HN0 := Lib.hid hn0
  have hb0 : n0 ≤ 20000000 := by omega
  obtain ⟨NA, hNA⟩ : ∃ n, n = psa.length := ⟨_, rfl⟩
  obtain ⟨NC, hNC⟩ : ∃ n, n = psc.length := ⟨_, rfl⟩
  have HSA := Lib.hid (fun k => sumA_le (psa.take k) 1048576 (fun p hp => hpa p (List.mem_of_mem_take hp)))
  have HSC := Lib.hid (fun k => sumA_le (psc.take k) 1048576 (fun p hp => hpc p (List.mem_of_mem_take hp)))
  have HPA := Lib.hid hpa
  have HPC := Lib.hid hpc
  rw [← hNA, ← hNC]
  have HNA := Lib.hid hNA
  have HNC := Lib.hid hNC
  obtain ⟨K, hK⟩ : ∃ K, K = smallK n0 psa psc := ⟨_, rfl⟩
  rw [← hK]
  unfold smallK at hK
  rw [← hNA, ← hNC] at hK
  have HK := Lib.hid hK
  clear ha hc hpa hpc hNA hNC hK hn0
  by_cases h1 : NA ≤ 100
  · by_cases h2 : NC ≤ 100
    · have q1 : ¬ 100 < (NA : Int) := by omega
      have q2 : ¬ 100 < (NC : Int) := by omega
      clear h1 h2
      go_enter Try.func15, Try.ntmps15
      go_wp2_with fail
      generalize hW0 : w.alloc _ = wS
      have hb : Box wS w.heap.size [.string t1, .int .u32 thrg, .slice Ag ng cg, .int .u32 capsg, .int .u8 chg, .int .u16 stg, .string t2, .int .u32 capsa, .int .u32 mosta, .int .u8 cha, .string t3, .slice Ar nr cr, .string t4, .string t5, .slice Aa NA ca, .string t6, .slice As nn cs, .string t7, .slice Ac nc cc, .string t8, .int .u16 chc, .string t9, .slice Ad NC cd, .int .u32 c] := by rw [← hW0]; exact Box.new w _ _
      have hx0 : Ext w wS := by rw [← hW0]; exact (Ext.refl w).alloc _
      clear hW0
      have HB := Lib.hid hb
      have HX0 := Lib.hid hx0
      clear hb hx0
      go_loopw [3, 4] (fun n i W => ∃ k m : Nat, k ≤ NA ∧ i = .int .i64 k ∧ n = .int .i64 m ∧ m = n0 + sumA (psa.take k) ∧ Ext wS W) (fun _ i _ => NA - (intOf i).toNat)
      case atStart => exact ⟨0, n0, Nat.zero_le _, rfl, by congr 1; have := HN0.out; omega, by simp [sumA], Ext.refl _⟩
      case round =>
        clear hz0 hz1 hz2 hz3 hz4 hz5 hz6 hz7 hz8 hz9 hz10 hz11 hz12 HN0
        obtain ⟨k, m, hk, rfl, rfl, hm, hx⟩ := hrel
        have hmb : m ≤ 300000000 := by
          have h3 := HSA.out k
          have h4 : (psa.take k).length ≤ 100 := by rw [List.length_take]; have := HNA.out; omega
          have h5 : (psa.take k).length * (2 * 1048576) ≤ 100 * (2 * 1048576) := Nat.mul_le_mul_right _ h4
          omega
        by_cases hkN : k < NA
        · have hbk : (k : Int) < (NA : Int) := by omega
          have ha9 := HA.out
          rw [← HNA.out] at ha9
          obtain ⟨b0, o0, rfl, _, hcs⟩ := (ha9.ext (HX0.out.trans hx)).at_ (by omega)
          have hck := hcs k hkN
          rw [pairsC_getD psa k (by have := HNA.out; omega)] at hck
          have ht := sumA_take psa k (by have := HNA.out; omega)
          have hp := HPA.out (psa.getD k ([], [])) (by rw [List.getD_eq_getElem?_getD, List.getElem?_eq_getElem (by have := HNA.out; omega)]; exact List.getElem_mem _)
          generalize psa.getD k ([], []) = p at hck ht hp
          obtain ⟨s1, s2⟩ := p
          dsimp only at ht hp
          have p0 : wr.cell? ⟨b0, o0 + k * 2, none⟩ = some (.string (strL s1)) := hck 0 _ rfl
          have p1 : wr.cell? ⟨b0, o0 + k * 2 + 1, none⟩ = some (.string (strL s2)) := hck 1 _ rfl
          obtain ⟨u1, hu1⟩ : ∃ u, u = strL s1 := ⟨_, rfl⟩
          obtain ⟨u2, hu2⟩ : ∃ u, u = strL s2 := ⟨_, rfl⟩
          have e1 : u1.size = s1.length := by rw [hu1, strL_size]
          have e2 : u2.size = s2.length := by rw [hu2, strL_size]
          rw [← hu1] at p0
          rw [← hu2] at p1
          have hs1 : u1.size ≤ 1048576 := by omega
          have hs2 : u2.size ≤ 1048576 := by omega
          have hm2 : m + u1.size + u2.size = n0 + sumA (psa.take (k + 1)) := by rw [ht]; omega
          have HM2 := Lib.hid hm2
          have c14 := HB.out.one' (j := 14) rfl hx
          clear hck hcs ha9 ht hp hu1 hu2 e1 e2 hm2 hm
          go_wp2_with fail
          (try dsimp only [Act.put])
          go_quiet (fail)
          go_wp2_with fail
          go_roundw
          case rel => exact ⟨k + 1, m + u1.size + u2.size, by omega, by go_num, by congr 1, HM2.out, hx.drewN _⟩
          case measure => simp [intOf]; omega
        · obtain rfl : k = NA := by omega
          rw [List.take_of_length_le (by have := HNA.out; omega)] at hm
          obtain ⟨n1, hn1⟩ : ∃ n1, n1 = m := ⟨_, rfl⟩
          rw [← hn1] at hm hmb ⊢
          clear hn1
          have hn1b : n1 ≤ 300000000 := hmb
          have HM := Lib.hid hm
          have c14 := HB.out.one' (j := 14) rfl hx
          have HXA := Lib.hid hx
          clear hm hmb hx HPA HA HSA
          go_wp2_with fail
          obtain ⟨wA, hwA⟩ : ∃ x, x = wr := ⟨_, rfl⟩
          rw [← hwA] at HXA c14 ⊢
          clear hwA
          clear c14
          go_loopw [3, 5] (fun n i W => ∃ k m : Nat, k ≤ NC ∧ i = .int .i64 k ∧ n = .int .i64 m ∧ m = n1 + sumA (psc.take k) ∧ Ext wA W) (fun _ i _ => NC - (intOf i).toNat)
          case atStart => exact ⟨0, n1, Nat.zero_le _, rfl, rfl, by simp [sumA], Ext.refl _⟩
          case round =>
            obtain ⟨k, m, hk, rfl, rfl, hm, hx⟩ := hrel
            have hmb : m ≤ 600000000 := by
              have h3 := HSC.out k
              have h4 : (psc.take k).length ≤ 100 := by rw [List.length_take]; have := HNC.out; omega
              have h5 : (psc.take k).length * (2 * 1048576) ≤ 100 * (2 * 1048576) := Nat.mul_le_mul_right _ h4
              omega
            by_cases hkN : k < NC
            · have hbk : (k : Int) < (NC : Int) := by omega
              have ha9 := HC.out
              rw [← HNC.out] at ha9
              obtain ⟨b0, o0, rfl, _, hcs⟩ := (ha9.ext (HX0.out.trans (HXA.out.trans hx))).at_ (by omega)
              have hck := hcs k hkN
              rw [pairsC_getD psc k (by have := HNC.out; omega)] at hck
              have ht := sumA_take psc k (by have := HNC.out; omega)
              have hp := HPC.out (psc.getD k ([], [])) (by rw [List.getD_eq_getElem?_getD, List.getElem?_eq_getElem (by have := HNC.out; omega)]; exact List.getElem_mem _)
              generalize psc.getD k ([], []) = p at hck ht hp
              obtain ⟨s1, s2⟩ := p
              dsimp only at ht hp
              have p0 : wr.cell? ⟨b0, o0 + k * 2, none⟩ = some (.string (strL s1)) := hck 0 _ rfl
              have p1 : wr.cell? ⟨b0, o0 + k * 2 + 1, none⟩ = some (.string (strL s2)) := hck 1 _ rfl
              obtain ⟨u1, hu1⟩ : ∃ u, u = strL s1 := ⟨_, rfl⟩
              obtain ⟨u2, hu2⟩ : ∃ u, u = strL s2 := ⟨_, rfl⟩
              have e1 : u1.size = s1.length := by rw [hu1, strL_size]
              have e2 : u2.size = s2.length := by rw [hu2, strL_size]
              rw [← hu1] at p0
              rw [← hu2] at p1
              have hs1 : u1.size ≤ 1048576 := by omega
              have hs2 : u2.size ≤ 1048576 := by omega
              have hm2 : m + u1.size + u2.size = n1 + sumA (psc.take (k + 1)) := by rw [ht]; omega
              have HM2 := Lib.hid hm2
              have c22 := HB.out.one' (j := 22) rfl (HXA.out.trans hx)
              clear hck hcs ha9 ht hp hu1 hu2 e1 e2 hm2 hm
              go_wp2_with fail
              (try dsimp only [Act.put])
              go_quiet (fail)
              go_wp2_with fail
              go_roundw
              case rel => exact ⟨k + 1, m + u1.size + u2.size, by omega, by go_num, by congr 1, HM2.out, hx.drewN _⟩
              case measure => simp [intOf]; omega
            · obtain rfl : k = NC := by omega
              rw [List.take_of_length_le (by have := HNC.out; omega)] at hm
              have e : K = decide ((m : Int) ≤ 4000) := by
                rw [HK.out, hm, HM.out]
                have g : ∀ x : Nat, (x : Int) ≤ 100 → decide (x ≤ 100) = true := fun x h => by simp; omega
                rw [g _ q1, g _ q2]
                rfl
              have HE := Lib.hid e
              have HXB := Lib.hid (HX0.out.trans (HXA.out.trans hx))
              have c22 := HB.out.one' (j := 22) rfl (HXA.out.trans hx)
              clear e hm hmb
              go_wp2_with fail
              go_ret
              exact ⟨congrArg (fun z => Ending.returned (.bool z)) HE.out.symm, HXB.out⟩
    · have q1 : ¬ 100 < (NA : Int) := by omega
      have q2 : 100 < (NC : Int) := by omega
      have e : K = false := by rw [HK.out]; simp [h2]
      subst e
      clear h1 h2
      go_enter Try.func15, Try.ntmps15
      go_wp2_with fail
      go_ret
      exact ⟨rfl, (Ext.refl _).alloc _⟩
  · have q1 : 100 < (NA : Int) := by omega
    have e : K = false := by rw [HK.out]; simp [h1]
    subst e
    clear h1
    go_enter Try.func15, Try.ntmps15
    go_wp2_with fail
    go_ret
    exact ⟨rfl, (Ext.refl _).alloc _⟩
end Go.Proofs.Ytaiakkifefedoaa
