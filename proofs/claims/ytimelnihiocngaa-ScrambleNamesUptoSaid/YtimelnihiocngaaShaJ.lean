/- The chapter on hashes: digits, what lives. -/
import Derived.Test.YtimelnihiocngaaShaI
import Derived.Outline
namespace Go.Proofs.Ytimelnihiocngaa
open Go.RowKit

def hexT : List UInt8 := [48, 49, 50, 51, 52, 53, 54, 55, 56, 57, 97, 98, 99, 100, 101, 102]
def hexI (i : Int) : Int := ((hexT.getD i.toNat 0).toNat : Int)
def hex2 (c : UInt8) : List UInt8 := [hexT.getD (c.toNat / 16) 0, hexT.getD (c.toNat % 16) 0]
def hexL (l : List UInt8) : List UInt8 := l.flatMap hex2

def hexS : ByteArray := ⟨#[48, 49, 50, 51, 52, 53, 54, 55, 56, 57, 97, 98, 99, 100, 101, 102]⟩
theorem hex_get (n : Nat) (h : n < (⟨#[48, 49, 50, 51, 52, 53, 54, 55, 56, 57, 97, 98, 99, 100, 101, 102]⟩ : ByteArray).size) : (⟨#[48, 49, 50, 51, 52, 53, 54, 55, 56, 57, 97, 98, 99, 100, 101, 102]⟩ : ByteArray)[n] = hexT.getD n 0 := by
  have hn : n < 16 := h
  have h16 : n = 0 ∨ n = 1 ∨ n = 2 ∨ n = 3 ∨ n = 4 ∨ n = 5 ∨ n = 6 ∨ n = 7 ∨ n = 8 ∨ n = 9 ∨ n = 10 ∨ n = 11 ∨ n = 12 ∨ n = 13 ∨ n = 14 ∨ n = 15 := by omega
  rcases h16 with rfl | rfl | rfl | rfl | rfl | rfl | rfl | rfl | rfl | rfl | rfl | rfl | rfl | rfl | rfl | rfl <;> rfl
theorem hexL_take (l : List UInt8) (j : Nat) (hj : j < l.length) : hexL (l.take (j + 1)) = hexL (l.take j) ++ hex2 (l.getD j 0) := by
  rw [List.take_add_one, List.getElem?_eq_getElem hj, List.getD_eq_getElem?_getD, List.getElem?_eq_getElem hj, hexL, List.flatMap_append]
  simp [hexL]
theorem hexL_length (l : List UInt8) : (hexL l).length = 2 * l.length := by
  induction l with
  | nil => rfl
  | cons x l ih => rw [hexL, List.flatMap_cons, List.length_append, ← hexL, ih]; simp [hex2]; omega

set_option maxRecDepth 100000 in
set_option maxHeartbeats 1000000 in
theorem hex_c (w : World) (v : Value) (l : List UInt8) (hr : Rd w v l) (hl : l.length ≤ 1000000) :
    Calls Try.prog 15 #[v] w fun e w' => e = .returned (.string (strL (hexL l))) ∧ Ext w w' := by
  have HR := Lib.hid hr
  obtain ⟨A, cap, rfl, hle, hm, hA, hc⟩ := id hr
  clear hr hA hc
  obtain ⟨N, hN⟩ : ∃ N, N = l.length := ⟨_, rfl⟩
  rw [← hN] at hle hl ⊢
  have HNN := Lib.hid hN
  clear hN
  go_enter Try.func15, Try.ntmps15
  go_wp2_with fail
  have OW0 : Own w w.heap.size (.slice none 0 0) (hexL (l.take 0)) := Own.nil w _
  go_loopw [3, 4] (fun v i W => ∃ k : Nat, k ≤ N ∧ i = .int .i64 k ∧ Own W w.heap.size v (hexL (l.take k)) ∧ Ext w W) (fun _ i _ => N - (intOf i).toNat)
  case atStart => exact ⟨0, Nat.zero_le _, rfl, OW0, Ext.refl _⟩
  case round =>
    clear OW0
    obtain ⟨k, hk, rfl, OW, hx⟩ := hrel
    by_cases hkN : k < N
    · have hb : (k : Int) < (N : Int) := by omega
      obtain ⟨b, o, rfl, hcs⟩ : ∃ b o, A = some ⟨b, o, none⟩ ∧ ∀ j, j < l.length → wr.cell? ⟨b, o + j, none⟩ = some (.int .u8 ((l.getD j 0).toNat : Int)) := by
        have h4 := HR.out.ext hx
        obtain ⟨A', cap', hv, _, _, _, h4⟩ := h4
        injection hv with e1 e2 e3
        subst e1
        exact h4 (by intro e; have := HNN.out; subst e; simp at this; omega)
      have hck := hcs k (by have := HNN.out; omega)
      clear hcs
      have hc0 : w.cell? ⟨b, o + k, none⟩ = some (.int .u8 ((l.getD k 0).toNat : Int)) := by
        obtain ⟨A', cap', hv, _, _, _, h4⟩ := HR.out
        injection hv with e1 e2 e3
        subst e1
        obtain ⟨b', o', e, h5⟩ := h4 (by intro e; have := HNN.out; subst e; simp at this; omega)
        cases e
        exact h5 k (by have := HNN.out; omega)
      have ht := hexL_take l k (by have := HNN.out; omega)
      have hlen : (hexL (l.take k)).length = 2 * k := by rw [hexL_length, List.length_take, Nat.min_eq_left (by have := HNN.out; omega)]
      generalize l.getD k 0 = c at hck hc0 ht
      obtain ⟨x, hx2⟩ : ∃ x : Int, x = (c.toNat : Int) := ⟨_, rfl⟩
      rw [← hx2] at hck hc0
      have hx0 : 0 ≤ x := by omega
      have hx1 : x < 256 := by have := c.toNat_lt; omega
      have h2 : ∀ (p1 : (x / 16).toNat < _) (p2 : (x % 16).toNat < _), (#[Value.int .u8 (((⟨#[48, 49, 50, 51, 52, 53, 54, 55, 56, 57, 97, 98, 99, 100, 101, 102]⟩ : ByteArray)[(x / 16).toNat]'p1).toNat : Int), Value.int .u8 (((⟨#[48, 49, 50, 51, 52, 53, 54, 55, 56, 57, 97, 98, 99, 100, 101, 102]⟩ : ByteArray)[(x % 16).toNat]'p2).toNat : Int)] : Array Value) = (bc (hex2 c)).toArray := by
        intro p1 p2
        rw [hex_get, hex_get]
        have e1 : (x / 16).toNat = c.toNat / 16 := by omega
        have e2 : (x % 16).toNat = c.toNat % 16 := by omega
        rw [e1, e2]
        rfl
      have HX := Lib.hid hx2
      have HT := Lib.hid ht
      clear hx2 ht
      have g1 : 0 ≤ x / 16 := by omega
      have g2 : x / 16 < 16 := by omega
      have g3 : 0 ≤ x % 16 := by omega
      have g4 : x % 16 < 16 := by omega
      have q1 : IntKind.u8.wrap (x.tdiv 16) = x / 16 := by rw [Int.tdiv_eq_ediv_of_nonneg hx0]; show x / 16 % 256 = _; omega
      have q2 : IntKind.u8.wrap (x.tmod 16) = x % 16 := by rw [Int.tmod_eq_emod_of_nonneg hx0]; show x % 16 % 256 = _; omega
      have q3 : x.tmod 16 = x % 16 := Int.tmod_eq_emod_of_nonneg hx0
      go_wp2_with fail
      go_region_held3 (fun W' => W'.cell? ⟨b, o + k, none⟩ = some (.int .u8 x) ∧ Ext w W')
        ((refine (fun h => ⟨Ext.cell h hc0, h⟩) ?_; first | exact hx.drew | exact (hx.alloc _).drew | exact hx4 | fail))
        (first
          | ((with_reducible show (if Region.wanted (⟨some 25, _, _, _, _, _⟩ : Oper) _ = true then _ else _)); go_must (go_split_ands; refine step_append_rd bt (OW.ext (((Ext.refl _).alloc _).drew)) ((rd_lit wr _ (hex2 c) (by rfl) (by simp [hex2]) 2 _ (by rfl) (by rfl)).ext (Ext.refl _).drew) (by rfl) _ _ (by rfl) (by rfl) (by rfl) ?_ ?_ ?_; (simp [hlen, hex2]; omega); (exact Ext.size (by assumption)); intro v4 w4 ho4 hb4; have hx4 : Ext w w4 := Ext.below (by assumption) hb4 (Nat.le_refl _)))
          | fail)
      all_goals
        go_split_ands
        clear h2
        go_wp2_with fail
        go_roundw
        case rel => exact ⟨k + 1, by omega, by go_num, by rw [HT.out]; exact ho4, by assumption⟩
        case measure => simp [intOf]; omega
    · obtain rfl : k = N := by omega
      have hRO := OW.rd
      rw [HNN.out, List.take_length] at hRO
      go_wp2_with ((with_reducible show wpList _ _ _ (⟨some 27, _, _, _, _, _⟩ :: _) _ _); refine wpl_str bt hRO rfl _ rfl rfl ?_)
      go_ret
      exact ⟨rfl, hx⟩
end Go.Proofs.Ytimelnihiocngaa
