/- The plain law of hashes: what is fed byte by byte is what is worked on block by block. -/
import Derived.Test.YtimelnihiocngaaShaO
namespace Go.Proofs.Ytimelnihiocngaa
open Go.RowKit

theorem sch1_congr {r r' : List UInt8} (h : ∀ i, i < 64 → r.getD i 0 = r'.getD i 0) : ∀ t, sch1 r t = sch1 r' t
  | 0 => rfl
  | t + 1 => by
    rw [sch1, sch1, sch1_congr h t]
    split
    · rw [h _ (by omega), h _ (by omega), h _ (by omega), h _ (by omega)]
    · rfl
theorem sch2_congr {r r' : List UInt8} (h : ∀ i, i < 64 → r.getD i 0 = r'.getD i 0) : ∀ t, sch2 r t = sch2 r' t
  | 0 => rfl
  | t + 1 => by
    rw [sch2, sch2, sch2_congr h t]
    split
    · rw [h _ (by omega), h _ (by omega), h _ (by omega), h _ (by omega)]
    · rfl
theorem comp_congr (kind : Int) (ws : List Int) {r r' : List UInt8} (h : ∀ i, i < 64 → r.getD i 0 = r'.getD i 0) : comp kind ws r = comp kind ws r' := by
  unfold comp comp1 comp2
  rw [sch1_congr h, sch2_congr h]

/-- So many blocks are worked on, one behind the other. -/
def rf (kind : Int) (ws : List Int) (p : List UInt8) : Nat → List Int
  | 0 => ws
  | n + 1 => comp kind (rf kind ws p n) (p.drop (64 * n))

theorem take_one (l : List UInt8) (j : Nat) (h : j < l.length) : l.take (j + 1) = l.take j ++ [l.getD j 0] := by
  rw [List.take_add_one, List.getElem?_eq_getElem h, List.getD_eq_getElem?_getD, List.getElem?_eq_getElem h]
  rfl
theorem feed_part (kind : Int) (ws : List Int) (rest l : List UInt8) (hr : rest.length = 64) : ∀ j, j ≤ l.length → j < 64 → feedH kind (ws, rest, 0) (l.take j) = (ws, l.take j ++ rest.drop j, j)
  | 0, _, _ => by simp [feedH]
  | j + 1, h1, h2 => by
    rw [feedH_take kind _ l j (by omega), feed_part kind ws rest l hr j (by omega) (by omega), stepH]
    dsimp only
    rw [if_pos h2]
    have hlt : (l.take j).length = j := by rw [List.length_take, Nat.min_eq_left (by omega)]
    have e1 : (l.take j ++ rest.drop j).set j (l.getD j 0) = l.take (j + 1) ++ rest.drop (j + 1) := by
      rw [List.set_append_right _ _ (by omega), hlt, Nat.sub_self, List.drop_eq_getElem_cons (by omega), List.set_cons_zero, take_one l j (by omega), List.append_assoc]
      rfl
    rw [e1]
theorem feed_block (kind : Int) (ws : List Int) (rest l : List UInt8) (hr : rest.length = 64) (hl : l.length = 64) : feedH kind (ws, rest, 0) l = (comp kind ws l, l, 0) := by
  have h := feedH_take kind (ws, rest, 0) l 63 (by omega)
  rw [List.take_of_length_le (by omega)] at h
  rw [h, feed_part kind ws rest l hr 63 (by omega) (by omega), stepH]
  dsimp only
  rw [if_neg (by omega)]
  have hlt : (l.take 63).length = 63 := by rw [List.length_take, Nat.min_eq_left (by omega)]
  have e1 : (l.take 63 ++ rest.drop 63).set 63 (l.getD 63 0) = l := by
    rw [List.set_append_right _ _ (by omega), hlt, Nat.sub_self, List.drop_eq_getElem_cons (by omega), List.set_cons_zero]
    have e2 : rest.drop (63 + 1) = [] := List.drop_of_length_le (by omega)
    rw [e2]
    have e3 : l = l.take 64 := (List.take_of_length_le (by omega)).symm
    conv => rhs; rw [e3, show (64 : Nat) = 63 + 1 from rfl, take_one l 63 (by omega)]
  rw [e1]
theorem feed_blocks (kind : Int) (ws : List Int) (rest p : List UInt8) (hr : rest.length = 64) : ∀ n, 64 * n ≤ p.length → ∃ r, r.length = 64 ∧ feedH kind (ws, rest, 0) (p.take (64 * n)) = (rf kind ws p n, r, 0)
  | 0, _ => ⟨rest, hr, by rw [Nat.mul_zero, List.take_zero]; rfl⟩
  | n + 1, h => by
    obtain ⟨r, h1, h2⟩ := feed_blocks kind ws rest p hr n (by omega)
    have hl : ((p.drop (64 * n)).take 64).length = 64 := by rw [List.length_take, List.length_drop, Nat.min_eq_left (by omega)]
    refine ⟨(p.drop (64 * n)).take 64, hl, ?_⟩
    have e : p.take (64 * (n + 1)) = p.take (64 * n) ++ (p.drop (64 * n)).take 64 := by
      rw [show 64 * (n + 1) = 64 * n + 64 by omega, List.take_add]
    have ec : comp kind (rf kind ws p n) ((p.drop (64 * n)).take 64) = comp kind (rf kind ws p n) (p.drop (64 * n)) := comp_congr kind _ fun i hi => by
      rw [List.getD_eq_getElem?_getD, List.getD_eq_getElem?_getD, List.getElem?_take, if_pos hi]
    rw [e, feedH_append, h2, feed_block kind _ r _ h1 hl, rf, ec]
theorem feed_n (kind : Int) (l : List UInt8) : ∀ s : List Int × List UInt8 × Nat, s.2.2 < 64 → (feedH kind s l).2.2 = (s.2.2 + l.length) % 64 := by
  induction l with
  | nil => intro s h; show s.2.2 = (s.2.2 + 0) % 64; omega
  | cons c l ih =>
    intro s h
    have h2 : (stepH kind s c).2.2 = (s.2.2 + 1) % 64 := by
      unfold stepH
      split
      · show s.2.2 + 1 = _; omega
      · show 0 = _; omega
    have h3 := ih (stepH kind s c) (by rw [h2]; omega)
    show (feedH kind (stepH kind s c) l).2.2 = _
    rw [h3, h2, List.length_cons]
    omega

theorem padL_length (b : List UInt8) : ∃ m, (padL b).length = 64 * m := by
  have h : (padL b).length = b.length + 1 + leftN ((b.length + 1) % 64) + 8 := by simp [padL, tailH]; omega
  refine ⟨(padL b).length / 64, ?_⟩
  rw [h]
  unfold leftN
  omega
theorem fin_pad (kind : Int) (b : List UInt8) : finH kind (feedH kind (initH kind) b) b.length = feedH kind (initH kind) (padL b) := by
  have h1 : stepH kind (feedH kind (initH kind) b) 128 = feedH kind (initH kind) (b ++ [128]) := by rw [feedH_append]; rfl
  have h2 : (feedH kind (initH kind) (b ++ [128])).2.2 = (b.length + 1) % 64 := by
    rw [feed_n kind _ _ (goodH_init kind).2.2, List.length_append]
    show (0 + (b.length + 1)) % 64 = _
    rw [Nat.zero_add]
  rw [finH, padH, h1, h2, padL]
  simp only [feedH_append]

theorem comp1_take (ws : List Int) (r : List UInt8) (h : ws.length = 8) : (comp1 ws r).take 5 = comp1 (ws.take 5) r := by
  obtain ⟨y0, y1, y2, y3, y4, y5, y6, y7, rfl⟩ : ∃ a b c d e f g i, ws = [a, b, c, d, e, f, g, i] := by
    match ws, h with
    | [a, b, c, d, e, f, g, i], _ => exact ⟨a, b, c, d, e, f, g, i, rfl⟩
  rfl
theorem rf_length (kind : Int) (ws : List Int) (p : List UInt8) (h : ws.length = 8) : ∀ n, (rf kind ws p n).length = 8
  | 0 => h
  | n + 1 => comp_length kind _ _ (rf_length kind ws p h n)
theorem rf_take (ws : List Int) (p : List UInt8) (h : ws.length = 8) : ∀ n, (rf 1 ws p n).take 5 = rf 1 (ws.take 5) p n
  | 0 => rfl
  | n + 1 => by
    show (comp1 (rf 1 ws p n) _).take 5 = comp1 (rf 1 (ws.take 5) p n) _
    rw [comp1_take _ _ (rf_length 1 ws p h n), rf_take ws p h n]

/-- The hash of bytes, block by block. -/
theorem sumP_blocks (kind : Int) (b : List UInt8) (m : Nat) (hm : (padL b).length = 64 * m) : sumP kind b = outH (if kind = 1 then (rf kind (start kind) (padL b) m).take 5 else rf kind (start kind) (padL b) m) := by
  obtain ⟨r, _, h⟩ := feed_blocks kind (start kind) (List.replicate 64 0) (padL b) rfl m (by omega)
  rw [List.take_of_length_le (by omega)] at h
  unfold sumP sumH
  rw [fin_pad, show initH kind = (start kind, List.replicate 64 0, 0) from rfl, h]
theorem sumP_1 (b : List UInt8) (m : Nat) (hm : (padL b).length = 64 * m) : sumP 1 b = outH (rf 1 [1732584193, 4023233417, 2562383102, 271733878, 3285377520] (padL b) m) := by
  rw [sumP_blocks 1 b m hm, if_pos rfl, rf_take _ _ (start_length 1)]
  rfl
theorem sumP_2 (b : List UInt8) (m : Nat) (hm : (padL b).length = 64 * m) : sumP 2 b = outH (rf 2 (start 2) (padL b) m) := by
  rw [sumP_blocks 2 b m hm, if_neg (by decide)]
end Go.Proofs.Ytimelnihiocngaa
