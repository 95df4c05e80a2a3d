/- Lists of changes that are the same. -/
import Derived.Test.YtdjnjhlgpflcjaaTrF
namespace Go.Proofs.Ytdjnjhlgpflcjaa
open Go.RowKit

def RecC (w : World) (v : Value) (cs : List Chg) : Prop := Recs w 3 v (chgsC cs)
theorem OwnC.rec {w : World} {base : Nat} {v : Value} {cs : List Chg} (h : OwnC w base v cs) : RecC w v cs := OwnR.recs h
theorem RecC.ext {w w' : World} {v : Value} {cs : List Chg} (h : RecC w v cs) (k : Ext w w') : RecC w' v cs := Recs.ext h k
theorem RecC.shape {w : World} {v : Value} {cs : List Chg} (h : RecC w v cs) : ∃ A c, v = .slice A cs.length c ∧ cs.length ≤ c ∧ c ≤ maxLen := by
  obtain ⟨A, c, h1, h2, h3⟩ := Recs.shape h
  rw [chgsC_length] at h1 h2
  exact ⟨A, c, h1, h2, h3⟩
theorem chgsC_getD (cs : List Chg) (k : Nat) (h : k < cs.length) : (chgsC cs).getD k [] = chgC (cs.getD k (0, [], [])) := by
  simp [chgsC, List.getD_eq_getElem?_getD, List.getElem?_eq_getElem h]
theorem RecC.cells {w : World} {A : Option Addr} {n c : Nat} {cs : List Chg} (h : RecC w (.slice A n c) cs) (k : Nat) (hk : k < cs.length) : ∃ b o, A = some ⟨b, o, none⟩ ∧
    w.cell? ⟨b, o + k * 3, none⟩ = some (.int .i64 (cs.getD k (0, [], [])).1) ∧ w.cell? ⟨b, o + k * 3 + 1, none⟩ = some (.string (strL (cs.getD k (0, [], [])).2.1)) ∧ w.cell? ⟨b, o + k * 3 + 2, none⟩ = some (.string (strL (cs.getD k (0, [], [])).2.2)) := by
  obtain ⟨A', c', hv, h1, h2, h3⟩ := h
  injection hv with e1 e2 e3
  obtain ⟨b, o, hA, hc⟩ := h3 (by intro e; have := congrArg List.length e; rw [chgsC_length, List.length_nil] at this; omega)
  have := hc k (by rw [chgsC_length]; exact hk)
  rw [chgsC_getD cs k hk] at this
  exact ⟨b, o, e1.trans hA, this 0 _ rfl, this 1 _ rfl, this 2 _ rfl⟩

set_option maxRecDepth 100000 in
set_option maxHeartbeats 2000000 in
theorem same_t (w : World) (va vb : Value) (cs : List Chg) (ha : RecC w va cs) (hb : RecC w vb cs) :
    Calls Try.prog 17 #[va, vb] w (RetTrue w) := by
  have HA := Lib.hid ha
  have HB := Lib.hid hb
  obtain ⟨A, ca, rfl, ha1, ha2⟩ := ha.shape
  obtain ⟨B, cb, rfl, hb1, hb2⟩ := hb.shape
  obtain ⟨N, hN⟩ : ∃ N, N = cs.length := ⟨_, rfl⟩
  have HN := Lib.hid hN
  rw [← hN] at HA HB ha1 hb1 ⊢
  unfold maxLen at ha2 hb2
  clear ha hb hN
  go_enter Try.func17, Try.ntmps17
  go_wp2_with fail
  go_loopw [5] (fun i W => ∃ k : Nat, k ≤ N ∧ i = .int .i64 k ∧ Ext w W) (fun i _ => N - (intOf i).toNat)
  case atStart => exact ⟨0, Nat.zero_le _, rfl, Ext.refl _⟩
  case round =>
    obtain ⟨k, hk, rfl, hx⟩ := hrel
    by_cases hkN : k < N
    · have hbk : (k : Int) < (N : Int) := by omega
      obtain ⟨b0, o0, rfl, p0, p1, p2⟩ := HA.out.cells k (by have := HN.out; omega)
      obtain ⟨b9, o9, rfl, q0, q1, q2⟩ := HB.out.cells k (by have := HN.out; omega)
      generalize cs.getD k (0, [], []) = c at p0 p1 p2 q0 q1 q2
      obtain ⟨ck, cn, cv⟩ := c
      dsimp only at p0 p1 p2 q0 q1 q2
      replace p0 := hx.cell p0
      replace p1 := hx.cell p1
      replace p2 := hx.cell p2
      replace q0 := hx.cell q0
      replace q1 := hx.cell q1
      replace q2 := hx.cell q2
      go_wp2_with fail
      go_region
      all_goals
        go_wp2_with fail
        go_roundw
        case rel => exact ⟨k + 1, by omega, by go_num, hx.drew⟩
        case measure => simp [intOf]; omega
    · obtain rfl : k = N := by omega
      go_wp2_with fail
      go_ret
      exact ⟨rfl, hx⟩
end Go.Proofs.Ytdjnjhlgpflcjaa
