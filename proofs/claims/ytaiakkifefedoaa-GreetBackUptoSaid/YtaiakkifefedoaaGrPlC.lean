import Derived.Test.YtaiakkifefedoaaGrPC
/- The chapter's first examples. -/
namespace Go.Proofs.Ytaiakkifefedoaa
open Go.RowKit

theorem rd_tail {w : World} {v : Value} {L : List UInt8} (r : Rd w v L) (h : L.length = 36) : ∃ b o c, v = .slice (some ⟨b, o, none⟩) 36 c ∧ (36 : Int) ≤ (c : Int) ∧ ¬ c = 32 ∧ Rd w (.slice (some ⟨b, o + 32, none⟩) 4 (c - 32)) ((L.take 36).drop 32) := by
  obtain ⟨A, c, rfl, hc, _, _, hz⟩ := id r
  obtain ⟨b, o, rfl, _⟩ := hz (by intro e; rw [e] at h; cases h)
  rw [h] at hc r
  have q := r.cut 32 36 (by omega) (by omega)
  have hn : ¬ c = 32 := by omega
  rw [if_neg hn] at q
  refine ⟨b, o, c, by rw [h], by omega, hn, ?_⟩
  simpa [addrk] using q
set_option maxRecDepth 100000 in
set_option maxHeartbeats 400000 in
theorem lives12_c (w : World) : Calls Try.prog 14 #[] w (RetTrue w) := by
  obtain ⟨G, hG⟩ : ∃ G, G = greetBs [56] 1 nonceT 33280 45 2 [] := ⟨_, rfl⟩
  have hGl : G.length = 47 := by rw [hG]; decide +kernel
  have HG := Lib.hid hG
  have HGL := Lib.hid hGl
  obtain ⟨A, hA⟩ : ∃ A, A = answerB ⟨33280, 1000, 45, [117], [7], [], [], []⟩ := ⟨_, rfl⟩
  have hAl : A.length = 36 := by rw [hA]; decide +kernel
  have hAt : (A.take 36).drop 32 = [117, 0, 1, 7] := by rw [hA]; decide +kernel
  have HA := Lib.hid hA
  have HAL := Lib.hid hAl
  have HAT := Lib.hid hAt
  have hok : AnsOk ⟨33280, 1000, 45, [117], [7], [], [], []⟩ := ⟨by decide, by decide, by decide, by decide, by decide, by decide, by decide, .inl rfl, .inl rfl, by decide, by decide, .inl rfl⟩
  have HOK := Lib.hid hok
  have HC1 := Lib.hid (show hasC 33280 33280 = true by decide)
  have N1 := Lib.hid (show nonceT.length = 20 by decide +kernel)
  have N2 := Lib.hid (show nonceOk nonceT = true by decide +kernel)
  have N3 := Lib.hid (show ([56] : List UInt8).contains 0 = false by decide)
  have N4 := Lib.hid (show ([] : List UInt8).contains 0 = false by decide)
  clear hG hGl hA hAl hAt hok
  go_enter Try.func14, Try.ntmps14
  go_wp2_with (first
    | (go_at_call 7; refine (nonce12_c _).mono ?_; rintro e w1 ⟨v1, rfl, ho1, hx1⟩; obtain ⟨A1, c1, hv1, _⟩ := id ho1.rd; rw [N1.out] at hv1; subst hv1)
    | (go_at_call 16; go_loud (refine (appendGreeting_g _ [56] nonceT [] 1 33280 45 2 _ ho1.rd N3.out N4.out N1.out N2.out HC1.out (.inl rfl) (by omega) (by omega) (by omega) (by omega) (by simp) (by simp)).mono ?_; rintro e w2 ⟨v2, rfl, ho2, hx2⟩; rw [← HG.out] at ho2; have r2 := ho2.rd; obtain ⟨A2, c2, rfl, _⟩ := id r2; rw [HGL.out]; clear ho2 r2))
    | (go_at_call 13; go_loud (refine (appendAnswer_g _ 33280 1000 45 [117] [7] [] [] [] _ _ (rd_lit _ _ [7] (by rfl) (by simp) 1 _ (by rfl) (by rfl)) (Recs.nil _ _) HOK.out (by simp) (by simp) (by simp) (by simp [attrsB])).mono ?_; rintro e w3 ⟨v3, rfl, ho3, hx3⟩; rw [← HA.out] at ho3; obtain ⟨b3, o3, c3, rfl, hc3i, hc32, q3⟩ := rd_tail ho3.rd HAL.out; rw [HAT.out] at q3; replace q3 := Lib.hid q3; have hE3 := (hx1.trans hx2).trans (((Ext.refl _).alloc _).trans hx3); clear ho3))
    | (go_at_call 10; go_loud (refine (same_c _ _ _ [117, 0, 1, 7] [117, 0, 1, 7] (q3.out.ext ((Ext.refl _).alloc _)) (rd_lit _ _ [117, 0, 1, 7] (by rfl) (by simp) 4 _ (by rfl) (by first | rfl | (simp; done))) true (by decide)).mono ?_; rintro e w4 ⟨rfl, rfl⟩))
    | fail)
  go_ret
  exact ⟨rfl, hE3.alloc _⟩

end Go.Proofs.Ytaiakkifefedoaa
