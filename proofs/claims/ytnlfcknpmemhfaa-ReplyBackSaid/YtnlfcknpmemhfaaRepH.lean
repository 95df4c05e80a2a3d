/- Replies are written: both sides of each function answer alike; what is gone through. -/
import Derived.Test.YtnlfcknpmemhfaaRepG
import Derived.Test.YtnlfcknpmemhfaaRepC
import Derived.Test.YtnlfcknpmemhfaaStr
namespace Go.Proofs.Ytnlfcknpmemhfaa
open Go.RowKit

theorem intB_le (x : Int) : (intB x).length ≤ 9 := by
  have h1 := intB_length x
  have h2 := sizeI_le x
  omega

theorem okLen (l trk : List UInt8) (c a i st wn : Int) (info : ByteArray) (k : Bool) (hl : l.length ≤ 3000) (hi : info.size ≤ 3000) (ht : trk.length ≤ 3000) :
    (l ++ (okHead k a i st wn ++ okTail c st info.data.toList trk)).length ≤ 20000 := by
  have h1 := intB_le a
  have h2 := intB_le i
  have h3 : (fixB st 2).length = 2 := fixB_length st 2
  have h4 : (fixB wn 2).length = 2 := fixB_length wn 2
  have h5 := textB_le info
  have h6 := textB_le (strL trk)
  rw [strL_size, strL_toList] at h6
  have h7 := size_toList info
  simp only [okHead, okTail, List.length_append, List.length_cons]
  split
  · split <;> simp <;> omega
  · omega

theorem ok_both (l trk : List UInt8) (c a i st wn : Int) (info : ByteArray) (k : Bool) (hl : l.length ≤ 3000) (hi : info.size ≤ 3000) (htl : trk.length ≤ 3000)
    (ha : 0 ≤ a ∧ a < 18446744073709551616) (hii : 0 ≤ i ∧ i < 18446744073709551616) (hst : 0 ≤ st ∧ st < 65536) (hwn : 0 ≤ wn ∧ wn < 65536) :
    ∃ L n, L.length ≤ 20000 ∧
      (∀ (w : World) (v vt : Value), Rd w v l → Rd w vt trk → Calls Try.prog 16 #[v, .int .u32 c, .agg #[.int .u64 a, .int .u64 i, .int .u16 st, .int .u16 wn, .string info, vt], .bool k] w (RetBE w L n)) ∧
      (∀ (w : World) (v vt : Value), Rd w v l → Rd w vt trk → Calls Try.prog 18 #[v, .int .u32 c, .agg #[.int .u64 a, .int .u64 i, .int .u16 st, .int .u16 wn, .string info, vt], .bool k] w (RetBE w L n)) := by
  by_cases h : trk = [] ∨ trackB c st = true
  · exact ⟨_, _, okLen l trk c a i st wn info k hl hi htl, fun w v vt hr ht => appendOk_good w v vt l trk c a i st wn info k hr ht (by omega) (by omega) (by omega) ha hii hst hwn h,
      fun w v vt hr ht => appendOkR_good w v vt l trk c a i st wn info k hr ht (by omega) (by omega) (by omega) ha hii hst hwn h⟩
  · have h1 : 0 < trk.length := List.length_pos_iff.2 fun e => h (.inl e)
    have h2 : trackB c st = false := by simpa using fun e => h (.inr e)
    exact ⟨[], 2, by simp, fun w v vt hr ht => appendOk_bad w v vt trk c a i st wn info k ht h1 h2, fun w v vt hr ht => appendOkR_bad w v vt trk c a i st wn info k ht h1 h2⟩

theorem err_both (l : List UInt8) (c : Int) (s t : ByteArray) (hl : l.length ≤ 3000) (hs : s.size ≤ 3000) (ht : t.size ≤ 3000) (hc : 0 ≤ c ∧ c < 65536) :
    ∃ L n, L.length ≤ 20000 ∧
      (∀ (w : World) (v : Value), Rd w v l → Calls Try.prog 20 #[v, .agg #[.int .u16 c, .string s, .string t]] w (RetBE w L n)) ∧
      (∀ (w : World) (v : Value), Rd w v l → Calls Try.prog 21 #[v, .agg #[.int .u16 c, .string s, .string t]] w (RetBE w L n)) := by
  by_cases h : s.size = 5
  · have h3 : (fixB c 2).length = 2 := fixB_length c 2
    have h4 := size_toList s
    have h5 := size_toList t
    exact ⟨_, _, by simp [errB]; omega, fun w v hr => appendErr_good w v l c s t hr (by omega) h (by omega) hc, fun w v hr => appendErrR_good w v l c s t hr (by omega) h (by omega) hc⟩
  · exact ⟨[], 2, by simp, fun w v hr => appendErr_bad w v c s t (by omega) (by omega), fun w v hr => appendErrR_bad w v c s t (by omega) (by omega)⟩

theorem file_both (l : List UInt8) (s : ByteArray) (hl : l.length ≤ 3000) (hs : s.size ≤ 3000) :
    ∃ L n, L.length ≤ 20000 ∧
      (∀ (w : World) (v : Value), Rd w v l → Calls Try.prog 22 #[v, .string s] w (RetBE w L n)) ∧
      (∀ (w : World) (v : Value), Rd w v l → Calls Try.prog 23 #[v, .string s] w (RetBE w L n)) := by
  by_cases h : s.toList = []
  · have h0 : s = ⟨#[]⟩ := by
      rw [ByteArray.toList_eq] at h
      obtain ⟨⟨d⟩⟩ := s
      simp at h
      subst h
      rfl
    subst h0
    exact ⟨[], 2, by simp, fun w v _ => appendFile_bad w v, fun w v _ => appendFileR_bad w v⟩
  · have h4 := size_toList s
    exact ⟨_, _, by simp [fileB]; omega, fun w v hr => appendFile_good w v l s hr (by omega) (by omega) h, fun w v hr => appendFileR_good w v l s hr (by omega) (by omega) h⟩

/-- The cells of one of each reply. -/
def rep17 (a i st wn : Int) (info : ByteArray) (vt : Value) (k : Bool) (ec : Int) (es et : ByteArray) (ea eb pi px py pz : Int) (f : ByteArray) : List Value :=
  [.int .u64 a, .int .u64 i, .int .u16 st, .int .u16 wn, .string info, vt, .bool k, .int .u16 ec, .string es, .string et, .int .u16 ea, .int .u16 eb, .int .u32 pi, .int .u16 px, .int .u16 py, .int .u16 pz, .string f]

/-- Are they gone through? -/
def smallB (info : ByteArray) (trk : List UInt8) (es et f : ByteArray) : Bool := decide (info.size ≤ 3000) && (decide (trk.length ≤ 3000) && (decide (es.size ≤ 3000) && (decide (et.size ≤ 3000) && decide (f.size ≤ 3000))))

set_option maxRecDepth 100000 in
set_option maxHeartbeats 4000000 in
theorem small_c (w : World) (a i st wn : Int) (info : ByteArray) (vt : Value) (trk : List UInt8) (k : Bool) (ec : Int) (es et : ByteArray) (ea eb pi px py pz : Int) (f : ByteArray) (ht : Rd w vt trk) (r : Bool) (h : smallB info trk es et f = r)
    (h1 : info.size ≤ maxLen) (h2 : es.size ≤ maxLen) (h3 : et.size ≤ maxLen) (h4 : f.size ≤ maxLen) :
    Calls Try.prog 15 #[.agg (rep17 a i st wn info vt k ec es et ea eb pi px py pz f).toArray] w fun e w' => e = .returned (.bool r) ∧ Ext w w' := by
  unfold maxLen at h1 h2 h3 h4
  obtain ⟨A, cap, rfl, hle, hm, hA, hc⟩ := ht
  unfold maxLen at hm
  clear hA hc
  unfold smallB at h
  by_cases g1 : info.size ≤ 3000
  · by_cases g2 : trk.length ≤ 3000
    · by_cases g3 : es.size ≤ 3000
      · by_cases g4 : et.size ≤ 3000
        · by_cases g5 : f.size ≤ 3000
          · have hr : r = true := by rw [← h]; simp [g1, g2, g3, g4, g5]
            subst hr
            clear h
            unfold rep17
            go_enter Try.func15, Try.ntmps15
            go_wp2_with fail
            go_ret
            exact ⟨by first | rfl | (simp; omega), (Ext.refl _).alloc _⟩
          · have hr : r = false := by rw [← h]; simp [g5]
            subst hr
            clear h
            unfold rep17
            go_enter Try.func15, Try.ntmps15
            go_wp2_with fail
            go_ret
            exact ⟨by first | rfl | (simp; omega), (Ext.refl _).alloc _⟩
        · have hr : r = false := by rw [← h]; simp [g4]
          subst hr
          clear h
          unfold rep17
          go_enter Try.func15, Try.ntmps15
          go_wp2_with fail
          go_ret
          exact ⟨by first | rfl | (simp; omega), (Ext.refl _).alloc _⟩
      · have hr : r = false := by rw [← h]; simp [g3]
        subst hr
        clear h
        unfold rep17
        go_enter Try.func15, Try.ntmps15
        go_wp2_with fail
        go_ret
        exact ⟨by first | rfl | (simp; omega), (Ext.refl _).alloc _⟩
    · have hr : r = false := by rw [← h]; simp [g2]
      subst hr
      clear h
      unfold rep17
      go_enter Try.func15, Try.ntmps15
      go_wp2_with fail
      go_ret
      exact ⟨by first | rfl | (simp; omega), (Ext.refl _).alloc _⟩
  · have hr : r = false := by rw [← h]; simp [g1]
    subst hr
    clear h
    unfold rep17
    go_enter Try.func15, Try.ntmps15
    go_wp2_with fail
    go_ret
    exact ⟨by first | rfl | (simp; omega), (Ext.refl _).alloc _⟩
end Go.Proofs.Ytnlfcknpmemhfaa
