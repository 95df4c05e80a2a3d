/- The reference's function that reads an OK. (Printed by gen_rdJ.py.) -/
import Derived.Test.YtnlfcknpmemhfaaRdJ
namespace Go.Proofs.Ytnlfcknpmemhfaa
open Go.RowKit

theorem okT_has {c st : Int} {s : List UInt8 × Int} (h : hasB c 8388608 = false) : okT c st s = (((rR s).1, []), (rR s).2) := by unfold okT; rw [if_pos h]
theorem okT_track {c st : Int} {s : List UInt8 × Int} (h : trackB c st = true) : okT c st s = (((rT s).1, (rT (rT s).2).1), (rT (rT s).2).2) := by
  unfold okT
  rw [if_neg (by rw [track_has h]; simp), if_pos h]
theorem okT_text {c st : Int} {s : List UInt8 × Int} (h : hasB c 8388608 = true) (ht : trackB c st = false) (hl : 0 < s.1.length) : okT c st s = (((rT s).1, []), (rT s).2) := by
  unfold okT
  rw [if_neg (by rw [h]; simp), if_neg (by rw [ht]; simp), if_pos hl]
theorem okT_none {c st : Int} {s : List UInt8 × Int} (h : hasB c 8388608 = true) (ht : trackB c st = false) (hl : ¬ 0 < s.1.length) : okT c st s = (([], []), s) := by
  unfold okT
  rw [if_neg (by rw [h]; simp), if_neg (by rw [ht]; simp), if_neg hl]

end Go.Proofs.Ytnlfcknpmemhfaa
