/- What the program's tables say of the types of bytes. -/
import Derived.Test.YtdjnjhlgpflcjaaProg
import Derived.Test.YtdjnjhlgpflcjaaMem
import Derived.KernelRfl
namespace Go.Proofs.Ytdjnjhlgpflcjaa
open Go.RowKit

theorem info_u8 : (Try.prog.info? 5).map (fun i => (i.zero, i.size, i.bytes)) = some (some (.int .u8 0), 1, 1) := by kernel_rfl
theorem bt : BT Try.prog := by
  obtain ⟨i, hi, hz0, hz1, hz2⟩ := info_parts info_u8
  exact ⟨Try.underlying23, Try.underlying5, Try.underlying9, ⟨i, hi, hz0, hz1, hz2⟩⟩
end Go.Proofs.Ytdjnjhlgpflcjaa
