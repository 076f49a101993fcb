/- Runs of pairs. -/
import Derived.Test.YtpaeakmhgobcdaaPoR
import Derived.KernelRfl
namespace Go.Proofs.Ytpaeakmhgobcdaa.po
open Go.RX Go.RowKit Go.Proofs.Ytpaeakmhgobcdaa
theorem one_2_A : (thenRun 2 Try.prog (RA 2) (cxP (RA 2)) 25 7 [sp (.xsl 6 (.k 2)), iv 11, bv 13] 8 [sp (.xsl 6 (.k 2)), iv 11, bv 13] []).good = true := by kernel_rfl
theorem one_2_0b : (thenRun 2 Try.prog R (cxP R) 25 7 [sp (.xsl 6 (.k 2)), iv 11, bv 13] 8 [sp (.xsl 6 (.k 2)), iv 11, bv 13] [geF 22 1001]).good = true := by kernel_rfl
theorem one_3_0s : (thenRun 2 Try.prog R (cxP R) 25 7 [sp (.xsl 6 (.k 3)), iv 11, bv 13] 8 [sp (.xsl 6 (.k 3)), iv 11, bv 13] [leF 22 (-1001)]).good = true := by kernel_rfl
theorem one_4_2b : (thenRun 2 Try.prog R (cxP R) 25 7 [sp (.xsl 6 (.k 4)), iv 11, bv 13] 8 [sp (.xsl 6 (.k 4)), iv 11, bv 13] [geF 54 1001]).good = true := by kernel_rfl
end Go.Proofs.Ytpaeakmhgobcdaa.po
