/- Runs of pairs. -/
import Derived.Test.YtpaeakmhgobcdaaPoR
import Derived.KernelRfl
namespace Go.Proofs.Ytpaeakmhgobcdaa.po
open Go.RX Go.RowKit Go.Proofs.Ytpaeakmhgobcdaa
theorem one_3_A : (thenRun 2 Try.prog (RA 3) (cxP (RA 3)) 25 7 [sp (.xsl 6 (.k 3)), iv 11, bv 13] 8 [sp (.xsl 6 (.k 3)), iv 11, bv 13] []).good = true := by kernel_rfl
theorem one_2_0s : (thenRun 2 Try.prog R (cxP R) 25 7 [sp (.xsl 6 (.k 2)), iv 11, bv 13] 8 [sp (.xsl 6 (.k 2)), iv 11, bv 13] [leF 22 (-1001)]).good = true := by kernel_rfl
theorem one_3_1b : (thenRun 2 Try.prog R (cxP R) 25 7 [sp (.xsl 6 (.k 3)), iv 11, bv 13] 8 [sp (.xsl 6 (.k 3)), iv 11, bv 13] [geF 38 1001]).good = true := by kernel_rfl
theorem one_4_2s : (thenRun 2 Try.prog R (cxP R) 25 7 [sp (.xsl 6 (.k 4)), iv 11, bv 13] 8 [sp (.xsl 6 (.k 4)), iv 11, bv 13] [leF 54 (-1001)]).good = true := by kernel_rfl
end Go.Proofs.Ytpaeakmhgobcdaa.po
