/- Runs of pairs. -/
import Derived.Test.YtpaeakmhgobcdaaPoR
import Derived.KernelRfl
namespace Go.Proofs.Ytpaeakmhgobcdaa.po
open Go.RX Go.RowKit Go.Proofs.Ytpaeakmhgobcdaa
theorem one_1_lo : (thenRun 2 Try.prog R (cxP R) 25 7 [sp (.xsl 6 (.k 1)), iv 11, bv 13] 8 [sp (.xsl 6 (.k 1)), iv 11, bv 13] [leF 11 (-1)]).good = true := by kernel_rfl
theorem one_3_lo : (thenRun 2 Try.prog R (cxP R) 25 7 [sp (.xsl 6 (.k 3)), iv 11, bv 13] 8 [sp (.xsl 6 (.k 3)), iv 11, bv 13] [leF 11 (-1)]).good = true := by kernel_rfl
theorem one_3_2b : (thenRun 2 Try.prog R (cxP R) 25 7 [sp (.xsl 6 (.k 3)), iv 11, bv 13] 8 [sp (.xsl 6 (.k 3)), iv 11, bv 13] [geF 54 1001]).good = true := by kernel_rfl
theorem one_4_3s : (thenRun 2 Try.prog R (cxP R) 25 7 [sp (.xsl 6 (.k 4)), iv 11, bv 13] 8 [sp (.xsl 6 (.k 4)), iv 11, bv 13] [leF 70 (-1001)]).good = true := by kernel_rfl
end Go.Proofs.Ytpaeakmhgobcdaa.po
