/- Runs of pairs. -/
import Derived.Test.YtpaeakmhgobcdaaPoR
import Derived.KernelRfl
namespace Go.Proofs.Ytpaeakmhgobcdaa.po
open Go.RX Go.RowKit Go.Proofs.Ytpaeakmhgobcdaa
theorem one_0 : (thenRun 2 Try.prog R (cxP R) 25 7 [sp (.xsl 6 (.k 0)), iv 11, bv 13] 8 [sp (.xsl 6 (.k 0)), iv 11, bv 13] []).good = true := by kernel_rfl
theorem one_1_0b : (thenRun 2 Try.prog R (cxP R) 25 7 [sp (.xsl 6 (.k 1)), iv 11, bv 13] 8 [sp (.xsl 6 (.k 1)), iv 11, bv 13] [geF 22 1001]).good = true := by kernel_rfl
theorem one_2_1s : (thenRun 2 Try.prog R (cxP R) 25 7 [sp (.xsl 6 (.k 2)), iv 11, bv 13] 8 [sp (.xsl 6 (.k 2)), iv 11, bv 13] [leF 38 (-1001)]).good = true := by kernel_rfl
theorem one_4_1b : (thenRun 2 Try.prog R (cxP R) 25 7 [sp (.xsl 6 (.k 4)), iv 11, bv 13] 8 [sp (.xsl 6 (.k 4)), iv 11, bv 13] [geF 38 1001]).good = true := by kernel_rfl
theorem zero_8 : (thenRun 3 Try.prog R (cxP R) 25 5 [iv 9, iv 10, iv 11, .int .i64 (.k 8)] 6 [iv 9, iv 10, iv 11, .int .i64 (.k 8)] []).good = true := by kernel_rfl
theorem count_7 : (thenRun 2 Try.prog R (cxP R) 25 9 [iv 9, iv 10, iv 11, .int .i64 (.k 7)] 10 [iv 9, iv 10, iv 11, .int .i64 (.k 7)] []).good = true := by kernel_rfl
end Go.Proofs.Ytpaeakmhgobcdaa.po
