/- Runs of pairs. -/
import Derived.Test.YtpaeakmhgobcdaaPoR
import Derived.KernelRfl
namespace Go.Proofs.Ytpaeakmhgobcdaa.po
open Go.RX Go.RowKit Go.Proofs.Ytpaeakmhgobcdaa
theorem one_2_lo : (thenRun 2 Try.prog R (cxP R) 25 7 [sp (.xsl 6 (.k 2)), iv 11, bv 13] 8 [sp (.xsl 6 (.k 2)), iv 11, bv 13] [leF 11 (-1)]).good = true := by kernel_rfl
theorem one_4_lo : (thenRun 2 Try.prog R (cxP R) 25 7 [sp (.xsl 6 (.k 4)), iv 11, bv 13] 8 [sp (.xsl 6 (.k 4)), iv 11, bv 13] [leF 11 (-1)]).good = true := by kernel_rfl
theorem one_4_0b : (thenRun 2 Try.prog R (cxP R) 25 7 [sp (.xsl 6 (.k 4)), iv 11, bv 13] 8 [sp (.xsl 6 (.k 4)), iv 11, bv 13] [geF 22 1001]).good = true := by kernel_rfl
theorem zero_4 : (thenRun 3 Try.prog R (cxP R) 25 5 [iv 9, iv 10, iv 11, .int .i64 (.k 4)] 6 [iv 9, iv 10, iv 11, .int .i64 (.k 4)] []).good = true := by kernel_rfl
theorem zero_6 : (thenRun 3 Try.prog R (cxP R) 25 5 [iv 9, iv 10, iv 11, .int .i64 (.k 6)] 6 [iv 9, iv 10, iv 11, .int .i64 (.k 6)] []).good = true := by kernel_rfl
theorem count_4 : (thenRun 2 Try.prog R (cxP R) 25 9 [iv 9, iv 10, iv 11, .int .i64 (.k 4)] 10 [iv 9, iv 10, iv 11, .int .i64 (.k 4)] []).good = true := by kernel_rfl
theorem count_8 : (thenRun 2 Try.prog R (cxP R) 25 9 [iv 9, iv 10, iv 11, .int .i64 (.k 8)] 10 [iv 9, iv 10, iv 11, .int .i64 (.k 8)] []).good = true := by kernel_rfl
end Go.Proofs.Ytpaeakmhgobcdaa.po
