/- Runs of pairs. -/
import Derived.Test.YtpaeakmhgobcdaaPoR
import Derived.KernelRfl
namespace Go.Proofs.Ytpaeakmhgobcdaa.po
open Go.RX Go.RowKit Go.Proofs.Ytpaeakmhgobcdaa
theorem one_2_hi : (thenRun 2 Try.prog R (cxP R) 25 7 [sp (.xsl 6 (.k 2)), iv 11, bv 13] 8 [sp (.xsl 6 (.k 2)), iv 11, bv 13] [geF 11 1048577]).good = true := by kernel_rfl
theorem one_4_hi : (thenRun 2 Try.prog R (cxP R) 25 7 [sp (.xsl 6 (.k 4)), iv 11, bv 13] 8 [sp (.xsl 6 (.k 4)), iv 11, bv 13] [geF 11 1048577]).good = true := by kernel_rfl
theorem one_4_0s : (thenRun 2 Try.prog R (cxP R) 25 7 [sp (.xsl 6 (.k 4)), iv 11, bv 13] 8 [sp (.xsl 6 (.k 4)), iv 11, bv 13] [leF 22 (-1001)]).good = true := by kernel_rfl
theorem zero_5 : (thenRun 3 Try.prog R (cxP R) 25 5 [iv 9, iv 10, iv 11, .int .i64 (.k 5)] 6 [iv 9, iv 10, iv 11, .int .i64 (.k 5)] []).good = true := by kernel_rfl
theorem zero_7 : (thenRun 3 Try.prog R (cxP R) 25 5 [iv 9, iv 10, iv 11, .int .i64 (.k 7)] 6 [iv 9, iv 10, iv 11, .int .i64 (.k 7)] []).good = true := by kernel_rfl
theorem count_5 : (thenRun 2 Try.prog R (cxP R) 25 9 [iv 9, iv 10, iv 11, .int .i64 (.k 5)] 10 [iv 9, iv 10, iv 11, .int .i64 (.k 5)] []).good = true := by kernel_rfl
theorem zero_lo : (thenRun 3 Try.prog R (cxP R) 25 5 [iv 9, iv 10, iv 11, iv 12] 6 [iv 9, iv 10, iv 11, iv 12] [leF 12 3]).good = true := by kernel_rfl
theorem zero_hi : (thenRun 3 Try.prog R (cxP R) 25 5 [iv 9, iv 10, iv 11, iv 12] 6 [iv 9, iv 10, iv 11, iv 12] [geF 12 9]).good = true := by kernel_rfl
theorem count_lo : (thenRun 2 Try.prog R (cxP R) 25 9 [iv 9, iv 10, iv 11, iv 12] 10 [iv 9, iv 10, iv 11, iv 12] [leF 12 3]).good = true := by kernel_rfl
theorem count_hi : (thenRun 2 Try.prog R (cxP R) 25 9 [iv 9, iv 10, iv 11, iv 12] 10 [iv 9, iv 10, iv 11, iv 12] [geF 12 9]).good = true := by kernel_rfl
end Go.Proofs.Ytpaeakmhgobcdaa.po
