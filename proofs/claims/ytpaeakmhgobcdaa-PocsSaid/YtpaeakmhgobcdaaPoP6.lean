/- Runs of pairs. -/
import Derived.Test.YtpaeakmhgobcdaaPoR
import Derived.KernelRfl
namespace Go.Proofs.Ytpaeakmhgobcdaa.po
open Go.RX Go.RowKit Go.Proofs.Ytpaeakmhgobcdaa
theorem one_1_hi : (thenRun 2 Try.prog R (cxP R) 25 7 [sp (.xsl 6 (.k 1)), iv 11, bv 13] 8 [sp (.xsl 6 (.k 1)), iv 11, bv 13] [geF 11 1048577]).good = true := by kernel_rfl
theorem one_3_hi : (thenRun 2 Try.prog R (cxP R) 25 7 [sp (.xsl 6 (.k 3)), iv 11, bv 13] 8 [sp (.xsl 6 (.k 3)), iv 11, bv 13] [geF 11 1048577]).good = true := by kernel_rfl
theorem one_3_2s : (thenRun 2 Try.prog R (cxP R) 25 7 [sp (.xsl 6 (.k 3)), iv 11, bv 13] 8 [sp (.xsl 6 (.k 3)), iv 11, bv 13] [leF 54 (-1001)]).good = true := by kernel_rfl
theorem one_long : (litRun Try.prog R (cxP R) 25 7 [sp (sv 6), iv 11, bv 13] [geF 6 5] (.tup [.int .i64 (.k 0), .int .i64 (.k 1701)])).good = true := by kernel_rfl
theorem count_6 : (thenRun 2 Try.prog R (cxP R) 25 9 [iv 9, iv 10, iv 11, .int .i64 (.k 6)] 10 [iv 9, iv 10, iv 11, .int .i64 (.k 6)] []).good = true := by kernel_rfl
theorem two_ : (thenRun 0 Try.prog R (cxP R) 25 12 [iv 9, bv 13] 13 [iv 9, bv 13] []).good = true := by kernel_rfl
end Go.Proofs.Ytpaeakmhgobcdaa.po
