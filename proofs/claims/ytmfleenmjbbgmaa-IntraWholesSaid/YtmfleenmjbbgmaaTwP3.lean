/- Runs of twins. -/
import Derived.Test.YtmfleenmjbbgmaaTwR
import Derived.KernelRfl
namespace Go.Proofs.Ytmfleenmjbbgmaa.tw
open Go.RX Go.RowKit Go.Proofs.Ytmfleenmjbbgmaa
theorem whole_1_zz : run 28 29 (.int .i64 (.k 1)) (.xsl 1 (.k 0)) (.xsl 2 (.k 0)) [] = true := by kernel_rfl
theorem whole_1_kz : run 28 29 (.int .i64 (.k 1)) (.xsl 1 (.k 16)) (.xsl 2 (.k 0)) [] = true := by kernel_rfl
theorem four_0_zz : run 19 20 (.int .i64 (.k 0)) (.xsl 1 (.k 0)) (.xsl 2 (.k 0)) [] = true := by kernel_rfl
theorem four_7_zz : run 19 20 (.int .i64 (.k 7)) (.xsl 1 (.k 0)) (.xsl 2 (.k 0)) [] = true := by kernel_rfl
theorem four_5_zk : run 19 20 (.int .i64 (.k 5)) (.xsl 1 (.k 0)) (.xsl 2 (.k 8)) [] = true := by kernel_rfl
theorem four_3_kz : run 19 20 (.int .i64 (.k 3)) (.xsl 1 (.k 4)) (.xsl 2 (.k 0)) [] = true := by kernel_rfl
theorem four_2_kk : run 19 20 (.int .i64 (.k 2)) (.xsl 1 (.k 4)) (.xsl 2 (.k 8)) [] = true := by kernel_rfl
theorem four_7_kk : run 19 20 (.int .i64 (.k 7)) (.xsl 1 (.k 4)) (.xsl 2 (.k 8)) [] = true := by kernel_rfl
theorem chroma_2_zk : run 30 31 (.int .i64 (.k 2)) (.xsl 1 (.k 0)) (.xsl 2 (.k 8)) [] = true := by kernel_rfl
theorem chroma_2_kk : run 30 31 (.int .i64 (.k 2)) (.xsl 1 (.k 8)) (.xsl 2 (.k 8)) [] = true := by kernel_rfl
theorem chroma_lo_kz : run 30 31 (iv 0) (.xsl 1 (.k 8)) (.xsl 2 (.k 0)) [leF 0 (-1)] = true := by kernel_rfl
end Go.Proofs.Ytmfleenmjbbgmaa.tw
