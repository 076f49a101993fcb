/- Runs of twins. -/
import Derived.Test.YtmfleenmjbbgmaaTwR
import Derived.KernelRfl
namespace Go.Proofs.Ytmfleenmjbbgmaa.tw
open Go.RX Go.RowKit Go.Proofs.Ytmfleenmjbbgmaa
theorem whole_3_zz : run 28 29 (.int .i64 (.k 3)) (.xsl 1 (.k 0)) (.xsl 2 (.k 0)) [] = true := by kernel_rfl
theorem whole_3_kz : run 28 29 (.int .i64 (.k 3)) (.xsl 1 (.k 16)) (.xsl 2 (.k 0)) [] = true := by kernel_rfl
theorem four_2_zz : run 19 20 (.int .i64 (.k 2)) (.xsl 1 (.k 0)) (.xsl 2 (.k 0)) [] = true := by kernel_rfl
theorem four_0_zk : run 19 20 (.int .i64 (.k 0)) (.xsl 1 (.k 0)) (.xsl 2 (.k 8)) [] = true := by kernel_rfl
theorem four_7_zk : run 19 20 (.int .i64 (.k 7)) (.xsl 1 (.k 0)) (.xsl 2 (.k 8)) [] = true := by kernel_rfl
theorem four_5_kz : run 19 20 (.int .i64 (.k 5)) (.xsl 1 (.k 4)) (.xsl 2 (.k 0)) [] = true := by kernel_rfl
theorem four_4_kk_mid : run 19 20 (.int .i64 (.k 4)) (.xsl 1 (.k 4)) (.xsl 2 (.k 8)) [geF 3 0, leF 3 255] = true := by kernel_rfl
theorem chroma_0_zz : run 30 31 (.int .i64 (.k 0)) (.xsl 1 (.k 0)) (.xsl 2 (.k 0)) [] = true := by kernel_rfl
theorem chroma_0_kz : run 30 31 (.int .i64 (.k 0)) (.xsl 1 (.k 8)) (.xsl 2 (.k 0)) [] = true := by kernel_rfl
theorem four_5_kk_neg : run 19 20 (.int .i64 (.k 5)) (.xsl 1 (.k 4)) (.xsl 2 (.k 8)) [leF 3 (-1)] = true := by kernel_rfl
theorem four_hi_zk : run 19 20 (iv 0) (.xsl 1 (.k 0)) (.xsl 2 (.k 8)) [geF 0 9] = true := by kernel_rfl
theorem four_any_kb : run 19 20 (iv 0) (.xsl 1 (.k 4)) (sv 2) [geF 2 9] = true := by kernel_rfl
theorem four_any_bb : run 19 20 (iv 0) (sv 1) (sv 2) [geF 1 5, geF 2 9] = true := by kernel_rfl
theorem chroma_lo_zz : run 30 31 (iv 0) (.xsl 1 (.k 0)) (.xsl 2 (.k 0)) [leF 0 (-1)] = true := by kernel_rfl
end Go.Proofs.Ytmfleenmjbbgmaa.tw
