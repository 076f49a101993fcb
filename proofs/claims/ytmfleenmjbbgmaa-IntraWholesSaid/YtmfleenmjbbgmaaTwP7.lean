/- Runs of twins. -/
import Derived.Test.YtmfleenmjbbgmaaTwR
import Derived.KernelRfl
namespace Go.Proofs.Ytmfleenmjbbgmaa.tw
open Go.RX Go.RowKit Go.Proofs.Ytmfleenmjbbgmaa
theorem whole_1_zk : run 28 29 (.int .i64 (.k 1)) (.xsl 1 (.k 0)) (.xsl 2 (.k 16)) [] = true := by kernel_rfl
theorem whole_1_kk : run 28 29 (.int .i64 (.k 1)) (.xsl 1 (.k 16)) (.xsl 2 (.k 16)) [] = true := by kernel_rfl
theorem four_4_zz : run 19 20 (.int .i64 (.k 4)) (.xsl 1 (.k 0)) (.xsl 2 (.k 0)) [] = true := by kernel_rfl
theorem four_2_zk : run 19 20 (.int .i64 (.k 2)) (.xsl 1 (.k 0)) (.xsl 2 (.k 8)) [] = true := by kernel_rfl
theorem four_0_kz : run 19 20 (.int .i64 (.k 0)) (.xsl 1 (.k 4)) (.xsl 2 (.k 0)) [] = true := by kernel_rfl
theorem four_7_kz : run 19 20 (.int .i64 (.k 7)) (.xsl 1 (.k 4)) (.xsl 2 (.k 0)) [] = true := by kernel_rfl
theorem four_5_kk_mid : run 19 20 (.int .i64 (.k 5)) (.xsl 1 (.k 4)) (.xsl 2 (.k 8)) [geF 3 0, leF 3 255] = true := by kernel_rfl
theorem chroma_2_zz : run 30 31 (.int .i64 (.k 2)) (.xsl 1 (.k 0)) (.xsl 2 (.k 0)) [] = true := by kernel_rfl
theorem chroma_2_kz : run 30 31 (.int .i64 (.k 2)) (.xsl 1 (.k 8)) (.xsl 2 (.k 0)) [] = true := by kernel_rfl
theorem whole_3_kk_neg : run 28 29 (.int .i64 (.k 3)) (.xsl 1 (.k 16)) (.xsl 2 (.k 16)) [leF 3 (-1)] = true := by kernel_rfl
theorem four_any_zb : run 19 20 (iv 0) (.xsl 1 (.k 0)) (sv 2) [geF 2 9] = true := by kernel_rfl
theorem four_any_mk : run 19 20 (iv 0) (sv 1) (.xsl 2 (.k 8)) [geF 1 1, leF 1 3] = true := by kernel_rfl
theorem whole_hi_zz : run 28 29 (iv 0) (.xsl 1 (.k 0)) (.xsl 2 (.k 0)) [geF 0 4] = true := by kernel_rfl
theorem chroma_lo_zk : run 30 31 (iv 0) (.xsl 1 (.k 0)) (.xsl 2 (.k 8)) [leF 0 (-1)] = true := by kernel_rfl
end Go.Proofs.Ytmfleenmjbbgmaa.tw
