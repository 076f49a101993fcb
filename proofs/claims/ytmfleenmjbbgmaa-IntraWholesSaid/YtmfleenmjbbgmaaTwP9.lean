/- Runs of twins. -/
import Derived.Test.YtmfleenmjbbgmaaTwR
import Derived.KernelRfl
namespace Go.Proofs.Ytmfleenmjbbgmaa.tw
open Go.RX Go.RowKit Go.Proofs.Ytmfleenmjbbgmaa
theorem whole_3_zk : run 28 29 (.int .i64 (.k 3)) (.xsl 1 (.k 0)) (.xsl 2 (.k 16)) [] = true := by kernel_rfl
theorem chroma_3_kk_mid : run 30 31 (.int .i64 (.k 3)) (.xsl 1 (.k 8)) (.xsl 2 (.k 8)) [geF 3 0, leF 3 255] = true := by kernel_rfl
theorem four_6_zz : run 19 20 (.int .i64 (.k 6)) (.xsl 1 (.k 0)) (.xsl 2 (.k 0)) [] = true := by kernel_rfl
theorem four_4_zk : run 19 20 (.int .i64 (.k 4)) (.xsl 1 (.k 0)) (.xsl 2 (.k 8)) [] = true := by kernel_rfl
theorem four_2_kz : run 19 20 (.int .i64 (.k 2)) (.xsl 1 (.k 4)) (.xsl 2 (.k 0)) [] = true := by kernel_rfl
theorem four_0_kk : run 19 20 (.int .i64 (.k 0)) (.xsl 1 (.k 4)) (.xsl 2 (.k 8)) [] = true := by kernel_rfl
theorem four_6_kk_mid : run 19 20 (.int .i64 (.k 6)) (.xsl 1 (.k 4)) (.xsl 2 (.k 8)) [geF 3 0, leF 3 255] = true := by kernel_rfl
theorem chroma_0_zk : run 30 31 (.int .i64 (.k 0)) (.xsl 1 (.k 0)) (.xsl 2 (.k 8)) [] = true := by kernel_rfl
theorem chroma_0_kk : run 30 31 (.int .i64 (.k 0)) (.xsl 1 (.k 8)) (.xsl 2 (.k 8)) [] = true := by kernel_rfl
theorem four_lo_zz : run 19 20 (iv 0) (.xsl 1 (.k 0)) (.xsl 2 (.k 0)) [leF 0 (-1)] = true := by kernel_rfl
theorem four_hi_zz : run 19 20 (iv 0) (.xsl 1 (.k 0)) (.xsl 2 (.k 0)) [geF 0 9] = true := by kernel_rfl
theorem four_hi_kk : run 19 20 (iv 0) (.xsl 1 (.k 4)) (.xsl 2 (.k 8)) [geF 0 9] = true := by kernel_rfl
theorem four_any_bk : run 19 20 (iv 0) (sv 1) (.xsl 2 (.k 8)) [geF 1 5] = true := by kernel_rfl
theorem whole_lo_kk : run 28 29 (iv 0) (.xsl 1 (.k 16)) (.xsl 2 (.k 16)) [leF 0 (-1)] = true := by kernel_rfl
end Go.Proofs.Ytmfleenmjbbgmaa.tw
