/- Runs of twins. -/
import Derived.Test.YtmfleenmjbbgmaaTwR
import Derived.KernelRfl
namespace Go.Proofs.Ytmfleenmjbbgmaa.tw
open Go.RX Go.RowKit Go.Proofs.Ytmfleenmjbbgmaa
theorem whole_2_zz : run 28 29 (.int .i64 (.k 2)) (.xsl 1 (.k 0)) (.xsl 2 (.k 0)) [] = true := by kernel_rfl
theorem whole_2_kz : run 28 29 (.int .i64 (.k 2)) (.xsl 1 (.k 16)) (.xsl 2 (.k 0)) [] = true := by kernel_rfl
theorem four_1_zz : run 19 20 (.int .i64 (.k 1)) (.xsl 1 (.k 0)) (.xsl 2 (.k 0)) [] = true := by kernel_rfl
theorem four_8_zz : run 19 20 (.int .i64 (.k 8)) (.xsl 1 (.k 0)) (.xsl 2 (.k 0)) [] = true := by kernel_rfl
theorem four_6_zk : run 19 20 (.int .i64 (.k 6)) (.xsl 1 (.k 0)) (.xsl 2 (.k 8)) [] = true := by kernel_rfl
theorem four_4_kz : run 19 20 (.int .i64 (.k 4)) (.xsl 1 (.k 4)) (.xsl 2 (.k 0)) [] = true := by kernel_rfl
theorem four_3_kk : run 19 20 (.int .i64 (.k 3)) (.xsl 1 (.k 4)) (.xsl 2 (.k 8)) [] = true := by kernel_rfl
theorem four_8_kk : run 19 20 (.int .i64 (.k 8)) (.xsl 1 (.k 4)) (.xsl 2 (.k 8)) [] = true := by kernel_rfl
theorem chroma_3_zk : run 30 31 (.int .i64 (.k 3)) (.xsl 1 (.k 0)) (.xsl 2 (.k 8)) [] = true := by kernel_rfl
theorem four_4_kk_neg : run 19 20 (.int .i64 (.k 4)) (.xsl 1 (.k 4)) (.xsl 2 (.k 8)) [leF 3 (-1)] = true := by kernel_rfl
theorem four_lo_zk : run 19 20 (iv 0) (.xsl 1 (.k 0)) (.xsl 2 (.k 8)) [leF 0 (-1)] = true := by kernel_rfl
theorem four_any_km : run 19 20 (iv 0) (.xsl 1 (.k 4)) (sv 2) [geF 2 1, leF 2 7] = true := by kernel_rfl
theorem four_any_bm : run 19 20 (iv 0) (sv 1) (sv 2) [geF 1 5, geF 2 1, leF 2 7] = true := by kernel_rfl
theorem whole_hi_kk : run 28 29 (iv 0) (.xsl 1 (.k 16)) (.xsl 2 (.k 16)) [geF 0 4] = true := by kernel_rfl
end Go.Proofs.Ytmfleenmjbbgmaa.tw
