/- Runs of twins. -/
import Derived.Test.YtmfleenmjbbgmaaTwR
import Derived.KernelRfl
namespace Go.Proofs.Ytmfleenmjbbgmaa.tw
open Go.RX Go.RowKit Go.Proofs.Ytmfleenmjbbgmaa
theorem whole_0_zz : run 28 29 (.int .i64 (.k 0)) (.xsl 1 (.k 0)) (.xsl 2 (.k 0)) [] = true := by kernel_rfl
theorem whole_0_kz : run 28 29 (.int .i64 (.k 0)) (.xsl 1 (.k 16)) (.xsl 2 (.k 0)) [] = true := by kernel_rfl
theorem chroma_3_kk_big : run 30 31 (.int .i64 (.k 3)) (.xsl 1 (.k 8)) (.xsl 2 (.k 8)) [geF 3 256] = true := by kernel_rfl
theorem four_1_kk : run 19 20 (.int .i64 (.k 1)) (.xsl 1 (.k 4)) (.xsl 2 (.k 8)) [] = true := by kernel_rfl
theorem four_6_kk_big : run 19 20 (.int .i64 (.k 6)) (.xsl 1 (.k 4)) (.xsl 2 (.k 8)) [geF 3 256] = true := by kernel_rfl
theorem chroma_1_zk : run 30 31 (.int .i64 (.k 1)) (.xsl 1 (.k 0)) (.xsl 2 (.k 8)) [] = true := by kernel_rfl
theorem chroma_1_kk : run 30 31 (.int .i64 (.k 1)) (.xsl 1 (.k 8)) (.xsl 2 (.k 8)) [] = true := by kernel_rfl
theorem whole_hi_zk : run 28 29 (iv 0) (.xsl 1 (.k 0)) (.xsl 2 (.k 16)) [geF 0 4] = true := by kernel_rfl
theorem chroma_hi_kz : run 30 31 (iv 0) (.xsl 1 (.k 8)) (.xsl 2 (.k 0)) [geF 0 4] = true := by kernel_rfl
end Go.Proofs.Ytmfleenmjbbgmaa.tw
