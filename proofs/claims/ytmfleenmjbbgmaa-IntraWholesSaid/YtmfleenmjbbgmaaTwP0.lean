/- Runs of twins. -/
import Derived.Test.YtmfleenmjbbgmaaTwR
import Derived.KernelRfl
namespace Go.Proofs.Ytmfleenmjbbgmaa.tw
open Go.RX Go.RowKit Go.Proofs.Ytmfleenmjbbgmaa
theorem whole_3_kk_mid : run 28 29 (.int .i64 (.k 3)) (.xsl 1 (.k 16)) (.xsl 2 (.k 16)) [geF 3 0, leF 3 255] = true := by kernel_rfl
theorem four_hi_kz : run 19 20 (iv 0) (.xsl 1 (.k 4)) (.xsl 2 (.k 0)) [geF 0 9] = true := by kernel_rfl
theorem four_any_mb : run 19 20 (iv 0) (sv 1) (sv 2) [geF 1 1, leF 1 3, geF 2 9] = true := by kernel_rfl
theorem whole_lo_kz : run 28 29 (iv 0) (.xsl 1 (.k 16)) (.xsl 2 (.k 0)) [leF 0 (-1)] = true := by kernel_rfl
theorem chroma_lo_kk : run 30 31 (iv 0) (.xsl 1 (.k 8)) (.xsl 2 (.k 8)) [leF 0 (-1)] = true := by kernel_rfl
end Go.Proofs.Ytmfleenmjbbgmaa.tw
