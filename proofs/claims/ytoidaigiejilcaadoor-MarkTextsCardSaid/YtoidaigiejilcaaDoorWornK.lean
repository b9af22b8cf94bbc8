/- mestakit.Worn: what a sheep with a mark shows after wear. -/
import Derived.Test.YtoidaigiejilcaaDoorShow
import Derived.Test.YtoidaigiejilcaaDoorBase
namespace Go.Proofs.YtoidaigiejilcaaDoor
open Go.RowKit
set_option linter.unusedVariables false
set_option linter.unusedSimpArgs false

theorem onI_of (n : Int) (l r : Bool) (h0 : 0 ≤ n) (h1 : n ≤ 255) : onI n l r = (if l then (if r then bits .andNot .i64 (bits .andNot .i64 n 15) 240 else bits .andNot .i64 n 15) else (if r then bits .andNot .i64 n 240 else n)) := by
  have e1 := bits_andNot n 15 h0 h1 (by omega) (by omega)
  have e2 := bits_andNot n 240 h0 h1 (by omega) (by omega)
  have e3 := bits_andNot (butI n 15) 240 (butI_lo _ _) (butI_hi _ _) (by omega) (by omega)
  cases l <;> cases r
  · simpa using onI_ff n h0 h1
  · simpa [e2] using onI_ft n h0 h1
  · simpa [e1] using onI_tf n h0 h1
  · simpa [e1, e3] using onI_tt n h0 h1

end Go.Proofs.YtoidaigiejilcaaDoor
