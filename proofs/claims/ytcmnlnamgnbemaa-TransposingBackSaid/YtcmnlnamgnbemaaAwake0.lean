/-
  The examples of the chapter, computed; contracts at known results.
-/
import Derived.Test.YtcmnlnamgnbemaaL04
import Derived.Test.YtcmnlnamgnbemaaSame
namespace Go.Proofs.Ytcmnlnamgnbemaa
set_option linter.unusedSimpArgs false
set_option linter.unusedVariables false
open Go.RowKit

def exM : Arr := .mk 1 [2, 3] [1, 2, 3, 4, 5, 6] []
theorem ex1 : axesV (.mk 1 [2] [0, 0] []) exM = (.mk 1 [2] [1, 5] [], 0) := by rfl
theorem ex2 : (axesV (.mk 1 [2] [1, 1] []) exM) = (Arr.zero, 17) := by rfl
theorem ex3 : (axesV (.mk 1 [2] [0, 2] []) exM) = (Arr.zero, 18) := by rfl
theorem ex4 : reverseV exM = .mk 1 [3, 2] [1, 4, 2, 5, 3, 6] [] := by rfl
end Go.Proofs.Ytcmnlnamgnbemaa
