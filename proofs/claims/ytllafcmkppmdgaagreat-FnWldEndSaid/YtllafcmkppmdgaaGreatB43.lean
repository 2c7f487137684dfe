/- Codes of functions, group LWE. -/
import Derived.Test.YtllafcmkppmdgaaGreatB6
import Derived.Test.YtllafcmkppmdgaaGreatProg
namespace Go.Proofs.YtllafcmkppmdgaaGreat
open Go.RowKit
set_option linter.unusedVariables false
set_option linter.unusedSimpArgs false
set_option maxRecDepth 100000
set_option maxHeartbeats 4000000
set_option linter.defProp false
def k8 := mkK [(.t 2)] [] [(8,[],.f [1,4,8,12,17] (.l [22,26,31]) (.l [26,22,31]))] Tryz.func8 Tryz.ntmps8 rfl
end Go.Proofs.YtllafcmkppmdgaaGreat
