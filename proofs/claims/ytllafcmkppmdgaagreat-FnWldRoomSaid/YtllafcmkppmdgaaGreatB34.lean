/- Codes of functions, group LWR. -/
import Derived.Test.YtllafcmkppmdgaaGreatB6
import Derived.Test.YtllafcmkppmdgaaGreatProg
namespace Go.Proofs.YtllafcmkppmdgaaGreat
open Go.RowKit
set_option linter.unusedVariables false
set_option linter.unusedSimpArgs false
set_option maxRecDepth 100000
set_option maxHeartbeats 4000000
set_option linter.defProp false
def k5 := mkK [(.t 2)] [] [(8,[],.l [1,4,8,12,17,22,27])] Tryz.func5 Tryz.ntmps5 rfl
end Go.Proofs.YtllafcmkppmdgaaGreat
