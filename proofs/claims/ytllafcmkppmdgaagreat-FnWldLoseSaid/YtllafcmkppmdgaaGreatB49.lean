/- Codes of functions, group LWL. -/
import Derived.Test.YtllafcmkppmdgaaGreatB6
import Derived.Test.YtllafcmkppmdgaaGreatProg
namespace Go.Proofs.YtllafcmkppmdgaaGreat
open Go.RowKit
set_option linter.unusedVariables false
set_option linter.unusedSimpArgs false
set_option maxRecDepth 100000
set_option maxHeartbeats 4000000
set_option linter.defProp false
def k11 := mkK [(.t 2)] [] [(14,[],.l [0,5,8,12,17,20,25,28,32,37,40,46,48,52,56,61,64,68,72,77,80,85,88,92,96,101,106,108,112,116,120,125,128,133,136,141,144,149,154,156,160,164,168,173,176,181,184,189,192,197,202,204,208])] Tryz.func11 Tryz.ntmps11 rfl
end Go.Proofs.YtllafcmkppmdgaaGreat
