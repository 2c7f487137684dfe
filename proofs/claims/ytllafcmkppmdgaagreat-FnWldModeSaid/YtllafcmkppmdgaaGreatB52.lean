/- Codes of functions, group LWM. -/
import Derived.Test.YtllafcmkppmdgaaGreatB6
import Derived.Test.YtllafcmkppmdgaaGreatProg
namespace Go.Proofs.YtllafcmkppmdgaaGreat
open Go.RowKit
set_option linter.unusedVariables false
set_option linter.unusedSimpArgs false
set_option maxRecDepth 100000
set_option maxHeartbeats 4000000
set_option linter.defProp false
def k9 := mkK [(.t 2)] [] [] Tryz.func9 Tryz.ntmps9 rfl
end Go.Proofs.YtllafcmkppmdgaaGreat
