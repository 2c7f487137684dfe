/- Codes of functions, group LNL. -/
import Derived.Test.YtllafcmkppmdgaaGreatB6
import Derived.Test.YtllafcmkppmdgaaGreatProg
namespace Go.Proofs.YtllafcmkppmdgaaGreat
open Go.RowKit
set_option linter.unusedVariables false
set_option linter.unusedSimpArgs false
set_option maxRecDepth 100000
set_option maxHeartbeats 4000000
set_option linter.defProp false
def k6 := mkK [(.t 2)] [] [(13,[],.l [0,5,8,12,16,21,24,28,33,36,40,45,48]),(18,[],.l [0,5,8,12,16,21,24,28,33,36,40,45,48])] Tryz.func6 Tryz.ntmps6 rfl
end Go.Proofs.YtllafcmkppmdgaaGreat
