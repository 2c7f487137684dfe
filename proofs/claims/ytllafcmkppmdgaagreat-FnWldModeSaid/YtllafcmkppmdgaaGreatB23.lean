/- Codes of functions, group LiF. -/
import Derived.Test.YtllafcmkppmdgaaGreatB6
import Derived.Test.YtllafcmkppmdgaaGreatProg
namespace Go.Proofs.YtllafcmkppmdgaaGreat
open Go.RowKit
set_option linter.unusedVariables false
set_option linter.unusedSimpArgs false
set_option maxRecDepth 100000
set_option maxHeartbeats 4000000
set_option linter.defProp false
def k21 := mkK [(.t 4)] [] [] Tryz.func21 Tryz.ntmps21 rfl
def k75 := mkK [(.t 4)] [] [] Tryz.func75 Tryz.ntmps75 rfl
end Go.Proofs.YtllafcmkppmdgaaGreat
