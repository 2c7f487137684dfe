/- Codes of functions, group LWA. -/
import Derived.Test.YtllafcmkppmdgaaGreatB6
import Derived.Test.YtllafcmkppmdgaaGreatProg
namespace Go.Proofs.YtllafcmkppmdgaaGreat
open Go.RowKit
set_option linter.unusedVariables false
set_option linter.unusedSimpArgs false
set_option maxRecDepth 100000
set_option maxHeartbeats 4000000
set_option linter.defProp false
def k10 := mkK [(.t 2)] [] [(8,[],.f [1,4,8,12,17] (.l [22,26,31]) (.l [26,22,31])),(10,[],.l [0,5,8,12,16,20,24,28,32,36,40,44,48,53,56,60,64,69,72,77,80,84,88,93,98,100,104,108])] Tryz.func10 Tryz.ntmps10 rfl
end Go.Proofs.YtllafcmkppmdgaaGreat
