/- Codes of functions, group LiW. -/
import Derived.Test.YtllafcmkppmdgaaGreatB6
import Derived.Test.YtllafcmkppmdgaaGreatProg
namespace Go.Proofs.YtllafcmkppmdgaaGreat
open Go.RowKit
set_option linter.unusedVariables false
set_option linter.unusedSimpArgs false
set_option maxRecDepth 100000
set_option maxHeartbeats 4000000
set_option linter.defProp false
def k27 := mkK [(.t 4)] [] [(6,[],.l [0,5,8,12,17,20,25,28,32,37,42,44]),(11,[],.l [0,5,8,12,17,20,25,28,32,37,42,44])] Tryz.func27 Tryz.ntmps27 rfl
def k26 := mkK [(.t 4)] [] [] Tryz.func26 Tryz.ntmps26 rfl
def k28 := mkK [(.t 4)] [] [(6,[],.l [0,4,8,12,17,20,24,28,32,37,40,44,48,52,56,60,65,68,72,76,80,85,90,92,96])] Tryz.func28 Tryz.ntmps28 rfl
def k22 := mkK [(.t 4)] [] [] Tryz.func22 Tryz.ntmps22 rfl
def k25 := mkK [(.t 4)] [] [] Tryz.func25 Tryz.ntmps25 rfl
def k23 := mkK [(.t 4)] [] [] Tryz.func23 Tryz.ntmps23 rfl
def k24 := mkK [(.t 4)] [] [] Tryz.func24 Tryz.ntmps24 rfl
def k47 := mkK [(.t 4)] [] [(6,[],.l [0,4,8,13,16,20,24,29,34,36])] Tryz.func47 Tryz.ntmps47 rfl
def k48 := mkK [(.t 4)] [] [] Tryz.func48 Tryz.ntmps48 rfl
def k20 := mkK [(.c 4 8 true)] [] [] Tryz.func20 Tryz.ntmps20 rfl
end Go.Proofs.YtllafcmkppmdgaaGreat
