/- Codes of functions, group LP. -/
import Derived.Test.YtnkhjnieidlknaaGreatB0
import Derived.Test.YtnkhjnieidlknaaGreatB1
import Derived.Test.YtnkhjnieidlknaaGreatB2
import Derived.Test.YtnkhjnieidlknaaGreatB3
import Derived.Test.YtnkhjnieidlknaaGreatB4
import Derived.Test.YtnkhjnieidlknaaGreatB5
import Derived.Test.YtnkhjnieidlknaaGreatB6
import Derived.Test.YtnkhjnieidlknaaGreatB7
import Derived.Test.YtnkhjnieidlknaaGreatB8
import Derived.Test.YtnkhjnieidlknaaGreatB9
import Derived.Test.YtnkhjnieidlknaaGreatB10
import Derived.Test.YtnkhjnieidlknaaGreatB11
import Derived.Test.YtnkhjnieidlknaaGreatB12
import Derived.Test.YtnkhjnieidlknaaGreatB13
import Derived.Test.YtnkhjnieidlknaaGreatB14
import Derived.Test.YtnkhjnieidlknaaGreatB15
import Derived.Test.YtnkhjnieidlknaaGreatB16
import Derived.Test.YtnkhjnieidlknaaGreatB17
import Derived.Test.YtnkhjnieidlknaaGreatB18
import Derived.Test.YtnkhjnieidlknaaGreatB19
import Derived.Test.YtnkhjnieidlknaaGreatB20
import Derived.Test.YtnkhjnieidlknaaGreatB21
import Derived.Test.YtnkhjnieidlknaaGreatB22
import Derived.Test.YtnkhjnieidlknaaGreatB23
import Derived.Test.YtnkhjnieidlknaaGreatProg
namespace Go.Proofs.YtnkhjnieidlknaaGreat
open Go.RowKit
set_option linter.unusedVariables false
set_option linter.unusedSimpArgs false
set_option maxRecDepth 100000
set_option maxHeartbeats 4000000
def ic5 : IC := (xR (xt (.mv (xb false)) 2 .done) (.seq (xR (xtM 0 7 (xtL 7 8 (xt (.bin .gtr (xr 8) (xi 1048576)) 9 .done))) (.cond (xr 9) (xR (xt (.mv (xb true)) 2 .done) .ret) .skip)) (xR (xtM 0 11 (xt (.call 9 [xr 11]) 12 (xtM 12 10 (xtE 10 0 13 (xtE 10 1 14 (xt (.alc 24 [zI, zI, zI, zI, zI]) 3 (xS 3 13 5 (xtM 14 4 .done)))))))) (xR (xtA 3 5 15 (xt (.call 10 [xr 15]) 16 (xt (.alc 31 [zI, zI, zI, zI, zI, zS, zS, zI]) 5 (xS 5 16 8 .done)))) (.seq (xR (xt (.mv (xi 0)) 6 .done) (.block 0 (.loop (.seq (xR (xtM 6 17 (xtM 4 18 (xtL 18 19 (xt (.bin .lss (xr 17) (xr 19)) 20 .done)))) (.cond (xr 20) .skip (.exit 0))) (.seq (.block 1 (xR (xlA 5 8 23 (xpM 4 24 (xpM 6 25 (xpI 24 25 5 26 (xlA 26 5 27 (xm (.call 11 [xr 23, xr 27]) 28 (xS 5 28 8 .done))))))) (xR (xlA 5 8 29 (xm (.call 14 [xr 29]) 30 (xp (.not (xr 30)) 31 (xpM 31 32 (.op .p (.fad (xr 5) 5) (some 33) (some (32, false)) (.op .l (.ld (xr 33) 1 false) (some 34) (some (32, false)) (.op .p (.iad (xr 34) (xi 1) 28) (some 35) (some (32, false)) (.op .p (.fad (xr 35) 26) (some 36) (some (32, false)) (.op .l (.ld (xr 36) 1 false) (some 37) (some (32, false)) (.op .p (.fad (xr 5) 5) (some 38) (some (32, false)) (.op .l (.ld (xr 38) 1 false) (some 39) (some (32, false)) (.op .p (.iad (xr 39) (xi 0) 28) (some 40) (some (32, false)) (.op .p (.fad (xr 40) 27) (some 41) (some (32, false)) (.op .l (.ld (xr 41) 1 false) (some 42) (some (32, false)) (.op .m (.call 17 [xr 37, xr 42]) (some 43) (some (32, false)) (.op .p (.not (xr 43)) (some 44) (some (32, false)) (xp (.pick (xr 32) (xb true) (xr 44)) 45 (xpM 45 46 (.op .p (.fad (xr 5) 5) (some 47) (some (46, false)) (.op .l (.ld (xr 47) 1 false) (some 48) (some (46, false)) (.op .p (.iad (xr 48) (xi 0) 28) (some 49) (some (46, false)) (.op .p (.fad (xr 49) 26) (some 50) (some (46, false)) (.op .l (.ld (xr 50) 1 false) (some 51) (some (46, false)) (.op .p (.fad (xr 5) 5) (some 52) (some (46, false)) (.op .l (.ld (xr 52) 1 false) (some 53) (some (46, false)) (.op .p (.iad (xr 53) (xi 1) 28) (some 54) (some (46, false)) (.op .p (.fad (xr 54) 27) (some 55) (some (46, false)) (.op .l (.ld (xr 55) 1 false) (some 56) (some (46, false)) (.op .m (.call 17 [xr 51, xr 56]) (some 57) (some (46, false)) (.op .p (.not (xr 57)) (some 58) (some (46, false)) (xp (.pick (xr 46) (xb true) (xr 58)) 59 .done))))))))))))))))))))))))))))))) (.cond (xr 59) (xR (xt (.mv (xb false)) 2 .done) .ret) .skip)))) (xQ (xtM 6 21 (xt (.bin .add (xr 21) (xi 1)) 22 (xtM 22 6 .done))))))))) (xR (xt (.call 15 []) 60 (xtM 60 2 .done)) .ret))))))
theorem ic5_ok : Tryz.f5.body.bind (trC Tryz.prog []) = some ic5 := by kernel_rfl
def fr5 : List FR := [(FR.t 2)]
theorem fr5_ok : fres Tryz.prog Tryz.f5.results.toList = some fr5 := by kernel_rfl
end Go.Proofs.YtnkhjnieidlknaaGreat
