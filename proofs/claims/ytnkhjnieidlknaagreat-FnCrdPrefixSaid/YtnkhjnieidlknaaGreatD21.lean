/- Codes of functions, group CP. -/
import Derived.Test.YtnkhjnieidlknaaGreatD0
import Derived.Test.YtnkhjnieidlknaaGreatD1
import Derived.Test.YtnkhjnieidlknaaGreatD2
import Derived.Test.YtnkhjnieidlknaaGreatD3
import Derived.Test.YtnkhjnieidlknaaGreatD4
import Derived.Test.YtnkhjnieidlknaaGreatD5
import Derived.Test.YtnkhjnieidlknaaGreatD6
import Derived.Test.YtnkhjnieidlknaaGreatD7
import Derived.Test.YtnkhjnieidlknaaGreatD8
import Derived.Test.YtnkhjnieidlknaaGreatD9
import Derived.Test.YtnkhjnieidlknaaGreatD10
import Derived.Test.YtnkhjnieidlknaaGreatD11
import Derived.Test.YtnkhjnieidlknaaGreatD12
import Derived.Test.YtnkhjnieidlknaaGreatD13
import Derived.Test.YtnkhjnieidlknaaGreatD14
import Derived.Test.YtnkhjnieidlknaaGreatD15
import Derived.Test.YtnkhjnieidlknaaGreatD16
import Derived.Test.YtnkhjnieidlknaaGreatD17
import Derived.Test.YtnkhjnieidlknaaGreatD18
import Derived.Test.YtnkhjnieidlknaaGreatD19
import Derived.Test.YtnkhjnieidlknaaGreatProg
namespace Go.Proofs.YtnkhjnieidlknaaGreat
open Go.RowKit
set_option linter.unusedVariables false
set_option linter.unusedSimpArgs false
set_option maxRecDepth 100000
set_option maxHeartbeats 4000000
def ic6 : IC := (xR (xt (.mv (xb false)) 2 .done) (.seq (xR (xtM 0 7 (xtL 7 8 (xt (.bin .gtr (xr 8) (xi 1048576)) 9 .done))) (.cond (xr 9) (xR (xt (.mv (xb true)) 2 .done) .ret) .skip)) (xR (xtM 0 11 (xt (.call 18 [xr 11]) 12 (xtM 12 10 (xtE 10 0 13 (xtE 10 1 14 (xt (.alc 24 [zI, zI, zI, zI, zI]) 3 (xS 3 13 5 (xtM 14 4 .done)))))))) (xR (xtA 3 5 15 (xt (.call 10 [xr 15]) 16 (xt (.alc 31 [zI, zI, zI, zI, zI, zS, zS, zI]) 5 (xS 5 16 8 .done)))) (.seq (xR (xt (.mv (xi 0)) 6 .done) (.block 0 (.loop (.seq (xR (xtM 6 17 (xtM 4 18 (xtL 18 19 (xt (.bin .lss (xr 17) (xr 19)) 20 .done)))) (.cond (xr 20) .skip (.exit 0))) (.seq (.block 1 (xR (xlA 5 8 23 (xpM 4 24 (xpM 6 25 (xpI 24 25 5 26 (xlA 26 5 27 (xm (.call 11 [xr 23, xr 27]) 28 (xS 5 28 8 .done))))))) (xR (xlA 5 8 29 (xm (.call 14 [xr 29]) 30 (xp (.not (xr 30)) 31 (xpM 31 32 (.op .l (.ld (xr 5) 8 true) (some 33) (some (32, false)) (.op .m (.call 19 [xr 33]) (some 34) (some (32, false)) (xp (.pick (xr 32) (xb true) (xr 34)) 35 (xpM 35 36 (.op .p (.fad (xr 5) 5) (some 37) (some (36, false)) (.op .l (.ld (xr 37) 1 false) (some 38) (some (36, false)) (.op .p (.iad (xr 38) (xi 1) 28) (some 39) (some (36, false)) (.op .p (.fad (xr 39) 26) (some 40) (some (36, false)) (.op .l (.ld (xr 40) 1 false) (some 41) (some (36, false)) (.op .p (.fad (xr 5) 5) (some 42) (some (36, false)) (.op .l (.ld (xr 42) 1 false) (some 43) (some (36, false)) (.op .p (.iad (xr 43) (xi 0) 28) (some 44) (some (36, false)) (.op .p (.fad (xr 44) 27) (some 45) (some (36, false)) (.op .l (.ld (xr 45) 1 false) (some 46) (some (36, false)) (.op .m (.call 17 [xr 41, xr 46]) (some 47) (some (36, false)) (.op .p (.not (xr 47)) (some 48) (some (36, false)) (xp (.pick (xr 36) (xb true) (xr 48)) 49 (xpM 49 50 (.op .p (.fad (xr 5) 5) (some 51) (some (50, false)) (.op .l (.ld (xr 51) 1 false) (some 52) (some (50, false)) (.op .p (.iad (xr 52) (xi 0) 28) (some 53) (some (50, false)) (.op .p (.fad (xr 53) 26) (some 54) (some (50, false)) (.op .l (.ld (xr 54) 1 false) (some 55) (some (50, false)) (.op .p (.fad (xr 5) 5) (some 56) (some (50, false)) (.op .l (.ld (xr 56) 1 false) (some 57) (some (50, false)) (.op .p (.iad (xr 57) (xi 1) 28) (some 58) (some (50, false)) (.op .p (.fad (xr 58) 27) (some 59) (some (50, false)) (.op .l (.ld (xr 59) 1 false) (some 60) (some (50, false)) (.op .m (.call 17 [xr 55, xr 60]) (some 61) (some (50, false)) (.op .p (.not (xr 61)) (some 62) (some (50, false)) (xp (.pick (xr 50) (xb true) (xr 62)) 63 .done))))))))))))))))))))))))))))))))))) (.cond (xr 63) (xR (xt (.mv (xb false)) 2 .done) .ret) .skip)))) (xQ (xtM 6 21 (xt (.bin .add (xr 21) (xi 1)) 22 (xtM 22 6 .done))))))))) (xR (xt (.call 15 []) 64 (xtM 64 2 .done)) .ret))))))
theorem ic6_ok : Tryz.f6.body.bind (trC Tryz.prog []) = some ic6 := by kernel_rfl
def fr6 : List FR := [(FR.t 2)]
theorem fr6_ok : fres Tryz.prog Tryz.f6.results.toList = some fr6 := by kernel_rfl
end Go.Proofs.YtnkhjnieidlknaaGreat
