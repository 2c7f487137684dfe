/- Codes of functions, group LiF. -/
import Derived.Test.YtnkhjnieidlknaaGreatB23
namespace Go.Proofs.YtnkhjnieidlknaaGreat
open Go.RowKit
set_option linter.unusedVariables false
set_option linter.unusedSimpArgs false
set_option maxRecDepth 100000
set_option maxHeartbeats 4000000
def ic17 : IC := (xR (xt (.mv (xb false)) 4 .done) (xR (xtM 0 5 (xtL 5 6 (xtM 1 7 (xtL 7 8 (xt (.bin .geq (xr 6) (xr 8)) 9 (xtM 9 10 (xG (.mv (xr 0)) 11 10 true (xG (.mv (xr 1)) 12 10 true (xG (.len (xr 12)) 13 10 true (xG (.slc (xr 11) none (some (xr 13)) 1) 14 10 true (xG (.mv (xr 1)) 15 10 true (xG (.call 22 [xr 14, xr 15]) 16 10 true (xt (.pick (xr 10) (xr 16) (xb false)) 17 (xtM 17 4 .done)))))))))))))) .ret))
theorem ic17_ok : Tryz.f17.body.bind (trC Tryz.prog []) = some ic17 := by kernel_rfl
def fr17 : List FR := [(FR.t 4)]
theorem fr17_ok : fres Tryz.prog Tryz.f17.results.toList = some fr17 := by kernel_rfl
def ic16 : IC := (xR (xt (.box 63 (xr 0)) 2 (xt (.box 63 (xr 1)) 3 (xt (.mv (xb false)) 4 .done))) (xR (xtF 2 0 5 (xtO 5 6 (xtF 3 0 7 (xtO 7 8 (xt (.bin .eql (xr 6) (xr 8)) 9 (xtM 9 10 (xG (.fad (xr 2) 1) 11 10 true (xG (.ld (xr 11) 1 false) 12 10 true (xG (.fad (xr 3) 1) 13 10 true (xG (.ld (xr 13) 1 false) 14 10 true (xG (.bin .eql (xr 12) (xr 14)) 15 10 true (xt (.pick (xr 10) (xr 15) (xb false)) 16 (xtM 16 17 (xG (.fad (xr 2) 2) 18 17 true (xG (.ld (xr 18) 1 false) 19 17 true (xG (.fad (xr 3) 2) 20 17 true (xG (.ld (xr 20) 1 false) 21 17 true (xG (.call 42 [xr 19, xr 21]) 22 17 true (xt (.pick (xr 17) (xr 22) (xb false)) 23 (xtM 23 4 .done)))))))))))))))))))) .ret))
theorem ic16_ok : Tryz.f16.body.bind (trC Tryz.prog []) = some ic16 := by kernel_rfl
def fr16 : List FR := [(FR.t 4)]
theorem fr16_ok : fres Tryz.prog Tryz.f16.results.toList = some fr16 := by kernel_rfl
def ic13 : IC := (xR (xt (.mv (xi 0)) 4 .done) (.seq (xR (xtM 0 5 (xt (.call 32 [xr 5]) 6 (xtT 6 7 (xtM 7 8 (xG (.mv (xr 1)) 9 8 false (xG (.call 32 [xr 9]) 10 8 false (xG (.not (xr 10)) 11 8 false (xt (.pick (xr 8) (xb true) (xr 11)) 12 .done)))))))) (.cond (xr 12) (xR (xt (.mv (xi (-1))) 4 .done) .ret) .skip)) (xR (xtM 0 13 (xtM 1 14 (xt (.call 33 [xr 13, xr 14]) 15 (xtM 15 4 .done)))) .ret)))
theorem ic13_ok : Tryz.f13.body.bind (trC Tryz.prog []) = some ic13 := by kernel_rfl
def fr13 : List FR := [(FR.t 4)]
theorem fr13_ok : fres Tryz.prog Tryz.f13.results.toList = some fr13 := by kernel_rfl
end Go.Proofs.YtnkhjnieidlknaaGreat
