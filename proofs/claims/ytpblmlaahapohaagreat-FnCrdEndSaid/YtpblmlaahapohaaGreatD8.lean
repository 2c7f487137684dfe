/- Codes of functions, group Crc. · Sums of bytes, by the program and by its reference. -/
import Derived.Test.YtpblmlaahapohaaGreatD3
import Derived.Test.YtpblmlaahapohaaGreatProg
import Derived.Test.YtpblmlaahapohaaGreatD4
import Derived.Test.YtpblmlaahapohaaGreatD7
namespace Go.Proofs.YtpblmlaahapohaaGreat
open Go.RowKit
set_option linter.unusedVariables false
set_option linter.unusedSimpArgs false
set_option maxRecDepth 100000
set_option maxHeartbeats 4000000
def ic86 : IC := (xR (xt (.mv (xi 0)) 4 .done) (xR (xtM 0 6 (xtM 1 7 (xt (.cvi .i64 (xr 7)) 8 (xt (.bin .xor (xr 6) (xr 8)) 9 (xtM 9 0 .done))))) (.seq (xR (xt (.mv (xi 0)) 10 .done) (.block 0 (.loop (xR (xt (.bin .lss (xr 10) (xi 8)) 11 .done) (.seq (.cond (xr 11) .skip (.exit 0)) (.seq (.block 1 (xR (xtM 0 12 (xt (.bin .and (xr 12) (xi 1)) 13 (xtM 13 5 .done))) (xR (xtM 0 14 (xt (.bin .shr (xr 14) (.const (.int .u64 1))) 15 (xtM 15 0 .done))) (xR (xtM 5 16 (xt (.bin .eql (xr 16) (xi 1)) 17 .done)) (.cond (xr 17) (xQ (xtM 0 18 (xt (.bin .xor (xr 18) (xi 40961)) 19 (xtM 19 0 .done)))) .skip))))) (xQ (xt (.bin .add (xr 10) (xi 1)) 20 (xtM 20 10 .done))))))))) (xR (xtM 0 21 (xtM 21 4 .done)) .ret))))
theorem ic86_ok : Tryz.f86.body.bind (trC Tryz.prog []) = some ic86 := by kernel_rfl
def fr86 : List FR := [(FR.t 4)]
theorem fr86_ok : fres Tryz.prog Tryz.f86.results.toList = some fr86 := by kernel_rfl
def ic49 : IC := (xR (xt (.mv (xi 0)) 2 .done) (xR (xt (.mv (xi 0)) 3 .done) (.seq (xR (xtM 0 6 (xtL 6 7 (xt (.mv (xi 0)) 8 .done))) (.block 0 (.loop (xR (xt (.bin .lss (xr 8) (xr 7)) 9 .done) (.seq (.cond (xr 9) .skip (.exit 0)) (.seq (.block 1 (xR (xtI 6 8 1 10 (xtO 10 11 (xtM 11 5 .done))) (xQ (xtM 3 12 (xtM 5 13 (xt (.call 86 [xr 12, xr 13]) 14 (xtM 14 3 .done))))))) (xQ (xt (.bin .add (xr 8) (xi 1)) 15 (xtM 15 8 .done))))))))) (xR (xtM 3 16 (xtM 16 2 .done)) .ret))))
theorem ic49_ok : Tryz.f49.body.bind (trC Tryz.prog []) = some ic49 := by kernel_rfl
def fr49 : List FR := [(FR.t 2)]
theorem fr49_ok : fres Tryz.prog Tryz.f49.results.toList = some fr49 := by kernel_rfl
def ic24 : IC := (xR (xt (.mv (.const zS)) 2 .done) (xR (xtM 0 4 (xt (.call 49 [xr 4]) 5 (xtM 5 3 .done))) (xR (xtM 0 6 (xt (.call 36 [xr 6]) 7 (xtM 3 8 (xt (.cvi .u8 (xr 8)) 9 (xtM 3 10 (xt (.bin .shr (xr 10) (.const (.int .u64 8))) 11 (xt (.cvi .u8 (xr 11)) 12 (xt (.bsl 5 1 2 [(.int .u8 0)] [(0, (xr 9)), (1, (xr 12))]) 13 (xt (.app 22 (xr 7) (xr 13)) 14 (xt (.call 36 [xr 14]) 15 (xtM 15 2 .done))))))))))) .ret)))
theorem ic24_ok : Tryz.f24.body.bind (trC Tryz.prog []) = some ic24 := by kernel_rfl
def fr24 : List FR := [(FR.t 2)]
theorem fr24_ok : fres Tryz.prog Tryz.f24.results.toList = some fr24 := by kernel_rfl
def ic35 : IC := (xR (xt (.mv (.const zS)) 2 (xt (.mv (xb false)) 3 .done)) (xR (xtM 0 5 (xtL 5 6 (xt (.bin .sub (xr 6) (xi 2)) 7 (xtM 7 4 .done)))) (.seq (xR (xtM 4 8 (xt (.bin .lss (xr 8) (xi 0)) 9 (xtM 9 10 (xG (.mv (xr 0)) 11 10 false (xG (.mv (xr 4)) 12 10 false (xG (.slc (xr 11) none (some (xr 12)) 1) 13 10 false (xG (.call 24 [xr 13]) 14 10 false (xG (.mv (xr 0)) 15 10 false (xG (.call 37 [xr 14, xr 15]) 16 10 false (xG (.not (xr 16)) 17 10 false (xt (.pick (xr 10) (xb true) (xr 17)) 18 .done))))))))))) (.cond (xr 18) (xR (xt (.mv (.const zS)) 2 (xt (.mv (xb false)) 3 .done)) .ret) .skip)) (xR (xtM 0 19 (xtM 4 20 (xt (.slc (xr 19) none (some (xr 20)) 1) 21 (xt (.call 36 [xr 21]) 22 (xtM 22 2 (xt (.mv (xb true)) 3 .done)))))) .ret))))
theorem ic35_ok : Tryz.f35.body.bind (trC Tryz.prog []) = some ic35 := by kernel_rfl
def fr35 : List FR := [(FR.t 2), (FR.t 3)]
theorem fr35_ok : fres Tryz.prog Tryz.f35.results.toList = some fr35 := by kernel_rfl
def ic37 : IC := (xR (xt (.mv (xb false)) 4 .done) (.seq (xR (xtM 0 6 (xtL 6 7 (xtM 1 8 (xtL 8 9 (xt (.bin .neq (xr 7) (xr 9)) 10 .done))))) (.cond (xr 10) (xR (xt (.mv (xb false)) 4 .done) .ret) .skip)) (.seq (xR (xtM 0 11 (xtL 11 12 (xt (.mv (xi 0)) 13 .done))) (.block 0 (.loop (xR (xt (.bin .lss (xr 13) (xr 12)) 14 .done) (.seq (.cond (xr 14) .skip (.exit 0)) (.seq (.block 1 (xR (xtM 13 15 (xtM 15 5 .done)) (xR (xpM 0 16 (xpM 5 17 (xpI 16 17 1 18 (xlO 18 19 (xpM 1 20 (xpM 5 21 (xpI 20 21 1 22 (xlO 22 23 (xp (.bin .neq (xr 19) (xr 23)) 24 .done))))))))) (.cond (xr 24) (xR (xt (.mv (xb false)) 4 .done) .ret) .skip)))) (xQ (xt (.bin .add (xr 13) (xi 1)) 25 (xtM 25 13 .done))))))))) (xR (xt (.mv (xb true)) 4 .done) .ret))))
theorem ic37_ok : Tryz.f37.body.bind (trC Tryz.prog []) = some ic37 := by kernel_rfl
def fr37 : List FR := [(FR.t 4)]
theorem fr37_ok : fres Tryz.prog Tryz.f37.results.toList = some fr37 := by kernel_rfl
def ic147 : IC := (xR (xt (.mv (xi 0)) 4 .done) (.seq (xR (xtM 0 6 (xt (.call 65 [xr 6, (xi 0), (xi 65535)]) 7 (xtT 7 8 .done))) (.cond (xr 8) (xR (xt (.mv (xi (-1))) 4 .done) .ret) .skip)) (xR (xtM 0 9 (xtM 1 10 (xt (.cvi .i64 (xr 10)) 11 (xt (.bin .xor (xr 9) (xr 11)) 12 (xtM 12 0 .done))))) (.seq (xR (xt (.mv (xi 0)) 5 .done) (.block 0 (.loop (.seq (xR (xtM 5 13 (xt (.bin .lss (xr 13) (xi 8)) 14 .done)) (.cond (xr 14) .skip (.exit 0))) (.seq (.block 1 (xR (xtM 0 17 (xt (.bin .rem (xr 17) (xi 2)) 18 (xt (.bin .eql (xr 18) (xi 1)) 19 .done))) (.cond (xr 19) (xQ (xtM 0 20 (xt (.bin .quo (xr 20) (xi 2)) 21 (xt (.bin .xor (xr 21) (xi 40961)) 22 (xtM 22 0 .done))))) (xQ (xtM 0 23 (xt (.bin .quo (xr 23) (xi 2)) 24 (xtM 24 0 .done))))))) (xQ (xtM 5 15 (xt (.bin .add (xr 15) (xi 1)) 16 (xtM 16 5 .done))))))))) (xR (xtM 0 25 (xtM 25 4 .done)) .ret)))))
theorem ic147_ok : Tryz.f147.body.bind (trC Tryz.prog []) = some ic147 := by kernel_rfl
def fr147 : List FR := [(FR.t 4)]
theorem fr147_ok : fres Tryz.prog Tryz.f147.results.toList = some fr147 := by kernel_rfl
def ic128 : IC := (xR (xt (.mv (xi 0)) 2 .done) (xR (xt (.mv (xi 0)) 3 .done) (.seq (xR (xt (.mv (xi 0)) 4 .done) (.block 0 (.loop (.seq (xR (xtM 4 5 (xtM 0 6 (xtL 6 7 (xt (.bin .lss (xr 5) (xr 7)) 8 .done)))) (.cond (xr 8) .skip (.exit 0))) (.seq (.block 1 (xQ (xtM 3 11 (xtM 0 12 (xtM 4 13 (xtI 12 13 1 14 (xtO 14 15 (xt (.call 147 [xr 11, xr 15]) 16 (xtM 16 3 .done))))))))) (xQ (xtM 4 9 (xt (.bin .add (xr 9) (xi 1)) 10 (xtM 10 4 .done))))))))) (xR (xtM 3 17 (xtM 17 2 .done)) .ret))))
theorem ic128_ok : Tryz.f128.body.bind (trC Tryz.prog []) = some ic128 := by kernel_rfl
def fr128 : List FR := [(FR.t 2)]
theorem fr128_ok : fres Tryz.prog Tryz.f128.results.toList = some fr128 := by kernel_rfl
def ic93 : IC := (xR (xt (.mv (.const zS)) 2 .done) (xR (xtM 0 4 (xt (.call 128 [xr 4]) 5 (xtM 5 3 .done))) (xR (xt (.bsl 5 1 0 [(.int .u8 0)] []) 6 (xtM 0 7 (xt (.app 22 (xr 6) (xr 7)) 8 (xtM 3 9 (xt (.bin .rem (xr 9) (xi 256)) 10 (xt (.cvi .u8 (xr 10)) 11 (xtM 3 12 (xt (.bin .quo (xr 12) (xi 256)) 13 (xt (.cvi .u8 (xr 13)) 14 (xt (.bsl 5 1 2 [(.int .u8 0)] [(0, (xr 11)), (1, (xr 14))]) 15 (xt (.app 22 (xr 8) (xr 15)) 16 (xtM 16 2 .done)))))))))))) .ret)))
theorem ic93_ok : Tryz.f93.body.bind (trC Tryz.prog []) = some ic93 := by kernel_rfl
def fr93 : List FR := [(FR.t 2)]
theorem fr93_ok : fres Tryz.prog Tryz.f93.results.toList = some fr93 := by kernel_rfl
def ic135 : IC := (xR (xt (.mv (.const zS)) 2 (xt (.mv (xb false)) 3 .done)) (xR (xtM 0 5 (xtL 5 6 (xt (.bin .sub (xr 6) (xi 2)) 7 (xtM 7 4 .done)))) (.seq (xR (xpM 4 8 (xp (.bin .lss (xr 8) (xi 0)) 9 (xpM 9 10 (.op .p (.mv (xr 0)) (some 11) (some (10, false)) (.op .p (.mv (xr 4)) (some 12) (some (10, false)) (.op .p (.slc (xr 11) none (some (xr 12)) 1) (some 13) (some (10, false)) (.op .p (.mv (xr 0)) (some 15) (some (10, false)) (.op .p (.mv (xr 4)) (some 16) (some (10, false)) (.op .p (.iad (xr 15) (xr 16) 1) (some 17) (some (10, false)) (.op .l (.ld (xr 17) 1 false) (some 18) (some (10, false)) (.op .p (.cvi .i64 (xr 18)) (some 19) (some (10, false)) (.op .p (.mv (xr 0)) (some 20) (some (10, false)) (.op .p (.mv (xr 4)) (some 21) (some (10, false)) (.op .p (.bin .add (xr 21) (xi 1)) (some 22) (some (10, false)) (.op .p (.iad (xr 20) (xr 22) 1) (some 23) (some (10, false)) (.op .l (.ld (xr 23) 1 false) (some 24) (some (10, false)) (.op .p (.cvi .i64 (xr 24)) (some 25) (some (10, false)) (.op .p (.bin .mul (xr 25) (xi 256)) (some 26) (some (10, false)) (.op .p (.bin .add (xr 19) (xr 26)) (some 27) (some (10, false)) (.op .m (.call 128 [xr 13]) (some 14) (some (10, false)) (.op .p (.bin .neq (xr 14) (xr 27)) (some 28) (some (10, false)) (xp (.pick (xr 10) (xb true) (xr 28)) 29 .done)))))))))))))))))))))) (.cond (xr 29) (xR (xt (.bsl 5 1 0 [(.int .u8 0)] []) 30 (xtM 30 2 (xt (.mv (xb false)) 3 .done))) .ret) .skip)) (xR (xt (.bsl 5 1 0 [(.int .u8 0)] []) 31 (xtM 0 32 (xtM 4 33 (xt (.slc (xr 32) none (some (xr 33)) 1) 34 (xt (.app 22 (xr 31) (xr 34)) 35 (xtM 35 2 (xt (.mv (xb true)) 3 .done))))))) .ret))))
theorem ic135_ok : Tryz.f135.body.bind (trC Tryz.prog []) = some ic135 := by kernel_rfl
def fr135 : List FR := [(FR.t 2), (FR.t 3)]
theorem fr135_ok : fres Tryz.prog Tryz.f135.results.toList = some fr135 := by kernel_rfl
def ic48 : IC := (xR (xt (.box 34 (xr 0)) 2 (xt (.box 34 (xr 1)) 3 (xt (.mv (xb false)) 4 .done))) (xR (xtF 2 0 5 (xtO 5 6 (xtF 3 0 7 (xtO 7 8 (xt (.bin .eql (xr 6) (xr 8)) 9 (xtM 9 10 (xG (.fad (xr 2) 1) 11 10 true (xG (.ld (xr 11) 1 false) 12 10 true (xG (.fad (xr 3) 1) 13 10 true (xG (.ld (xr 13) 1 false) 14 10 true (xG (.bin .eql (xr 12) (xr 14)) 15 10 true (xt (.pick (xr 10) (xr 15) (xb false)) 16 (xtM 16 17 (xG (.fad (xr 2) 2) 18 17 true (xG (.ld (xr 18) 1 false) 19 17 true (xG (.fad (xr 3) 2) 20 17 true (xG (.ld (xr 20) 1 false) 21 17 true (xG (.bin .eql (xr 19) (xr 21)) 22 17 true (xt (.pick (xr 17) (xr 22) (xb false)) 23 (xtM 23 24 (xG (.fad (xr 2) 3) 25 24 true (xG (.ld (xr 25) 1 false) 26 24 true (xG (.fad (xr 3) 3) 27 24 true (xG (.ld (xr 27) 1 false) 28 24 true (xG (.eqb false (xr 26) (xr 28)) 29 24 true (xt (.pick (xr 24) (xr 29) (xb false)) 30 (xtM 30 31 (xG (.fad (xr 2) 4) 32 31 true (xG (.ld (xr 32) 1 false) 33 31 true (xG (.fad (xr 3) 4) 34 31 true (xG (.ld (xr 34) 1 false) 35 31 true (xG (.eqb false (xr 33) (xr 35)) 36 31 true (xt (.pick (xr 31) (xr 36) (xb false)) 37 (xtM 37 38 (xG (.fad (xr 2) 5) 39 38 true (xG (.ld (xr 39) 1 false) 40 38 true (xG (.fad (xr 3) 5) 41 38 true (xG (.ld (xr 41) 1 false) 42 38 true (xG (.bin .eql (xr 40) (xr 42)) 43 38 true (xt (.pick (xr 38) (xr 43) (xb false)) 44 (xtM 44 45 (xG (.fad (xr 2) 6) 46 45 true (xG (.ld (xr 46) 1 false) 47 45 true (xG (.fad (xr 3) 6) 48 45 true (xG (.ld (xr 48) 1 false) 49 45 true (xG (.bin .eql (xr 47) (xr 49)) 50 45 true (xt (.pick (xr 45) (xr 50) (xb false)) 51 (xtM 51 52 (xG (.fad (xr 2) 7) 53 52 true (xG (.ld (xr 53) 1 false) 54 52 true (xG (.fad (xr 3) 7) 55 52 true (xG (.ld (xr 55) 1 false) 56 52 true (xG (.bin .eql (xr 54) (xr 56)) 57 52 true (xt (.pick (xr 52) (xr 57) (xb false)) 58 (xtM 58 59 (xG (.fad (xr 2) 8) 60 59 true (xG (.ld (xr 60) 1 false) 61 59 true (xG (.fad (xr 3) 8) 62 59 true (xG (.ld (xr 62) 1 false) 63 59 true (xG (.call 37 [xr 61, xr 63]) 64 59 true (xt (.pick (xr 59) (xr 64) (xb false)) 65 (xtM 65 4 .done)))))))))))))))))))))))))))))))))))))))))))))))))))))))))))))) .ret))
theorem ic48_ok : Tryz.f48.body.bind (trC Tryz.prog []) = some ic48 := by kernel_rfl
def fr48 : List FR := [(FR.t 4)]
theorem fr48_ok : fres Tryz.prog Tryz.f48.results.toList = some fr48 := by kernel_rfl
def ic22 : IC := (xR (xt (.box 34 (xr 0)) 1 (xt (.mv (xb false)) 2 .done)) (xR (xtF 1 0 5 (xtO 5 6 (xt (.bld [zI, zI, zI, zB, zB, zI, zI, zI, zS] [(0, (1, (xr 6)))]) 7 (xt (.alc 34 [zI, zI, zI, zB, zB, zI, zI, zI, zS]) 3 (xS 3 7 9 .done))))) (xR (xt (.mv (xb false)) 4 .done) (.seq (xR (xtF 1 0 8 (xtO 8 9 .done)) (.block 0 (xR (xt (.bin .eql (xr 9) (xi 1)) 11 (xtM 11 10 .done)) (.cond (xr 10) (.seq (.reg [3] (xpF 1 1 12 (xlO 12 13 (xpF 1 2 14 (xlO 14 15 (xpF 1 4 16 (xlO 16 17 (xpF 1 6 18 (xlO 18 19 (xpF 1 7 20 (xlO 20 21 (xpF 1 8 22 (xlO 22 23 (xpF 3 1 24 (.op .m (.sto (xr 24) (xr 13) 1) none none (xpF 3 2 25 (.op .m (.sto (xr 25) (xr 15) 1) none none (xpF 3 4 26 (.op .m (.sto (xr 26) (xr 17) 1) none none (xpF 3 6 27 (.op .m (.sto (xr 27) (xr 19) 1) none none (xpF 3 7 28 (.op .m (.sto (xr 28) (xr 21) 1) none none (xpF 3 8 29 (.op .m (.sto (xr 29) (xr 23) 1) none none .done))))))))))))))))))))))))) (xQ (xtF 1 1 30 (xtO 30 31 (xt (.call 46 [xr 31]) 32 (xtM 32 33 (xG (.fad (xr 1) 2) 34 33 true (xG (.ld (xr 34) 1 false) 35 33 true (xG (.call 46 [xr 35]) 36 33 true (xt (.pick (xr 33) (xr 36) (xb false)) 37 (xtM 37 38 (xG (.fad (xr 1) 6) 39 38 true (xG (.ld (xr 39) 1 false) 40 38 true (xG (.fad (xr 1) 7) 41 38 true (xG (.ld (xr 41) 1 false) 42 38 true (xG (.fad (xr 1) 8) 43 38 true (xG (.ld (xr 43) 1 false) 44 38 true (xG (.call 47 [xr 40, xr 42, xr 44]) 45 38 true (xt (.pick (xr 38) (xr 45) (xb false)) 46 (xtM 46 4 .done)))))))))))))))))))) (xR (xt (.bin .eql (xr 9) (xi 2)) 48 (xtM 48 47 .done)) (.cond (xr 47) (.seq (.reg [3] (xpF 1 2 49 (xlO 49 50 (xpF 1 3 51 (xlO 51 52 (xpF 1 4 53 (xlO 53 54 (xpF 1 5 55 (xlO 55 56 (xpF 3 2 57 (.op .m (.sto (xr 57) (xr 50) 1) none none (xpF 3 3 58 (.op .m (.sto (xr 58) (xr 52) 1) none none (xpF 3 4 59 (.op .m (.sto (xr 59) (xr 54) 1) none none (xpF 3 5 60 (.op .m (.sto (xr 60) (xr 56) 1) none none .done))))))))))))))))) (xQ (xtF 1 2 61 (xtO 61 62 (xt (.call 46 [xr 62]) 63 (xtM 63 64 (xG (.fad (xr 1) 3) 65 64 true (xG (.ld (xr 65) 1 false) 66 64 true (xG (.mv (xr 66)) 67 64 true (xG (.fad (xr 1) 4) 68 67 true (xG (.ld (xr 68) 1 false) 69 67 true (xG (.pick (xr 67) (xr 69) (xb false)) 70 64 true (xG (.not (xr 70)) 71 64 true (xt (.pick (xr 64) (xr 71) (xb false)) 72 (xtM 72 73 (xG (.fad (xr 1) 5) 74 73 true (xG (.ld (xr 74) 1 false) 75 73 true (xG (.call 27 [xr 75, (xi 0), (xi 2)]) 76 73 true (xt (.pick (xr 73) (xr 76) (xb false)) 77 (xtM 77 4 .done)))))))))))))))))))) (xR (xt (.bin .eql (xr 9) (xi 3)) 79 (xtM 79 78 .done)) (.cond (xr 78) (.seq (.reg [3] (xpF 1 6 80 (xlO 80 81 (xpF 1 7 82 (xlO 82 83 (xpF 1 8 84 (xlO 84 85 (xpF 3 6 86 (.op .m (.sto (xr 86) (xr 81) 1) none none (xpF 3 7 87 (.op .m (.sto (xr 87) (xr 83) 1) none none (xpF 3 8 88 (.op .m (.sto (xr 88) (xr 85) 1) none none .done))))))))))))) (xQ (xtF 1 6 89 (xtO 89 90 (xtF 1 7 91 (xtO 91 92 (xtF 1 8 93 (xtO 93 94 (xt (.call 47 [xr 90, xr 92, xr 94]) 95 (xtM 95 4 .done)))))))))) (xR (xt (.bin .eql (xr 9) (xi 4)) 97 (xtM 97 96 .done)) (.cond (xr 96) (xR (xtF 1 7 98 (xtO 98 99 (xtF 3 7 100 (xS 100 99 1 .done)))) (xQ (xtF 1 7 101 (xtO 101 102 (xt (.call 27 [xr 102, (xi 1), (xi 255)]) 103 (xtM 103 4 .done)))))) .skip)))))))))) (xR (xtM 4 104 (xtM 104 105 (xG (.ld (xr 3) 9 true) 106 105 true (xG (.ld (xr 1) 9 true) 107 105 true (xG (.call 48 [xr 106, xr 107]) 108 105 true (xt (.pick (xr 105) (xr 108) (xb false)) 109 (xtM 109 2 .done))))))) .ret)))))
theorem ic22_ok : Tryz.f22.body.bind (trC Tryz.prog []) = some ic22 := by kernel_rfl
def fr22 : List FR := [(FR.t 2)]
theorem fr22_ok : fres Tryz.prog Tryz.f22.results.toList = some fr22 := by kernel_rfl
def ic12 : IC := (xR (xt (.box 34 (xr 0)) 1 (xt (.mv (.const zS)) 2 .done)) (.seq (xR (xtA 1 9 4 (xt (.call 22 [xr 4]) 5 (xtT 5 6 .done))) (.cond (xr 6) (xR (xt (.mv (.const zS)) 2 .done) .ret) .skip)) (xR (xpF 1 0 7 (xlO 7 8 (xp (.cvi .u8 (xr 8)) 9 (xpF 1 1 10 (xlO 10 11 (xp (.bin .mul (xr 11) (xi 16)) 12 (xpF 1 2 13 (xlO 13 14 (xp (.bin .add (xr 12) (xr 14)) 15 (xp (.cvi .u8 (xr 15)) 16 (xpF 1 3 17 (xlO 17 18 (xpF 1 4 20 (xlO 20 21 (xpF 1 5 25 (xlO 25 26 (xp (.bin .mul (xi 4) (xr 26)) 27 (xpF 1 6 29 (xlO 29 30 (xp (.bin .mul (xi 16) (xr 30)) 31 (xpF 1 7 34 (xlO 34 35 (xp (.cvi .u8 (xr 35)) 36 (xpF 1 8 37 (xlO 37 38 (xp (.len (xr 38)) 39 (xp (.cvi .u8 (xr 39)) 40 (xm (.call 23 [xr 18]) 19 (xm (.call 23 [xr 21]) 22 (xp (.bin .mul (xi 2) (xr 22)) 23 (xp (.bin .add (xr 19) (xr 23)) 24 (xp (.bin .add (xr 24) (xr 27)) 28 (xp (.bin .add (xr 28) (xr 31)) 32 (xp (.cvi .u8 (xr 32)) 33 (xm (.bsl 5 1 5 [(.int .u8 0)] [(0, (xr 9)), (1, (xr 16)), (2, (xr 33)), (3, (xr 36)), (4, (xr 40))]) 41 (xpM 41 3 .done)))))))))))))))))))))))))))))))))))) (xR (xtM 3 42 (xtF 1 8 43 (xtO 43 44 (xt (.app 22 (xr 42) (xr 44)) 45 (xt (.call 24 [xr 45]) 46 (xtM 46 2 .done)))))) .ret))))
theorem ic12_ok : Tryz.f12.body.bind (trC Tryz.prog []) = some ic12 := by kernel_rfl
def fr12 : List FR := [(FR.t 2)]
theorem fr12_ok : fres Tryz.prog Tryz.f12.results.toList = some fr12 := by kernel_rfl
def ic15 : IC := (xR (xt (.alc 34 [zI, zI, zI, zB, zB, zI, zI, zI, zS]) 2 (xt (.mv (xb false)) 3 .done)) (xR (xtM 0 9 (xt (.call 35 [xr 9]) 10 (xtM 10 8 (xtE 8 0 11 (xtE 8 1 12 (xtM 11 4 (xtM 12 5 .done))))))) (.seq (xR (xtM 5 13 (xtT 13 14 (xtM 14 15 (xG (.mv (xr 4)) 16 15 false (xG (.len (xr 16)) 17 15 false (xG (.bin .lss (xr 17) (xi 5)) 18 15 false (xt (.pick (xr 15) (xb true) (xr 18)) 19 .done))))))) (.cond (xr 19) (xR (xt (.bld [zI, zI, zI, zB, zB, zI, zI, zI, zS] []) 20 (xS 2 20 9 (xt (.mv (xb false)) 3 .done))) .ret) .skip)) (xR (xtM 4 21 (xt (.iad (xr 21) (xi 2) 1) 22 (xtO 22 23 (xt (.cvi .i64 (xr 23)) 24 (xtM 24 6 .done))))) (.seq (.join [] (xpM 4 25 (xp (.iad (xr 25) (xi 0) 1) 26 (xlO 26 27 (xp (.cvi .i64 (xr 27)) 28 (xpM 4 29 (xp (.iad (xr 29) (xi 1) 1) 30 (xlO 30 31 (xp (.cvi .i64 (xr 31)) 32 (xp (.bin .quo (xr 32) (xi 16)) 33 (xpM 4 34 (xp (.iad (xr 34) (xi 1) 1) 35 (xlO 35 36 (xp (.cvi .i64 (xr 36)) 37 (xp (.bin .rem (xr 37) (xi 16)) 38 (xpM 6 39 (xp (.bin .and (xr 39) (xi 1)) 40 (xp (.bin .eql (xr 40) (xi 1)) 41 (xpM 6 42 (xp (.bin .and (xr 42) (xi 2)) 43 (xp (.bin .eql (xr 43) (xi 2)) 44 (xpM 6 45 (xp (.bin .quo (xr 45) (xi 4)) 46 (xp (.bin .rem (xr 46) (xi 4)) 47 (xpM 6 48 (xp (.bin .quo (xr 48) (xi 16)) 49 (xpM 4 50 (xp (.iad (xr 50) (xi 3) 1) 51 (xlO 51 52 (xp (.cvi .i64 (xr 52)) 53 (xpM 4 54 (xp (.slc (xr 54) (some (xi 5)) none 1) 55 (.alt (xm (.call 36 [xr 55]) 56 (xp (.bld [zI, zI, zI, zB, zB, zI, zI, zI, zS] [(0, (1, (xr 28))), (1, (1, (xr 33))), (2, (1, (xr 38))), (3, (1, (xr 41))), (4, (1, (xr 44))), (5, (1, (xr 47))), (6, (1, (xr 49))), (7, (1, (xr 53))), (8, (1, (xr 56)))]) 57 (xm (.alc 34 [zI, zI, zI, zB, zB, zI, zI, zI, zS]) 7 (xS 7 57 9 .done)))) (xm (.alc 34 [zI, zI, zI, zB, zB, zI, zI, zI, zS]) 7 (xm (.call 36 [xr 55]) 56 (xp (.bld [zI, zI, zI, zB, zB, zI, zI, zI, zS] [(0, (1, (xr 28))), (1, (1, (xr 33))), (2, (1, (xr 38))), (3, (1, (xr 41))), (4, (1, (xr 44))), (5, (1, (xr 47))), (6, (1, (xr 49))), (7, (1, (xr 53))), (8, (1, (xr 56)))]) 57 (xS 7 57 9 .done))))))))))))))))))))))))))))))))))))) (.seq (xR (xtA 7 9 58 (xt (.call 12 [xr 58]) 59 (xtM 0 60 (xt (.call 37 [xr 59, xr 60]) 61 (xtT 61 62 .done))))) (.cond (xr 62) (xR (xt (.bld [zI, zI, zI, zB, zB, zI, zI, zI, zS] []) 63 (xS 2 63 9 (xt (.mv (xb false)) 3 .done))) .ret) .skip)) (xR (xtA 7 9 64 (xS 2 64 9 (xt (.mv (xb true)) 3 .done))) .ret)))))))
theorem ic15_ok : Tryz.f15.body.bind (trC Tryz.prog []) = some ic15 := by kernel_rfl
def fr15 : List FR := [(FR.c 2 9 true), (FR.t 3)]
theorem fr15_ok : fres Tryz.prog Tryz.f15.results.toList = some fr15 := by kernel_rfl
def ic91 : IC := (xR (xt (.box 34 (xr 0)) 1 (xt (.mv (xb false)) 2 .done)) (.seq (xR (xtF 1 0 3 (xtO 3 4 .done)) (.block 0 (xR (xt (.bin .eql (xr 4) (xi 1)) 6 (xtM 6 5 .done)) (.cond (xr 5) (xR (xtF 1 1 7 (xtO 7 8 (xt (.call 65 [xr 8, (xi 0), (xi 7)]) 9 (xtM 9 10 (xG (.fad (xr 1) 2) 11 10 true (xG (.ld (xr 11) 1 false) 12 10 true (xG (.call 65 [xr 12, (xi 0), (xi 7)]) 13 10 true (xt (.pick (xr 10) (xr 13) (xb false)) 14 (xtM 14 15 (xG (.fad (xr 1) 3) 16 15 true (xG (.ld (xr 16) 1 false) 17 15 true (xG (.not (xr 17)) 18 15 true (xt (.pick (xr 15) (xr 18) (xb false)) 19 (xtM 19 20 (xG (.fad (xr 1) 5) 21 20 true (xG (.ld (xr 21) 1 false) 22 20 true (xG (.bin .eql (xr 22) (xi 0)) 23 20 true (xt (.pick (xr 20) (xr 23) (xb false)) 24 (xtM 24 25 (xG (.ld (xr 1) 9 true) 26 25 true (xG (.call 127 [xr 26]) 27 25 true (xt (.pick (xr 25) (xr 27) (xb false)) 28 (xtM 28 2 .done))))))))))))))))))))))) .ret) (xR (xt (.bin .eql (xr 4) (xi 2)) 30 (xtM 30 29 .done)) (.cond (xr 29) (xR (xtF 1 1 31 (xtO 31 32 (xt (.bin .eql (xr 32) (xi 0)) 33 (xtM 33 34 (xG (.fad (xr 1) 2) 35 34 true (xG (.ld (xr 35) 1 false) 36 34 true (xG (.call 65 [xr 36, (xi 0), (xi 7)]) 37 34 true (xt (.pick (xr 34) (xr 37) (xb false)) 38 (xtM 38 39 (xG (.fad (xr 1) 3) 40 39 true (xG (.ld (xr 40) 1 false) 41 39 true (xG (.mv (xr 41)) 42 39 true (xG (.fad (xr 1) 4) 43 42 true (xG (.ld (xr 43) 1 false) 44 42 true (xG (.pick (xr 42) (xr 44) (xb false)) 45 39 true (xG (.not (xr 45)) 46 39 true (xt (.pick (xr 39) (xr 46) (xb false)) 47 (xtM 47 48 (xG (.fad (xr 1) 5) 49 48 true (xG (.ld (xr 49) 1 false) 50 48 true (xG (.call 65 [xr 50, (xi 0), (xi 2)]) 51 48 true (xt (.pick (xr 48) (xr 51) (xb false)) 52 (xtM 52 53 (xG (.fad (xr 1) 6) 54 53 true (xG (.ld (xr 54) 1 false) 55 53 true (xG (.bin .eql (xr 55) (xi 0)) 56 53 true (xt (.pick (xr 53) (xr 56) (xb false)) 57 (xtM 57 58 (xG (.fad (xr 1) 7) 59 58 true (xG (.ld (xr 59) 1 false) 60 58 true (xG (.bin .eql (xr 60) (xi 0)) 61 58 true (xt (.pick (xr 58) (xr 61) (xb false)) 62 (xtM 62 63 (xG (.fad (xr 1) 8) 64 63 true (xG (.ld (xr 64) 1 false) 65 63 true (xG (.len (xr 65)) 66 63 true (xG (.bin .eql (xr 66) (xi 0)) 67 63 true (xt (.pick (xr 63) (xr 67) (xb false)) 68 (xtM 68 2 .done))))))))))))))))))))))))))))))))))))))) .ret) (xR (xt (.bin .eql (xr 4) (xi 3)) 70 (xtM 70 69 .done)) (.cond (xr 69) (xR (xtF 1 1 71 (xtO 71 72 (xt (.bin .eql (xr 72) (xi 0)) 73 (xtM 73 74 (xG (.fad (xr 1) 2) 75 74 true (xG (.ld (xr 75) 1 false) 76 74 true (xG (.bin .eql (xr 76) (xi 0)) 77 74 true (xt (.pick (xr 74) (xr 77) (xb false)) 78 (xtM 78 79 (xG (.fad (xr 1) 3) 80 79 true (xG (.ld (xr 80) 1 false) 81 79 true (xG (.not (xr 81)) 82 79 true (xt (.pick (xr 79) (xr 82) (xb false)) 83 (xtM 83 84 (xG (.fad (xr 1) 4) 85 84 true (xG (.ld (xr 85) 1 false) 86 84 true (xG (.not (xr 86)) 87 84 true (xt (.pick (xr 84) (xr 87) (xb false)) 88 (xtM 88 89 (xG (.fad (xr 1) 5) 90 89 true (xG (.ld (xr 90) 1 false) 91 89 true (xG (.bin .eql (xr 91) (xi 0)) 92 89 true (xt (.pick (xr 89) (xr 92) (xb false)) 93 (xtM 93 94 (xG (.ld (xr 1) 9 true) 95 94 true (xG (.call 127 [xr 95]) 96 94 true (xt (.pick (xr 94) (xr 96) (xb false)) 97 (xtM 97 2 .done)))))))))))))))))))))))))))) .ret) .skip)))))))) (xR (xtF 1 0 98 (xtO 98 99 (xt (.bin .eql (xr 99) (xi 4)) 100 (xtM 100 101 (xG (.fad (xr 1) 1) 102 101 true (xG (.ld (xr 102) 1 false) 103 101 true (xG (.bin .eql (xr 103) (xi 0)) 104 101 true (xt (.pick (xr 101) (xr 104) (xb false)) 105 (xtM 105 106 (xG (.fad (xr 1) 2) 107 106 true (xG (.ld (xr 107) 1 false) 108 106 true (xG (.bin .eql (xr 108) (xi 0)) 109 106 true (xt (.pick (xr 106) (xr 109) (xb false)) 110 (xtM 110 111 (xG (.fad (xr 1) 3) 112 111 true (xG (.ld (xr 112) 1 false) 113 111 true (xG (.not (xr 113)) 114 111 true (xt (.pick (xr 111) (xr 114) (xb false)) 115 (xtM 115 116 (xG (.fad (xr 1) 4) 117 116 true (xG (.ld (xr 117) 1 false) 118 116 true (xG (.not (xr 118)) 119 116 true (xt (.pick (xr 116) (xr 119) (xb false)) 120 (xtM 120 121 (xG (.fad (xr 1) 5) 122 121 true (xG (.ld (xr 122) 1 false) 123 121 true (xG (.bin .eql (xr 123) (xi 0)) 124 121 true (xt (.pick (xr 121) (xr 124) (xb false)) 125 (xtM 125 126 (xG (.fad (xr 1) 6) 127 126 true (xG (.ld (xr 127) 1 false) 128 126 true (xG (.bin .eql (xr 128) (xi 0)) 129 126 true (xt (.pick (xr 126) (xr 129) (xb false)) 130 (xtM 130 131 (xG (.fad (xr 1) 7) 132 131 true (xG (.ld (xr 132) 1 false) 133 131 true (xG (.call 65 [xr 133, (xi 1), (xi 255)]) 134 131 true (xt (.pick (xr 131) (xr 134) (xb false)) 135 (xtM 135 136 (xG (.fad (xr 1) 8) 137 136 true (xG (.ld (xr 137) 1 false) 138 136 true (xG (.len (xr 138)) 139 136 true (xG (.bin .eql (xr 139) (xi 0)) 140 136 true (xt (.pick (xr 136) (xr 140) (xb false)) 141 (xtM 141 2 .done))))))))))))))))))))))))))))))))))))))))))))) .ret)))
theorem ic91_ok : Tryz.f91.body.bind (trC Tryz.prog []) = some ic91 := by kernel_rfl
def fr91 : List FR := [(FR.t 2)]
theorem fr91_ok : fres Tryz.prog Tryz.f91.results.toList = some fr91 := by kernel_rfl
def ic63 : IC := (xR (xt (.box 34 (xr 0)) 1 (xt (.mv (.const zS)) 2 .done)) (.seq (xR (xtA 1 9 4 (xt (.call 91 [xr 4]) 5 (xtT 5 6 .done))) (.cond (xr 6) (xR (xt (.bsl 5 1 0 [(.int .u8 0)] []) 7 (xtM 7 2 .done)) .ret) .skip)) (xR (xpF 1 0 8 (xlO 8 9 (xp (.cvi .u8 (xr 9)) 10 (xpF 1 1 11 (xlO 11 12 (xp (.bin .mul (xr 12) (xi 16)) 13 (xpF 1 2 14 (xlO 14 15 (xp (.bin .add (xr 13) (xr 15)) 16 (xp (.cvi .u8 (xr 16)) 17 (xpF 1 3 18 (xlO 18 19 (xpF 1 4 21 (xlO 21 22 (xpF 1 5 26 (xlO 26 27 (xp (.bin .mul (xi 4) (xr 27)) 28 (xpF 1 6 30 (xlO 30 31 (xp (.bin .mul (xi 16) (xr 31)) 32 (xpF 1 7 35 (xlO 35 36 (xp (.cvi .u8 (xr 36)) 37 (xpF 1 8 38 (xlO 38 39 (xp (.len (xr 39)) 40 (xp (.cvi .u8 (xr 40)) 41 (xm (.call 92 [xr 19]) 20 (xm (.call 92 [xr 22]) 23 (xp (.bin .mul (xi 2) (xr 23)) 24 (xp (.bin .add (xr 20) (xr 24)) 25 (xp (.bin .add (xr 25) (xr 28)) 29 (xp (.bin .add (xr 29) (xr 32)) 33 (xp (.cvi .u8 (xr 33)) 34 (xm (.bsl 5 1 5 [(.int .u8 0)] [(0, (xr 10)), (1, (xr 17)), (2, (xr 34)), (3, (xr 37)), (4, (xr 41))]) 42 (xpM 42 3 .done)))))))))))))))))))))))))))))))))))) (xR (xtM 3 43 (xtF 1 8 44 (xtO 44 45 (xt (.app 22 (xr 43) (xr 45)) 46 (xt (.call 93 [xr 46]) 47 (xtM 47 2 .done)))))) .ret))))
theorem ic63_ok : Tryz.f63.body.bind (trC Tryz.prog []) = some ic63 := by kernel_rfl
def fr63 : List FR := [(FR.t 2)]
theorem fr63_ok : fres Tryz.prog Tryz.f63.results.toList = some fr63 := by kernel_rfl
def ic106 : IC := (xR (xt (.alc 34 [zI, zI, zI, zB, zB, zI, zI, zI, zS]) 2 (xt (.mv (xb false)) 3 .done)) (xR (xtM 0 8 (xt (.call 135 [xr 8]) 9 (xtM 9 7 (xtE 7 0 10 (xtE 7 1 11 (xtM 10 4 (xtM 11 5 .done))))))) (.seq (xR (xtM 5 12 (xtT 12 13 (xtM 13 14 (xG (.mv (xr 4)) 15 14 false (xG (.len (xr 15)) 16 14 false (xG (.bin .lss (xr 16) (xi 5)) 17 14 false (xt (.pick (xr 14) (xb true) (xr 17)) 18 (xtM 18 19 (xG (.mv (xr 4)) 20 19 false (xG (.iad (xr 20) (xi 4) 1) 21 19 false (xG (.ld (xr 21) 1 false) 22 19 false (xG (.cvi .i64 (xr 22)) 23 19 false (xG (.mv (xr 4)) 24 19 false (xG (.len (xr 24)) 25 19 false (xG (.bin .sub (xr 25) (xi 5)) 26 19 false (xG (.bin .neq (xr 23) (xr 26)) 27 19 false (xt (.pick (xr 19) (xb true) (xr 27)) 28 (xtM 28 29 (xG (.mv (xr 4)) 30 29 false (xG (.len (xr 30)) 31 29 false (xG (.bin .gtr (xr 31) (xi 13)) 32 29 false (xt (.pick (xr 29) (xb true) (xr 32)) 33 .done)))))))))))))))))))))) (.cond (xr 33) (xR (xt (.bld [zI, zI, zI, zB, zB, zI, zI, zI, zS] []) 34 (xS 2 34 9 (xt (.mv (xb false)) 3 .done))) .ret) .skip)) (.seq (.join [] (xpM 4 35 (xp (.iad (xr 35) (xi 0) 1) 36 (xlO 36 37 (xp (.cvi .i64 (xr 37)) 38 (xpM 4 39 (xp (.iad (xr 39) (xi 1) 1) 40 (xlO 40 41 (xp (.bin .quo (xr 41) (.const (.int .u8 16))) 42 (xp (.cvi .i64 (xr 42)) 43 (xpM 4 44 (xp (.iad (xr 44) (xi 1) 1) 45 (xlO 45 46 (xp (.bin .rem (xr 46) (.const (.int .u8 16))) 47 (xp (.cvi .i64 (xr 47)) 48 (xpM 4 49 (xp (.iad (xr 49) (xi 2) 1) 50 (xlO 50 51 (xp (.bin .rem (xr 51) (.const (.int .u8 2))) 52 (xp (.bin .eql (xr 52) (.const (.int .u8 1))) 53 (xpM 4 54 (xp (.iad (xr 54) (xi 2) 1) 55 (xlO 55 56 (xp (.bin .quo (xr 56) (.const (.int .u8 2))) 57 (xp (.bin .rem (xr 57) (.const (.int .u8 2))) 58 (xp (.bin .eql (xr 58) (.const (.int .u8 1))) 59 (xpM 4 60 (xp (.iad (xr 60) (xi 2) 1) 61 (xlO 61 62 (xp (.bin .quo (xr 62) (.const (.int .u8 4))) 63 (xp (.bin .rem (xr 63) (.const (.int .u8 4))) 64 (xp (.cvi .i64 (xr 64)) 65 (xpM 4 66 (xp (.iad (xr 66) (xi 2) 1) 67 (xlO 67 68 (xp (.bin .quo (xr 68) (.const (.int .u8 16))) 69 (xp (.cvi .i64 (xr 69)) 70 (xpM 4 71 (xp (.iad (xr 71) (xi 3) 1) 72 (xlO 72 73 (xp (.cvi .i64 (xr 73)) 74 (xpM 4 76 (xp (.slc (xr 76) (some (xi 5)) none 1) 77 (.alt (xm (.bsl 5 1 0 [(.int .u8 0)] []) 75 (.alt (xm (.app 22 (xr 75) (xr 77)) 78 (xp (.bld [zI, zI, zI, zB, zB, zI, zI, zI, zS] [(0, (1, (xr 38))), (1, (1, (xr 43))), (2, (1, (xr 48))), (3, (1, (xr 53))), (4, (1, (xr 59))), (5, (1, (xr 65))), (6, (1, (xr 70))), (7, (1, (xr 74))), (8, (1, (xr 78)))]) 79 (xm (.alc 34 [zI, zI, zI, zB, zB, zI, zI, zI, zS]) 6 (xS 6 79 9 .done)))) (xm (.alc 34 [zI, zI, zI, zB, zB, zI, zI, zI, zS]) 6 (xm (.app 22 (xr 75) (xr 77)) 78 (xp (.bld [zI, zI, zI, zB, zB, zI, zI, zI, zS] [(0, (1, (xr 38))), (1, (1, (xr 43))), (2, (1, (xr 48))), (3, (1, (xr 53))), (4, (1, (xr 59))), (5, (1, (xr 65))), (6, (1, (xr 70))), (7, (1, (xr 74))), (8, (1, (xr 78)))]) 79 (xS 6 79 9 .done)))))) (xm (.alc 34 [zI, zI, zI, zB, zB, zI, zI, zI, zS]) 6 (xm (.bsl 5 1 0 [(.int .u8 0)] []) 75 (xm (.app 22 (xr 75) (xr 77)) 78 (xp (.bld [zI, zI, zI, zB, zB, zI, zI, zI, zS] [(0, (1, (xr 38))), (1, (1, (xr 43))), (2, (1, (xr 48))), (3, (1, (xr 53))), (4, (1, (xr 59))), (5, (1, (xr 65))), (6, (1, (xr 70))), (7, (1, (xr 74))), (8, (1, (xr 78)))]) 79 (xS 6 79 9 .done))))))))))))))))))))))))))))))))))))))))))))))))) (.seq (xR (xtA 6 9 80 (xt (.call 91 [xr 80]) 81 (xtT 81 82 .done))) (.cond (xr 82) (xR (xt (.bld [zI, zI, zI, zB, zB, zI, zI, zI, zS] []) 83 (xS 2 83 9 (xt (.mv (xb false)) 3 .done))) .ret) .skip)) (xR (xtA 6 9 84 (xS 2 84 9 (xt (.mv (xb true)) 3 .done))) .ret))))))
theorem ic106_ok : Tryz.f106.body.bind (trC Tryz.prog []) = some ic106 := by kernel_rfl
def fr106 : List FR := [(FR.c 2 9 true), (FR.t 3)]
theorem fr106_ok : fres Tryz.prog Tryz.f106.results.toList = some fr106 := by kernel_rfl
def ic143 : IC := (xR (xt (.mv (.const zS)) 4 .done) (xR (xtM 0 9 (xtL 9 10 (xtM 10 5 .done))) (.seq (xR (xtM 5 11 (xt (.bin .gtr (xr 11) (xi 24)) 12 (xtM 12 13 (xG (.mv (xr 1)) 14 13 false (xG (.call 27 [xr 14, (xi 1), (xi 8)]) 15 13 false (xG (.not (xr 15)) 16 13 false (xt (.pick (xr 13) (xb true) (xr 16)) 17 .done))))))) (.cond (xr 17) (xR (xt (.mv (.const zS)) 4 .done) .ret) .skip)) (.seq (xR (xtM 5 18 (xtM 1 19 (xt (.bin .leq (xr 18) (xr 19)) 20 .done))) (.cond (xr 20) (xR (xtM 5 21 (xtM 0 22 (xt (.call 36 [xr 22]) 23 (xt (.bld [zI, zI, zS] [(0, (1, (xi 0))), (1, (1, (xr 21))), (2, (1, (xr 23)))]) 24 (xt (.bsl 123 3 1 [zI, zI, zS] [(0, (xr 24))]) 25 (xtM 25 4 .done)))))) .ret) .skip)) (xR (xt (.mv (.const zS)) 6 .done) (.seq (xR (xt (.mv (xi 0)) 7 .done) (.block 0 (.loop (.seq (xR (xtM 7 26 (xtM 5 27 (xt (.bin .lss (xr 26) (xr 27)) 28 .done))) (.cond (xr 28) .skip (.exit 0))) (.seq (.block 1 (xR (xtM 0 32 (xtM 7 33 (xtM 5 34 (xtM 7 35 (xtM 1 36 (xt (.bin .add (xr 35) (xr 36)) 37 (xt (.mn (xr 34) (xr 37)) 38 (xt (.slc (xr 32) (some (xr 33)) (some (xr 38)) 1) 39 (xt (.call 36 [xr 39]) 40 (xt (.bld [zI, zI, zS] [(0, (1, (xi 2))), (1, (1, (xi 0))), (2, (1, (xr 40)))]) 41 (xt (.alc 123 [zI, zI, zS]) 8 (xS 8 41 3 .done)))))))))))) (.seq (.block 2 (xR (xtM 7 43 (xt (.bin .eql (xr 43) (xi 0)) 44 (xtM 44 42 .done))) (.cond (xr 42) (xQ (xtM 5 45 (xtF 8 0 46 (.op .t (.sto (xr 46) (xi 1) 1) none none (xtF 8 1 47 (xS 47 45 1 .done)))))) (xR (xtM 7 49 (xtM 1 50 (xt (.bin .add (xr 49) (xr 50)) 51 (xtM 5 52 (xt (.bin .geq (xr 51) (xr 52)) 53 (xtM 53 48 .done)))))) (.cond (xr 48) (xQ (xtF 8 0 54 (.op .t (.sto (xr 54) (xi 3) 1) none none .done))) .skip))))) (xQ (xtM 6 55 (xtA 8 3 56 (xt (.bsl 123 3 1 [zI, zI, zS] [(0, (xr 56))]) 57 (xt (.app 44 (xr 55) (xr 57)) 58 (xtM 58 6 .done))))))))) (xQ (xtM 7 29 (xtM 1 30 (xt (.bin .add (xr 29) (xr 30)) 31 (xtM 31 7 .done)))))))))) (xR (xtM 6 59 (xt (.call 140 [xr 59]) 60 (xtM 60 4 .done))) .ret)))))))
theorem ic143_ok : Tryz.f143.body.bind (trC Tryz.prog []) = some ic143 := by kernel_rfl
def fr143 : List FR := [(FR.t 4)]
theorem fr143_ok : fres Tryz.prog Tryz.f143.results.toList = some fr143 := by kernel_rfl
def ic129 : IC := (xR (xt (.mv (.const zS)) 4 .done) (xR (xt (.bsl 123 3 0 [zI, zI, zS] []) 8 (xtM 8 5 .done)) (.seq (xR (xtM 0 9 (xtL 9 10 (xt (.bin .gtr (xr 10) (xi 24)) 11 (xtM 11 12 (xG (.mv (xr 1)) 13 12 false (xG (.call 65 [xr 13, (xi 1), (xi 8)]) 14 12 false (xG (.not (xr 14)) 15 12 false (xt (.pick (xr 12) (xb true) (xr 15)) 16 .done)))))))) (.cond (xr 16) (xR (xtM 5 17 (xtM 17 4 .done)) .ret) .skip)) (.seq (xR (xtM 0 18 (xtL 18 19 (xtM 1 20 (xt (.bin .leq (xr 19) (xr 20)) 21 .done)))) (.cond (xr 21) (xR (xtM 5 22 (xtM 0 23 (xtL 23 24 (xt (.bsl 5 1 0 [(.int .u8 0)] []) 25 (xtM 0 26 (xt (.app 22 (xr 25) (xr 26)) 27 (xt (.bld [zI, zI, zS] [(1, (1, (xr 24))), (2, (1, (xr 27)))]) 28 (xt (.bsl 123 3 1 [zI, zI, zS] [(0, (xr 28))]) 29 (xt (.app 44 (xr 22) (xr 29)) 30 (xtM 30 4 .done)))))))))) .ret) .skip)) (.seq (xR (xt (.mv (xi 0)) 6 .done) (.block 0 (.loop (.seq (xR (xtM 6 31 (xtM 0 32 (xtL 32 33 (xt (.bin .lss (xr 31) (xr 33)) 34 .done)))) (.cond (xr 34) .skip (.exit 0))) (.seq (.block 1 (xR (xt (.bsl 5 1 0 [(.int .u8 0)] []) 38 (xtM 0 39 (xtM 6 40 (xtM 0 41 (xtL 41 42 (xtM 6 43 (xtM 1 44 (xt (.bin .add (xr 43) (xr 44)) 45 (xt (.mn (xr 42) (xr 45)) 46 (xt (.slc (xr 39) (some (xr 40)) (some (xr 46)) 1) 47 (xt (.app 22 (xr 38) (xr 47)) 48 (xt (.bld [zI, zI, zS] [(0, (1, (xi 2))), (2, (1, (xr 48)))]) 49 (xt (.alc 123 [zI, zI, zS]) 7 (xS 7 49 3 .done)))))))))))))) (.seq (xR (xtM 6 50 (xt (.bin .eql (xr 50) (xi 0)) 51 .done)) (.cond (xr 51) (xR (xtF 7 0 52 (.op .t (.sto (xr 52) (xi 1) 1) none none .done)) (xQ (xtM 0 53 (xtL 53 54 (xtF 7 1 55 (xS 55 54 1 .done)))))) .skip)) (.seq (xR (xtM 6 56 (xt (.bin .gtr (xr 56) (xi 0)) 57 (xtM 57 58 (xG (.mv (xr 6)) 59 58 true (xG (.mv (xr 1)) 60 58 true (xG (.bin .add (xr 59) (xr 60)) 61 58 true (xG (.mv (xr 0)) 62 58 true (xG (.len (xr 62)) 63 58 true (xG (.bin .geq (xr 61) (xr 63)) 64 58 true (xt (.pick (xr 58) (xr 64) (xb false)) 65 .done)))))))))) (.cond (xr 65) (xQ (xtF 7 0 66 (.op .t (.sto (xr 66) (xi 3) 1) none none .done))) .skip)) (xQ (xtM 5 67 (xtA 7 3 68 (xt (.bsl 123 3 1 [zI, zI, zS] [(0, (xr 68))]) 69 (xt (.app 44 (xr 67) (xr 69)) 70 (xtM 70 5 .done)))))))))) (xQ (xtM 6 35 (xtM 1 36 (xt (.bin .add (xr 35) (xr 36)) 37 (xtM 37 6 .done)))))))))) (xR (xtM 5 71 (xtM 71 4 .done)) .ret))))))
theorem ic129_ok : Tryz.f129.body.bind (trC Tryz.prog []) = some ic129 := by kernel_rfl
def fr129 : List FR := [(FR.t 4)]
theorem fr129_ok : fres Tryz.prog Tryz.f129.results.toList = some fr129 := by kernel_rfl
def ic156 : IC := (xR (xt (.box 41 (xr 0)) 2 (xt (.box 123 (xr 1)) 3 (xt (.alc 41 [zI, zS]) 4 (xt (.mv (.const zS)) 5 (xt (.mv (xi 0)) 6 .done))))) (xR (xpF 2 1 8 (xlO 8 9 (xpF 3 2 11 (xlO 11 12 (xm (.call 36 [xr 9]) 10 (xm (.app 22 (xr 10) (xr 12)) 13 (xm (.call 36 [xr 13]) 14 (xpM 14 7 .done)))))))) (.seq (.block 0 (xR (xtF 3 0 16 (xtO 16 17 (xt (.bin .eql (xr 17) (xi 0)) 18 (xtM 18 19 (xG (.fad (xr 2) 0) 20 19 true (xG (.ld (xr 20) 1 false) 21 19 true (xG (.bin .eql (xr 21) (xi 0)) 22 19 true (xt (.pick (xr 19) (xr 22) (xb false)) 23 (xtM 23 15 .done))))))))) (.cond (xr 15) (xR (xt (.bld [zI, zS] []) 24 (xtM 7 25 (xS 4 24 2 (xtM 25 5 (xt (.mv (xi 2)) 6 .done))))) .ret) (xR (xtF 3 0 27 (xtO 27 28 (xt (.bin .eql (xr 28) (xi 1)) 29 (xtM 29 30 (xG (.fad (xr 2) 0) 31 30 true (xG (.ld (xr 31) 1 false) 32 30 true (xG (.bin .eql (xr 32) (xi 0)) 33 30 true (xt (.pick (xr 30) (xr 33) (xb false)) 34 (xtM 34 26 .done))))))))) (.cond (xr 26) (xR (xtF 3 1 35 (xtO 35 36 (xtM 7 37 (xt (.bld [zI, zS] [(0, (1, (xr 36))), (1, (1, (xr 37)))]) 38 (xS 4 38 2 (xt (.mv (.const zS)) 5 (xt (.mv (xi 1)) 6 .done))))))) .ret) (xR (xtF 3 0 40 (xtO 40 41 (xt (.bin .eql (xr 41) (xi 2)) 42 (xtM 42 43 (xG (.fad (xr 2) 0) 44 43 true (xG (.ld (xr 44) 1 false) 45 43 true (xG (.bin .gtr (xr 45) (xi 0)) 46 43 true (xt (.pick (xr 43) (xr 46) (xb false)) 47 (xtM 47 48 (xG (.mv (xr 7)) 49 48 true (xG (.len (xr 49)) 50 48 true (xG (.fad (xr 2) 0) 51 48 true (xG (.ld (xr 51) 1 false) 52 48 true (xG (.bin .lss (xr 50) (xr 52)) 53 48 true (xt (.pick (xr 48) (xr 53) (xb false)) 54 (xtM 54 39 .done)))))))))))))))) (.cond (xr 39) (xR (xtF 2 0 55 (xtO 55 56 (xtM 7 57 (xt (.bld [zI, zS] [(0, (1, (xr 56))), (1, (1, (xr 57)))]) 58 (xS 4 58 2 (xt (.mv (.const zS)) 5 (xt (.mv (xi 1)) 6 .done))))))) .ret) (xR (xtF 3 0 60 (xtO 60 61 (xt (.bin .eql (xr 61) (xi 3)) 62 (xtM 62 63 (xG (.fad (xr 2) 0) 64 63 true (xG (.ld (xr 64) 1 false) 65 63 true (xG (.bin .gtr (xr 65) (xi 0)) 66 63 true (xt (.pick (xr 63) (xr 66) (xb false)) 67 (xtM 67 68 (xG (.mv (xr 7)) 69 68 true (xG (.len (xr 69)) 70 68 true (xG (.fad (xr 2) 0) 71 68 true (xG (.ld (xr 71) 1 false) 72 68 true (xG (.bin .eql (xr 70) (xr 72)) 73 68 true (xt (.pick (xr 68) (xr 73) (xb false)) 74 (xtM 74 59 .done)))))))))))))))) (.cond (xr 59) (xR (xt (.bld [zI, zS] []) 75 (xtM 7 76 (xS 4 75 2 (xtM 76 5 (xt (.mv (xi 2)) 6 .done))))) .ret) .skip))))))))) (xR (xt (.bld [zI, zS] []) 77 (xS 4 77 2 (xt (.mv (.const zS)) 5 (xt (.mv (xi 3)) 6 .done)))) .ret))))
theorem ic156_ok : Tryz.f156.body.bind (trC Tryz.prog []) = some ic156 := by kernel_rfl
def fr156 : List FR := [(FR.c 4 2 true), (FR.t 5), (FR.t 6)]
theorem fr156_ok : fres Tryz.prog Tryz.f156.results.toList = some fr156 := by kernel_rfl
def ic161 : IC := (xR (xt (.alc 41 [zI, zS]) 0 (xt (.mv (.const zS)) 1 (xt (.mv (xi 0)) 2 .done))) (xR (xt (.bld [zI, zS] []) 3 (xt (.bsl 5 1 0 [(.int .u8 0)] []) 4 (xS 0 3 2 (xtM 4 1 (xt (.mv (xi 3)) 2 .done))))) .ret))
theorem ic161_ok : Tryz.f161.body.bind (trC Tryz.prog []) = some ic161 := by kernel_rfl
def fr161 : List FR := [(FR.c 0 2 true), (FR.t 1), (FR.t 2)]
theorem fr161_ok : fres Tryz.prog Tryz.f161.results.toList = some fr161 := by kernel_rfl
def ic153 : IC := (xR (xt (.box 41 (xr 0)) 2 (xt (.box 123 (xr 1)) 3 (xt (.alc 41 [zI, zS]) 4 (xt (.mv (.const zS)) 5 (xt (.mv (xi 0)) 6 .done))))) (xR (xtF 2 0 9 (xtO 9 10 (xt (.bin .gtr (xr 10) (xi 0)) 11 (xtM 11 7 .done)))) (xR (xpF 2 1 13 (xlO 13 14 (xpF 3 2 16 (xlO 16 17 (xm (.bsl 5 1 0 [(.int .u8 0)] []) 12 (xm (.app 22 (xr 12) (xr 14)) 15 (xm (.app 22 (xr 15) (xr 17)) 18 (xpM 18 8 .done)))))))) (.seq (xR (xtF 3 0 19 (xtO 19 20 .done)) (.block 0 (xR (xt (.bin .eql (xr 20) (xi 0)) 22 (xtM 22 21 .done)) (.cond (xr 21) (.seq (xR (xtM 7 23 .done) (.cond (xr 23) (xR (xt (.call 161 []) 24 (xtE 24 0 25 (xtE 24 1 26 (xtE 24 2 27 (xS 4 25 2 (xtM 26 5 (xtM 27 6 .done))))))) .ret) .skip)) (xR (xt (.bld [zI, zS] []) 28 (xtM 8 29 (xS 4 28 2 (xtM 29 5 (xt (.mv (xi 2)) 6 .done))))) .ret)) (xR (xt (.bin .eql (xr 20) (xi 1)) 31 (xtM 31 30 .done)) (.cond (xr 30) (.seq (xR (xtM 7 32 .done) (.cond (xr 32) (xR (xt (.call 161 []) 33 (xtE 33 0 34 (xtE 33 1 35 (xtE 33 2 36 (xS 4 34 2 (xtM 35 5 (xtM 36 6 .done))))))) .ret) .skip)) (xR (xtF 3 1 37 (xtO 37 38 (xtM 8 39 (xt (.bld [zI, zS] [(0, (1, (xr 38))), (1, (1, (xr 39)))]) 40 (xt (.bsl 5 1 0 [(.int .u8 0)] []) 41 (xS 4 40 2 (xtM 41 5 (xt (.mv (xi 1)) 6 .done)))))))) .ret)) (xR (xt (.bin .eql (xr 20) (xi 2)) 43 (xtM 43 42 .done)) (.cond (xr 42) (.seq (xR (xtM 7 44 (xtT 44 45 (xtM 45 46 (xG (.mv (xr 8)) 47 46 false (xG (.len (xr 47)) 48 46 false (xG (.fad (xr 2) 0) 49 46 false (xG (.ld (xr 49) 1 false) 50 46 false (xG (.bin .geq (xr 48) (xr 50)) 51 46 false (xt (.pick (xr 46) (xb true) (xr 51)) 52 .done))))))))) (.cond (xr 52) (xR (xt (.call 161 []) 53 (xtE 53 0 54 (xtE 53 1 55 (xtE 53 2 56 (xS 4 54 2 (xtM 55 5 (xtM 56 6 .done))))))) .ret) .skip)) (xR (xtF 2 0 57 (xtO 57 58 (xtM 8 59 (xt (.bld [zI, zS] [(0, (1, (xr 58))), (1, (1, (xr 59)))]) 60 (xt (.bsl 5 1 0 [(.int .u8 0)] []) 61 (xS 4 60 2 (xtM 61 5 (xt (.mv (xi 1)) 6 .done)))))))) .ret)) .skip)))))))) (.seq (xR (xtM 7 62 (xtT 62 63 (xtM 63 64 (xG (.mv (xr 8)) 65 64 false (xG (.len (xr 65)) 66 64 false (xG (.fad (xr 2) 0) 67 64 false (xG (.ld (xr 67) 1 false) 68 64 false (xG (.bin .neq (xr 66) (xr 68)) 69 64 false (xt (.pick (xr 64) (xb true) (xr 69)) 70 .done))))))))) (.cond (xr 70) (xR (xt (.call 161 []) 71 (xtE 71 0 72 (xtE 71 1 73 (xtE 71 2 74 (xS 4 72 2 (xtM 73 5 (xtM 74 6 .done))))))) .ret) .skip)) (xR (xt (.bld [zI, zS] []) 75 (xtM 8 76 (xS 4 75 2 (xtM 76 5 (xt (.mv (xi 2)) 6 .done))))) .ret))))))
theorem ic153_ok : Tryz.f153.body.bind (trC Tryz.prog []) = some ic153 := by kernel_rfl
def fr153 : List FR := [(FR.c 4 2 true), (FR.t 5), (FR.t 6)]
theorem fr153_ok : fres Tryz.prog Tryz.f153.results.toList = some fr153 := by kernel_rfl
def ic109 : IC := (xR (xt (.mv (.const zS)) 2 .done) (xR (xtM 0 6 (xt (.call 140 [xr 6]) 7 (xtM 7 3 .done))) (.seq (xR (xtM 3 8 (xtL 8 9 (xt (.mv (xi 0)) 10 .done))) (.block 0 (.loop (xR (xt (.bin .lss (xr 10) (xr 9)) 11 .done) (.seq (.cond (xr 11) .skip (.exit 0)) (.seq (.block 1 (xR (xtM 10 12 (xtI 8 10 3 13 (xtA 13 3 14 (xt (.alc 123 [zI, zI, zS]) 5 (xtM 12 4 (xS 5 14 3 .done)))))) (xQ (xtM 3 15 (xtM 4 16 (xtF 5 2 17 (xtO 17 18 (xt (.call 36 [xr 18]) 19 (xtI 15 16 3 20 (xtF 20 2 21 (xS 21 19 1 .done))))))))))) (xQ (xt (.bin .add (xr 10) (xi 1)) 22 (xtM 22 10 .done))))))))) (xR (xtM 3 23 (xtM 23 2 .done)) .ret))))
theorem ic109_ok : Tryz.f109.body.bind (trC Tryz.prog []) = some ic109 := by kernel_rfl
def fr109 : List FR := [(FR.t 2)]
theorem fr109_ok : fres Tryz.prog Tryz.f109.results.toList = some fr109 := by kernel_rfl
def ic80 : IC := (xR (xt (.mv (.const zS)) 2 .done) (xR (xtM 0 6 (xtL 6 7 (xt (.oth (Op.makeSlice 51 (xr 7) (xr 7))) 8 (xtM 8 3 .done)))) (.seq (xR (xtM 0 9 (xtL 9 10 (xt (.mv (xi 0)) 11 .done))) (.block 0 (.loop (xR (xt (.bin .lss (xr 11) (xr 10)) 12 .done) (.seq (.cond (xr 12) .skip (.exit 0)) (.seq (.block 1 (xR (xtM 11 13 (xtI 9 11 1 14 (xtO 14 15 (xtM 13 4 (xtM 15 5 .done))))) (xQ (xtM 3 16 (xtM 4 17 (xtM 5 18 (xt (.call 36 [xr 18]) 19 (xtI 16 17 1 20 (xS 20 19 1 .done))))))))) (xQ (xt (.bin .add (xr 11) (xi 1)) 21 (xtM 21 11 .done))))))))) (xR (xtM 3 22 (xtM 22 2 .done)) .ret))))
theorem ic80_ok : Tryz.f80.body.bind (trC Tryz.prog []) = some ic80 := by kernel_rfl
def fr80 : List FR := [(FR.t 2)]
theorem fr80_ok : fres Tryz.prog Tryz.f80.results.toList = some fr80 := by kernel_rfl
def ic148 : IC := (xR (xt (.mv (xb false)) 4 .done) (.seq (xR (xt (.mv (xi 0)) 5 .done) (.block 0 (.loop (.seq (xR (xtM 5 6 (xtM 0 7 (xtL 7 8 (xt (.bin .lss (xr 6) (xr 8)) 9 .done)))) (.cond (xr 9) .skip (.exit 0))) (.seq (.block 1 (xR (xtM 0 12 (xtM 5 13 (xtI 12 13 3 14 (xtA 14 3 15 (xt (.call 158 [xr 15]) 16 (xtT 16 17 (xtM 17 18 (xG (.mv (xr 0)) 19 18 false (xG (.mv (xr 5)) 20 18 false (xG (.iad (xr 19) (xr 20) 3) 21 18 false (xG (.fad (xr 21) 2) 22 18 false (xG (.ld (xr 22) 1 false) 23 18 false (xG (.len (xr 23)) 24 18 false (xG (.mv (xr 1)) 25 18 false (xG (.bin .gtr (xr 24) (xr 25)) 26 18 false (xt (.pick (xr 18) (xb true) (xr 26)) 27 .done)))))))))))))))) (.cond (xr 27) (xR (xt (.mv (xb false)) 4 .done) .ret) .skip))) (xQ (xtM 5 10 (xt (.bin .add (xr 10) (xi 1)) 11 (xtM 11 5 .done))))))))) (xR (xt (.mv (xb true)) 4 .done) .ret)))
theorem ic148_ok : Tryz.f148.body.bind (trC Tryz.prog []) = some ic148 := by kernel_rfl
def fr148 : List FR := [(FR.t 4)]
theorem fr148_ok : fres Tryz.prog Tryz.f148.results.toList = some fr148 := by kernel_rfl
def ic108 : IC := (xR (xt (.mv (.const zS)) 2 .done) (xR (xt (.bsl 123 3 0 [zI, zI, zS] []) 5 (xtM 5 3 .done)) (.seq (xR (xt (.mv (xi 0)) 4 .done) (.block 0 (.loop (.seq (xR (xtM 4 6 (xtM 0 7 (xtL 7 8 (xt (.bin .lss (xr 6) (xr 8)) 9 .done)))) (.cond (xr 9) .skip (.exit 0))) (.seq (.block 1 (xQ (xpM 3 12 (xpM 0 13 (xpM 4 14 (xpI 13 14 3 15 (xpF 15 0 16 (xlO 16 17 (xpM 0 18 (xpM 4 19 (xpI 18 19 3 20 (xpF 20 1 21 (xlO 21 22 (xpM 0 24 (xpM 4 25 (xpI 24 25 3 26 (xpF 26 2 27 (xlO 27 28 (xm (.bsl 5 1 0 [(.int .u8 0)] []) 23 (xm (.app 22 (xr 23) (xr 28)) 29 (xp (.bld [zI, zI, zS] [(0, (1, (xr 17))), (1, (1, (xr 22))), (2, (1, (xr 29)))]) 30 (xm (.bsl 123 3 1 [zI, zI, zS] [(0, (xr 30))]) 31 (xm (.app 44 (xr 12) (xr 31)) 32 (xpM 32 3 .done)))))))))))))))))))))))) (xQ (xtM 4 10 (xt (.bin .add (xr 10) (xi 1)) 11 (xtM 11 4 .done))))))))) (xR (xtM 3 33 (xtM 33 2 .done)) .ret))))
theorem ic108_ok : Tryz.f108.body.bind (trC Tryz.prog []) = some ic108 := by kernel_rfl
def fr108 : List FR := [(FR.t 2)]
theorem fr108_ok : fres Tryz.prog Tryz.f108.results.toList = some fr108 := by kernel_rfl
def ic75 : IC := (xR (xt (.mv (.const zS)) 2 .done) (xR (xt (.bsl 22 1 0 [zS] []) 5 (xtM 5 3 .done)) (.seq (xR (xt (.mv (xi 0)) 4 .done) (.block 0 (.loop (.seq (xR (xtM 4 6 (xtM 0 7 (xtL 7 8 (xt (.bin .lss (xr 6) (xr 8)) 9 .done)))) (.cond (xr 9) .skip (.exit 0))) (.seq (.block 1 (xQ (xtM 3 12 (xt (.bsl 5 1 0 [(.int .u8 0)] []) 13 (xtM 0 14 (xtM 4 15 (xtI 14 15 1 16 (xtO 16 17 (xt (.app 22 (xr 13) (xr 17)) 18 (xt (.bsl 22 1 1 [zS] [(0, (xr 18))]) 19 (xt (.app 51 (xr 12) (xr 19)) 20 (xtM 20 3 .done)))))))))))) (xQ (xtM 4 10 (xt (.bin .add (xr 10) (xi 1)) 11 (xtM 11 4 .done))))))))) (xR (xtM 3 21 (xtM 21 2 .done)) .ret))))
theorem ic75_ok : Tryz.f75.body.bind (trC Tryz.prog []) = some ic75 := by kernel_rfl
def fr75 : List FR := [(FR.t 2)]
theorem fr75_ok : fres Tryz.prog Tryz.f75.results.toList = some fr75 := by kernel_rfl
set_option maxHeartbeats 1000000
theorem bc_one (l : List Int) : ∀ u ∈ bc l, u.oneCell' = true := by intro u hu; obtain ⟨x, _, rfl⟩ := List.mem_map.1 hu; rfl
theorem crcN_succ (k x : Nat) : crcN (k + 1) x = crcHalf (crcN k x) := by
  induction k generalizing x with
  | zero => rfl
  | succ k ih => rw [crcN, ih (crcHalf x)]; rfl
theorem wrap_small (n : Int) (h0 : 0 ≤ n) (h1 : n < 2 ^ 62) : IntKind.i64.wrap n = n := by rw [IntKind.wrap_i64]; omega
theorem bits_xor_i64 (a b : Nat) (ha : a < 2 ^ 62) (hb : b < 2 ^ 62) : bits .xor .i64 (a : Int) (b : Int) = ((a ^^^ b : Nat) : Int) := by
  have ha' : a % 2 ^ 64 = a := Nat.mod_eq_of_lt (Nat.lt_of_lt_of_le ha (by decide))
  have hb' : b % 2 ^ 64 = b := Nat.mod_eq_of_lt (Nat.lt_of_lt_of_le hb (by decide))
  simp only [bits, BitVec.ofInt_natCast, BitVec.toNat_xor, BitVec.toNat_ofNat]
  have e : IntKind.i64.bits = 64 := rfl
  rw [e, ha', hb']
  exact wrap_small _ (Int.natCast_nonneg _) (by have := Nat.xor_lt_two_pow ha hb; exact_mod_cast this)
theorem bits_and_i64 (a b : Nat) (ha : a < 2 ^ 62) (hb : b < 2 ^ 62) : bits .and .i64 (a : Int) (b : Int) = ((a &&& b : Nat) : Int) :=
  (bits_nat .i64 62 (by decide) wrap_small a b ha hb).1
theorem and_one (y : Nat) (h : y < 65536) : bits .and .i64 (y : Int) 1 = ((y % 2 : Nat) : Int) := by
  have := bits_and_i64 y 1 (by omega) (by omega)
  rw [Nat.and_one_is_mod] at this; exact this
theorem xor_poly (y : Nat) (h : y < 65536) : bits .xor .i64 (y : Int) 40961 = ((y ^^^ 40961 : Nat) : Int) := bits_xor_i64 y 40961 (by omega) (by omega)
theorem step_i (s b : Nat) (hs : s < 65536) (hb : b < 256) (z : Zc) : PSpec Tryz.prog 86 [.int .i64 s, .int .u8 b] z fun v z' => v = .int .i64 (crcStep s b) ∧ z = z' := by
  have e0 : bits .xor .i64 (s : Int) (b : Int) = ((s ^^^ b : Nat) : Int) := bits_xor_i64 s b (by omega) (by omega)
  have hx := Nat.xor_lt_two_pow (n := 16) (x := s) (y := b) (by omega) (by omega)
  have i1 : inB s 0 65535 = true := inB_iff.mpr (by omega)
  unfold crcStep
  (refine pspec_enter Tryz.func86 ic86_ok fr86_ok Tryz.ntmps86 ?_; simp only [seval, go_sem, ic86, fr86])
  refine gO ?_
  try (refine tT ?_; refine callP (in_s _ _ _ _) rfl rfl ?_; rintro _ _ - ⟨rfl, rfl⟩; simp only [i1]; refine gO ?_); refine gO ?_
  rw [wrap_in (n := (b : Int)) (by omega) (by omega), e0]
  generalize s ^^^ b = x at hx ⊢
  refine loop_upd (ι := Nat) (n := 0) (fun k => k ≤ 8) (fun k => [(0, .c (.v (.int .i64 (crcN k x)))), (10, .c (.v (.int .i64 k)))]) (fun _ => []) (fun _ => z) (fun k => 8 - k) 0 (by omega) (by (simp only [wrI, wrR, anyL, st, List.append_nil, List.nil_append, List.cons_append]); exact rfl) ?_ ?_
  · exact lE
  · rintro k hk
    have hy := crcN_lt k (x := x) hx
    have hsu := crcN_succ k x
    generalize hyk : crcN k x = y at hy hsu ⊢
    refine gO ?_
    (with_reducible refine condI.split (fun hg => ?_) (fun hg => ?_) <;> (try simp only [hg]) <;> (try simp only [seval, go_sem]))
    · refine gO ?_
      have hk8 : k < 8 := by simp at hg; omega
      try (refine ⟨by decide, ?_⟩; refine gO ?_)
      have q1 : (y : Int) / 2 = ((y / 2 : Nat) : Int) := by omega
      have q2 : (y : Int).tdiv 2 = ((y / 2 : Nat) : Int) := by rw [Int.tdiv_eq_ediv_of_nonneg (by omega)]; omega
      have q3 : (y : Int).tmod 2 = ((y % 2 : Nat) : Int) := by rw [Int.tmod_eq_emod_of_nonneg (by omega)]; omega
      have q4 : IntKind.i64.wrap ((y / 2 : Nat) : Int) = ((y / 2 : Nat) : Int) := wrap_in (by omega) (by omega)
      simp only [and_one y hy, q1, q2, q3, q4]
      (with_reducible refine condI.split (fun hg => ?_) (fun hg => ?_) <;> (try simp only [hg]) <;> (try simp only [seval, go_sem]))
      · refine gO ?_
        try simp only [q2, q4]
        rw [xor_poly _ (by omega)]
        rw [crcHalf, if_pos (by simp at hg; omega)] at hsu
        refine ⟨k + 1, by omega, by omega, ?_⟩
        rw [hsu]
        exact lE
      · refine gO ?_
        try simp only [q2, q4]
        rw [crcHalf, if_neg (by simp at hg; omega)] at hsu
        refine ⟨k + 1, by omega, by omega, ?_⟩
        simp only [hsu]
        exact lE
    · refine gO ?_
      (first|refine fN ?_|exact fZ)
      have : k = 8 := by simp at hg; omega
      subst this
      simp [hyk]
theorem step_s (s b : Nat) (hs : s < 65536) (hb : b < 256) (z : Zc) : PSpec Tryz.prog 147 [.int .i64 s, .int .u8 b] z fun v z' => v = .int .i64 (crcStep s b) ∧ z = z' := by
  have e0 : bits .xor .i64 (s : Int) (b : Int) = ((s ^^^ b : Nat) : Int) := bits_xor_i64 s b (by omega) (by omega)
  have hx := Nat.xor_lt_two_pow (n := 16) (x := s) (y := b) (by omega) (by omega)
  have i1 : inB s 0 65535 = true := inB_iff.mpr (by omega)
  unfold crcStep
  (refine pspec_enter Tryz.func147 ic147_ok fr147_ok Tryz.ntmps147 ?_; simp only [seval, go_sem, ic147, fr147])
  refine gO ?_
  try (refine tT ?_; refine callP (in_s _ _ _ _) rfl rfl ?_; rintro _ _ - ⟨rfl, rfl⟩; simp only [i1]; refine gO ?_); refine gO ?_
  rw [wrap_in (n := (b : Int)) (by omega) (by omega), e0]
  generalize s ^^^ b = x at hx ⊢
  refine loop_upd (ι := Nat) (n := 0) (fun k => k ≤ 8) (fun k => [(0, .c (.v (.int .i64 (crcN k x)))), (5, .c (.v (.int .i64 k)))]) (fun _ => []) (fun _ => z) (fun k => 8 - k) 0 (by omega) (by (simp only [wrI, wrR, anyL, st, List.append_nil, List.nil_append, List.cons_append]); exact rfl) ?_ ?_
  · exact lE
  · rintro k hk
    have hy := crcN_lt k (x := x) hx
    have hsu := crcN_succ k x
    generalize hyk : crcN k x = y at hy hsu ⊢
    refine gO ?_
    (with_reducible refine condI.split (fun hg => ?_) (fun hg => ?_) <;> (try simp only [hg]) <;> (try simp only [seval, go_sem]))
    · refine gO ?_
      have hk8 : k < 8 := by simp at hg; omega
      try (refine ⟨by decide, ?_⟩; refine gO ?_)
      have q1 : (y : Int) / 2 = ((y / 2 : Nat) : Int) := by omega
      have q2 : (y : Int).tdiv 2 = ((y / 2 : Nat) : Int) := by rw [Int.tdiv_eq_ediv_of_nonneg (by omega)]; omega
      have q3 : (y : Int).tmod 2 = ((y % 2 : Nat) : Int) := by rw [Int.tmod_eq_emod_of_nonneg (by omega)]; omega
      have q4 : IntKind.i64.wrap ((y / 2 : Nat) : Int) = ((y / 2 : Nat) : Int) := wrap_in (by omega) (by omega)
      simp only [and_one y hy, q1, q2, q3, q4]
      (with_reducible refine condI.split (fun hg => ?_) (fun hg => ?_) <;> (try simp only [hg]) <;> (try simp only [seval, go_sem]))
      · refine gO ?_
        try simp only [q2, q4]
        rw [xor_poly _ (by omega)]
        rw [crcHalf, if_pos (by simp at hg; omega)] at hsu
        refine ⟨k + 1, by omega, by omega, ?_⟩
        rw [hsu]
        exact lE
      · refine gO ?_
        try simp only [q2, q4]
        rw [crcHalf, if_neg (by simp at hg; omega)] at hsu
        refine ⟨k + 1, by omega, by omega, ?_⟩
        simp only [hsu]
        exact lE
    · refine gO ?_
      (first|refine fN ?_|exact fZ)
      have : k = 8 := by simp at hg; omega
      subst this
      simp [hyk]
theorem crcOf_snoc (l : List Int) (x : Int) : crcOf (l ++ [x]) = crcStep (crcOf l) x.toNat := by simp [crcOf, List.foldl_append]
theorem take_snoc {α : Type} {l : List α} {k : Nat} {x : α} (h : l[k]? = some x) : l.take (k + 1) = l.take k ++ [x] := by rw [List.take_add_one, h]; rfl
theorem byte_at {z : Zc} {A : Option Addr} {l : List Int} (hr : RdAt z A 0 (bc l)) {k : Nat} {x : Int} (hx : l[k]? = some x) : RdAt z A (k * 1) [.int .u8 x] := by
  have := hr.cell k (u := .int .u8 x) (by simp [hx])
  simpa using this
theorem byte_is {z : Zc} {A : Option Addr} {l : List Int} (hr : RdAt z A 0 (bc l)) {k : Nat} (hk : k < l.length) : IsAt A := hr.isAt (by simp; omega)
theorem crcOf_i (l : List Int) (v : Value) (z : Zc) (h : By z l v) (hl : l.length ≤ 1000000000) : PSpec Tryz.prog 49 [v] z fun v z' => v = .int .i64 (crcOf l) ∧ z = z' := by
  obtain ⟨A, c, rfl, hc, hB, hr⟩ := h.form
  (refine pspec_enter Tryz.func49 ic49_ok fr49_ok Tryz.ntmps49 ?_; simp only [seval, go_sem, ic49, fr49])
  refine gO ?_
  refine loop_upd (ι := Nat) (n := 0) (fun k => k ≤ l.length) (fun k => [(3, .c (.v (.int .i64 (crcOf (l.take k))))), (8, .c (.v (.int .i64 k)))]) (fun _ => []) (fun _ => z) (fun k => l.length - k) 0 (by omega) (by (simp only [wrI, wrR, anyL, st, List.append_nil, List.nil_append, List.cons_append]); exact rfl) ?_ ?_
  · exact lE
  · rintro k hk
    refine gO ?_
    (with_reducible refine condI.split (fun hg => ?_) (fun hg => ?_) <;> (try simp only [hg]) <;> (try simp only [seval, go_sem]))
    · refine gO ?_
      have hk' : k < l.length := by simp at hg; omega
      obtain ⟨x, hx⟩ : ∃ x, l[k]? = some x := ⟨_, List.getElem?_eq_getElem hk'⟩
      have hbx := hB x (List.mem_of_getElem? hx)
      obtain ⟨xn, rfl⟩ := Int.eq_ofNat_of_zero_le hbx.1
      (refine ⟨⟨by omega, by omega, byte_is hr hk'⟩, ?_⟩; (try simp only [seval, go_sem]))
      (refine ldF.one _ (by first | exact .inl (byte_at hr hx) | exact (byte_at hr hx)) ?_; (try simp only [seval, go_sem]))
      refine gO ?_
      refine tT ?_; refine callP (step_i (crcOf (l.take k)) xn (crcOf_lt (hB.take k)) (by omega) z) rfl rfl ?_; rintro _ _ - ⟨rfl, rfl⟩; refine gO ?_
      have e : crcOf (l.take (k + 1)) = crcStep (crcOf (l.take k)) xn := by rw [take_snoc hx, crcOf_snoc]; simp
      refine ⟨k + 1, by omega, by omega, ?_⟩
      rw [← e]
      exact lE
    · refine gO ?_
      (first|refine fN ?_|exact fZ)
      have : k = l.length := by simp at hg; omega
      subst this
      simp
theorem crcOf_s (l : List Int) (v : Value) (z : Zc) (h : By z l v) (hl : l.length ≤ 1000000000) : PSpec Tryz.prog 128 [v] z fun v z' => v = .int .i64 (crcOf l) ∧ z = z' := by
  obtain ⟨A, c, rfl, hc, hB, hr⟩ := h.form
  (refine pspec_enter Tryz.func128 ic128_ok fr128_ok Tryz.ntmps128 ?_; simp only [seval, go_sem, ic128, fr128])
  refine gO ?_
  refine loop_upd (ι := Nat) (n := 0) (fun k => k ≤ l.length) (fun k => [(3, .c (.v (.int .i64 (crcOf (l.take k))))), (4, .c (.v (.int .i64 k)))]) (fun _ => []) (fun _ => z) (fun k => l.length - k) 0 (by omega) (by (simp only [wrI, wrR, anyL, st, List.append_nil, List.nil_append, List.cons_append]); exact rfl) ?_ ?_
  · exact lE
  · rintro k hk
    refine gO ?_
    (with_reducible refine condI.split (fun hg => ?_) (fun hg => ?_) <;> (try simp only [hg]) <;> (try simp only [seval, go_sem]))
    · refine gO ?_
      have hk' : k < l.length := by simp at hg; omega
      obtain ⟨x, hx⟩ : ∃ x, l[k]? = some x := ⟨_, List.getElem?_eq_getElem hk'⟩
      have hbx := hB x (List.mem_of_getElem? hx)
      obtain ⟨xn, rfl⟩ := Int.eq_ofNat_of_zero_le hbx.1
      (refine ⟨⟨by omega, by omega, byte_is hr hk'⟩, ?_⟩; (try simp only [seval, go_sem]))
      (refine ldF.one _ (by first | exact .inl (byte_at hr hx) | exact (byte_at hr hx)) ?_; (try simp only [seval, go_sem]))
      refine gO ?_
      refine tT ?_; refine callP (step_s (crcOf (l.take k)) xn (crcOf_lt (hB.take k)) (by omega) z) rfl rfl ?_; rintro _ _ - ⟨rfl, rfl⟩; refine gO ?_
      have e : crcOf (l.take (k + 1)) = crcStep (crcOf (l.take k)) xn := by rw [take_snoc hx, crcOf_snoc]; simp
      refine ⟨k + 1, by omega, by omega, ?_⟩
      rw [← e]
      exact lE
    · refine gO ?_
      (first|refine fN ?_|exact fZ)
      have : k = l.length := by simp at hg; omega
      subst this
      simp
theorem eq_take {l m : List Int} {k : Nat} {x y : Int} (hx : l[k]? = some x) (hy : m[k]? = some y) (ht : l.take k = m.take k) (h : x = y) : l.take (k + 1) = m.take (k + 1) := by rw [take_snoc hx, take_snoc hy, ht, h]
theorem equalB (l m : List Int) (v u : Value) (z : Zc) (h : By z l v) (h' : By z m u) (hl : l.length ≤ 1000000000) (hm : m.length ≤ 1000000000) : PSpec Tryz.prog 37 [v, u] z fun v z' => v = .bool (decide (l = m)) ∧ z = z' := by
  obtain ⟨A, c, rfl, hc, hB, hr⟩ := h.form
  obtain ⟨A', c', rfl, hc', hB', hr'⟩ := h'.form
  (refine pspec_enter Tryz.func37 ic37_ok fr37_ok Tryz.ntmps37 ?_; simp only [seval, go_sem, ic37, fr37])
  refine gO ?_
  (with_reducible refine condI.split (fun hg => ?_) (fun hg => ?_) <;> (try simp only [hg]) <;> (try simp only [seval, go_sem]))
  · refine gO ?_
    (first|refine fN ?_|exact fZ)
    have : l ≠ m := by rintro rfl; simp at hg
    simp [this]
  · have hlen : l.length = m.length := by simp at hg; omega
    refine gO ?_
    refine loop_upd (ι := Nat) (n := 0) (fun k => k ≤ l.length ∧ l.take k = m.take k) (fun k => [(13, .c (.v (.int .i64 k)))]) (fun _ => []) (fun _ => z) (fun k => l.length - k) 0 (by simp) (by (simp only [wrI, wrR, anyL, st, List.append_nil, List.nil_append, List.cons_append]); exact rfl) ?_ ?_
    · exact lE
    · rintro k ⟨hk, ht⟩
      refine gO ?_
      (with_reducible refine condI.split (fun hg => ?_) (fun hg => ?_) <;> (try simp only [hg]) <;> (try simp only [seval, go_sem]))
      · have hk' : k < l.length := by simp at hg; omega
        obtain ⟨x, hx⟩ : ∃ x, l[k]? = some x := ⟨_, List.getElem?_eq_getElem hk'⟩
        obtain ⟨y, hy⟩ : ∃ y, m[k]? = some y := ⟨_, List.getElem?_eq_getElem (by omega)⟩
        refine gO ?_
        (refine ⟨⟨by omega, by omega, byte_is hr hk'⟩, ?_⟩; (try simp only [seval, go_sem]))
        (refine ldF.one _ (by first | exact .inl (byte_at hr hx) | exact (byte_at hr hx)) ?_; (try simp only [seval, go_sem]))
        (refine ⟨⟨by omega, by omega, byte_is hr' (show k < m.length by omega)⟩, ?_⟩; (try simp only [seval, go_sem]))
        (refine ldF.one _ (by first | exact .inl (byte_at hr' hy) | exact (byte_at hr' hy)) ?_; (try simp only [seval, go_sem]))
        refine gO ?_
        (with_reducible refine condI.split (fun hg => ?_) (fun hg => ?_) <;> (try simp only [hg]) <;> (try simp only [seval, go_sem]))
        · refine gO ?_
          (first|refine fN ?_|exact fZ)
          have : l ≠ m := by rintro rfl; rw [hx] at hy; injection hy with hy; subst hy; simp at *
          simp [this]
        · refine gO ?_
          refine ⟨k + 1, ⟨by omega, eq_take hx hy ht (by simpa using hg)⟩, by omega, ?_⟩
          exact lE
      · refine gO ?_
        (first|refine fN ?_|exact fZ)
        have : k = l.length := by simp at hg; omega
        subst this
        rw [List.take_length, hlen, List.take_length] at ht
        simp [ht]
theorem crcPut_bc (l : List Int) (n : Nat) (h : crcOf l = n) (hn : n < 65536) : bc (crcPut l) = bc l ++ [.int .u8 ((n % 256 : Nat) : Int), .int .u8 ((n / 256 : Nat) : Int)] := by subst h; simp [crcPut, bc]
theorem crcPut_bi (l : List Int) (h : crcOf l < 65536) : bc l ++ [Value.int .u8 (IntKind.u8.wrap (crcOf l : Int)), Value.int .u8 (IntKind.u8.wrap ((crcOf l : Int) / 256))] = bc (crcPut l) := by
  rw [crcPut_bc l _ rfl h, IntKind.wrap_u8, IntKind.wrap_u8]
  congr 3
  congr 2; omega
theorem crcPut_bs (l : List Int) (h : crcOf l < 65536) : bc l ++ [Value.int .u8 (IntKind.u8.wrap ((crcOf l : Int).tmod 256)), Value.int .u8 (IntKind.u8.wrap (IntKind.i64.wrap ((crcOf l : Int).tdiv 256)))] = bc (crcPut l) := by
  rw [crcPut_bc l _ rfl h, Int.tmod_eq_emod_of_nonneg (by omega), Int.tdiv_eq_ediv_of_nonneg (by omega), wrap_in (by omega) (by omega), IntKind.wrap_u8, IntKind.wrap_u8]
  congr 3
  · congr 1; omega
  · congr 2; omega
theorem crcPut_i (l : List Int) (v : Value) (z : Zc) (h : By z l v) (hl : l.length ≤ 100000000) : PSpec Tryz.prog 24 [v] z fun v z' => By z' (crcPut l) v := by
  obtain ⟨A, c, rfl, hc, hB, hr⟩ := h.form
  have hlt := crcOf_lt hB
  (refine pspec_enter Tryz.func24 ic24_ok fr24_ok Tryz.ntmps24 ?_; simp only [seval, go_sem, ic24, fr24])
  refine gO ?_
  refine tT ?_; refine callP (crcOf_i l _ z h (by omega)) rfl rfl ?_; rintro _ _ - ⟨rfl, rfl⟩; refine gO ?_
  refine tT ?_; refine callP (cloneBy l _ z h (by omega)) rfl rfl ?_; rintro v z1 hz1 ⟨A1, rfl, _, hr1⟩; refine gO ?_
  refine aT ?_; (refine appM_fullN 99 atyB rfl rfl hr1 (by first | omega | (simp <;> omega)) rfl rfl rfl rfl (by simp [Value.oneCell']) (by omega) (fun A2 c2 z2 hz2 hc2 hr2 => ?_)); dsimp only at hz2; refine gO ?_
  rw [crcPut_bi l hlt] at hr2
  have h2 : By z2 (crcPut l) (.slice A2 (l.length + 2) c2) := by rw [← crcPut_length]; exact By.mk (by rw [crcPut_length]; exact hc2) hB.crcPut hr2
  refine tT ?_; refine callP (cloneBy (crcPut l) _ z2 h2 (by rw [crcPut_length]; omega)) rfl rfl ?_; rintro v z3 hz3 ⟨A3, rfl, _, hr3⟩; refine gO ?_
  (first|refine fN ?_|exact fZ)
  exact By.mk (Nat.le_refl _) hB.crcPut hr3
theorem crcCut_short {l : List Int} (h : l.length < 2) : crcCut l = none := by unfold crcCut; rw [if_neg (by omega)]
theorem crcCut_no {l : List Int} (h : crcPut (l.take (l.length - 2)) ≠ l) : crcCut l = none := by unfold crcCut; rw [if_neg (fun k => h k.2)]
theorem crcCut_yes {l : List Int} (h2 : 2 ≤ l.length) (h : crcPut (l.take (l.length - 2)) = l) : crcCut l = some (l.take (l.length - 2)) := by unfold crcCut; rw [if_pos ⟨h2, h⟩]
theorem crcCut_i (l : List Int) (v : Value) (z : Zc) (h : By z l v) (hl : l.length ≤ 100000000) : PSpec Tryz.prog 35 [v] z fun v z' => match crcCut l with
    | some b => ∃ u, v = .tuple #[u, .bool true] ∧ By z' b u
    | none => v = .tuple #[.slice none 0 0, .bool false] := by
  obtain ⟨A, c, rfl, hc, hB, hr⟩ := h.form
  (refine pspec_enter Tryz.func35 ic35_ok fr35_ok Tryz.ntmps35 ?_; simp only [seval, go_sem, ic35, fr35])
  refine gO ?_
  (with_reducible refine guardR.split (fun hg => ?_) (fun hg => ?_) <;> (try simp only [hg]) <;> simp only [seval, go_sem])
  · refine gO ?_
    (first|refine fN ?_|exact fZ)
    rw [crcCut_short (by rw [decide_eq_true_eq, wrap_in (by omega) (by omega)] at hg; omega)]
    trivial
  · have h2 : 2 ≤ l.length := by rw [decide_eq_false_iff_not, wrap_in (by omega) (by omega)] at hg; omega
    have w1 : IntKind.i64.wrap ((l.length : Int) - 2) = ((l.length - 2 : Nat) : Int) := by rw [wrap_in (by omega) (by omega)]; omega
    simp only [w1]
    have ht : By z (l.take (l.length - 2)) (.slice A (l.length - 2) c) := h.take (by omega) (by omega)
    simp only [seval, go_sem]
    refine ⟨by omega, ?_⟩; refine gO ?_
    refine tT ?_; refine callP (crcPut_i _ _ z ht (by rw [List.length_take]; omega)) rfl rfl ?_; rintro v z1 hz1 hv; refine gO ?_
    obtain ⟨A1, c1, rfl, hc1, _⟩ := hv.form
    refine tT ?_; refine callP (equalB _ _ _ _ z1 hv (h.mono hz1) (by rw [crcPut_length, List.length_take]; omega) (by omega)) rfl rfl ?_; rintro _ _ - ⟨rfl, rfl⟩; refine gO ?_
    (with_reducible refine condI.split (fun hg => ?_) (fun hg => ?_) <;> (try simp only [hg]) <;> (try simp only [seval, go_sem]))
    · (first|refine fN ?_|exact fZ)
      simp at hg
      rw [crcCut_no hg]
      trivial
    · refine gO ?_
      refine ⟨by omega, ?_⟩; refine gO ?_
      refine tT ?_; refine callP (cloneBy _ _ z1 (ht.mono hz1) (by rw [List.length_take]; omega)) rfl rfl ?_; rintro v z2 hz2 ⟨A2, rfl, hB2, hr2⟩; refine gO ?_
      (first|refine fN ?_|exact fZ)
      simp at hg
      rw [crcCut_yes h2 hg]
      exact ⟨_, rfl, By.mk (Nat.le_refl _) hB2 hr2⟩
theorem crcCut_sum {l : List Int} (h2 : 2 ≤ l.length) (hB : Bys l) {x y : Int} (hx : l[l.length - 2]? = some x) (hy : l[l.length - 2 + 1]? = some y) : (crcOf (l.take (l.length - 2)) : Int) = x + y * 256 ↔ crcPut (l.take (l.length - 2)) = l := by
  have hs : l = l.take (l.length - 2) ++ [x, y] := by
    have h1 : l.drop (l.length - 2) = [x, y] := by
      apply List.ext_getElem?
      intro i
      rw [List.getElem?_drop]
      match i with
      | 0 => simpa using hx
      | 1 => simpa using hy
      | i + 2 => rw [List.getElem?_eq_none (by omega)]; simp
    rw [← h1, List.take_append_drop]
  have hbx := hB x (List.mem_of_getElem? hx)
  have hby := hB y (List.mem_of_getElem? hy)
  have hlt := crcOf_lt (hB.take (l.length - 2))
  constructor
  · intro e
    conv => rhs; rw [hs]
    unfold crcPut
    congr 1
    simp only [List.cons.injEq, and_true]
    omega
  · intro e
    rw [hs] at e
    unfold crcPut at e
    simp only [List.length_append, List.length_cons, List.length_nil, List.length_take] at e
    have e' : crcOf (l.take (l.length - 2)) = crcOf (l.take (l.length - 2)) := rfl
    have hm : min (l.length - 2) l.length + (0 + 1 + 1) - 2 = l.length - 2 := by omega
    rw [hm, List.take_append_of_le_length (by rw [List.length_take]; omega), List.take_take, Nat.min_self] at e
    have := List.append_cancel_left e
    simp only [List.cons.injEq, and_true] at this
    omega
theorem crcCut_s (l : List Int) (v : Value) (z : Zc) (h : By z l v) (hl : l.length ≤ 100000000) : PSpec Tryz.prog 135 [v] z fun v z' => ∃ u, match crcCut l with
    | some b => v = .tuple #[u, .bool true] ∧ By z' b u
    | none => v = .tuple #[u, .bool false] ∧ By z' [] u := by
  obtain ⟨A, c, rfl, hc, hB, hr⟩ := h.form
  (refine pspec_enter Tryz.func135 ic135_ok fr135_ok Tryz.ntmps135 ?_; simp only [seval, go_sem, ic135, fr135])
  refine gO ?_
  (with_reducible refine guardR.split (fun hg => ?_) (fun hg => ?_) <;> (try simp only [hg]) <;> simp only [seval, go_sem])
  · refine gO ?_
    refine FinV.frz 0 rfl rfl (fun b z1 hz1 hr1 => ?_)
    simp only [seval, go_sem, Go.Proofs.YtpblmlaahapohaaGreat.frz, subV, subC, subE, subL]
    (first|refine fN ?_|exact fZ)
    rw [crcCut_short (by rw [decide_eq_true_eq, wrap_in (by omega) (by omega)] at hg; omega)]
    exact ⟨_, rfl, Sl.nil _ _ _⟩
  · have h2 : 2 ≤ l.length := by rw [decide_eq_false_iff_not, wrap_in (by omega) (by omega)] at hg; omega
    have w1 : IntKind.i64.wrap ((l.length : Int) - 2) = ((l.length - 2 : Nat) : Int) := by rw [wrap_in (by omega) (by omega)]; omega
    have w2 : IntKind.i64.wrap (((l.length - 2 : Nat) : Int) + 1) = ((l.length - 2 + 1 : Nat) : Int) := by rw [wrap_in (by omega) (by omega)]; omega
    have ht : By z (l.take (l.length - 2)) (.slice A (l.length - 2) c) := h.take (by omega) (by omega)
    obtain ⟨x, hx⟩ : ∃ x, l[l.length - 2]? = some x := ⟨_, List.getElem?_eq_getElem (by omega)⟩
    obtain ⟨y, hy⟩ : ∃ y, l[l.length - 2 + 1]? = some y := ⟨_, List.getElem?_eq_getElem (by omega)⟩
    have hbx := hB x (List.mem_of_getElem? hx)
    have hby := hB y (List.mem_of_getElem? hy)
    have hsum := crcCut_sum h2 hB hx hy
    have w3 : IntKind.i64.wrap x = x := wrap_in (by omega) (by omega)
    have w4 : IntKind.i64.wrap y = y := wrap_in (by omega) (by omega)
    have w5 : IntKind.i64.wrap (y * 256) = y * 256 := wrap_in (by omega) (by omega)
    have w6 : IntKind.i64.wrap (x + y * 256) = x + y * 256 := wrap_in (by omega) (by omega)
    simp only [w1]
    simp only [seval, go_sem]
    refine ⟨by omega, ?_⟩; refine gO ?_
    (refine ⟨⟨by omega, by omega, byte_is hr (show l.length - 2 < l.length by omega)⟩, ?_⟩; (try simp only [seval, go_sem]))
    (refine ldF.one _ (by first | exact .inl (byte_at hr hx) | exact (byte_at hr hx)) ?_; (try simp only [seval, go_sem]))
    simp only [w2, w3]
    simp only [seval, go_sem]
    (refine ⟨⟨by omega, by omega, byte_is hr (show l.length - 2 + 1 < l.length by omega)⟩, ?_⟩; (try simp only [seval, go_sem]))
    (refine ldF.one _ (by first | exact .inl (byte_at hr hy) | exact (byte_at hr hy)) ?_; (try simp only [seval, go_sem]))
    simp only [w4, w5, w6]
    refine tT ?_; refine callP (crcOf_s _ _ z ht (by rw [List.length_take]; omega)) rfl rfl ?_; rintro _ _ - ⟨rfl, rfl⟩; refine gO ?_
    (with_reducible refine condI.split (fun hg => ?_) (fun hg => ?_) <;> (try simp only [hg]) <;> (try simp only [seval, go_sem]))
    · refine gO ?_
      refine FinV.frz 0 rfl rfl (fun b z1 hz1 hr1 => ?_)
      simp only [seval, go_sem, Go.Proofs.YtpblmlaahapohaaGreat.frz, subV, subC, subE, subL]
      (first|refine fN ?_|exact fZ)
      rw [crcCut_no (fun e => by rw [← hsum] at e; simp [e] at hg)]
      exact ⟨_, rfl, Sl.nil _ _ _⟩
    · refine gO ?_
      refine ⟨by omega, ?_⟩; refine gO ?_
      have hr1 : RdAt z A 0 (bc (l.take (l.length - 2))) := by rw [show bc (l.take (l.length - 2)) = (bc l).take (l.length - 2) by simp [bc, List.map_take]]; exact hr.take _
      refine aT ?_; (refine appM_empty 99 atyB rfl (by first | exact .inl ⟨_, rfl⟩ | exact .inr ⟨_, _, rfl⟩) rfl hr1 (by first | omega | (simp <;> omega)) (bc_one _) (by omega) (fun A2 c2 z2 hz2 hc2 hr2 => ?_)); dsimp only at hz2; refine gO ?_
      (first|refine fN ?_|exact fZ)
      simp at hg
      rw [crcCut_yes h2 (hsum.1 hg)]
      refine ⟨_, rfl, ?_⟩
      have := By.mk (l := l.take (l.length - 2)) (c := c2) (by simp; omega) (hB.take _) hr2
      rwa [List.length_take, Nat.min_eq_left (by omega)] at this
end Go.Proofs.YtpblmlaahapohaaGreat
