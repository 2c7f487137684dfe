/- Codes of functions, group Tx. · Who sends, by the reference. · Who hears, by the reference. · Who hears a frame, or is busy, by the reference. · Frames' bytes, one's own; sends. -/
import Derived.Test.YtnkhjnieidlknaaGreatB3
import Derived.Test.YtnkhjnieidlknaaGreatProg
import Derived.Test.YtnkhjnieidlknaaGreatB4
import Derived.Test.YtnkhjnieidlknaaGreatB10
namespace Go.Proofs.YtnkhjnieidlknaaGreat
open Go.RowKit
set_option linter.unusedVariables false
set_option linter.unusedSimpArgs false
set_option maxRecDepth 100000
set_option maxHeartbeats 4000000
def ic90 : IC := (xR (xt (.box 38 (xr 0)) 1 (xt (.alc 38 [zI, zI, zS, zI, zS, zB, zI, zB, zI, zB]) 2 .done)) (xR (xtA 1 10 4 (xt (.alc 38 [zI, zI, zS, zI, zS, zB, zI, zB, zI, zB]) 3 (xS 3 4 10 .done))) (xR (xtF 1 2 5 (xtO 5 6 (xt (.call 128 [xr 6]) 7 (xtF 3 2 8 (xS 8 7 1 .done))))) (xR (xtF 1 4 9 (xtO 9 10 (xt (.call 128 [xr 10]) 11 (xtF 3 4 12 (xS 12 11 1 .done))))) (xR (xtA 3 10 13 (xS 2 13 10 .done)) .ret)))))
theorem ic90_ok : Tryz.f90.body.bind (trC Tryz.prog []) = some ic90 := by kernel_rfl
def fr90 : List FR := [(FR.c 2 10 true)]
theorem fr90_ok : fres Tryz.prog Tryz.f90.results.toList = some fr90 := by kernel_rfl
def ic115 : IC := (xR (xt (.box 24 (xr 0)) 3 (xt (.box 38 (xr 1)) 4 (xt (.alc 38 [zI, zI, zS, zI, zS, zB, zI, zB, zI, zB]) 6 (xt (.mv (xb false)) 7 .done)))) (xR (xtM 2 9 (xtF 3 2 10 (xtO 10 11 (xt (.call 148 [xr 9, xr 11]) 12 (xtM 12 8 .done))))) (.seq (xR (xtF 4 9 13 (xtO 13 14 (xtM 14 15 (xG (.mv (xr 2)) 16 15 false (xG (.len (xr 16)) 17 15 false (xG (.fad (xr 3) 3) 18 15 false (xG (.ld (xr 18) 1 false) 19 15 false (xG (.bin .gtr (xr 17) (xr 19)) 20 15 false (xt (.pick (xr 15) (xb true) (xr 20)) 21 (xtM 21 22 (xG (.fad (xr 4) 4) 23 22 false (xG (.ld (xr 23) 1 false) 24 22 false (xG (.len (xr 24)) 25 22 false (xG (.mv (xr 8)) 26 22 false (xG (.len (xr 26)) 27 22 false (xG (.bin .add (xr 25) (xr 27)) 28 22 false (xG (.bin .gtr (xr 28) (xi 24)) 29 22 false (xt (.pick (xr 22) (xb true) (xr 29)) 30 .done)))))))))))))))))) (.cond (xr 30) (xR (xtA 4 10 31 (xS 6 31 10 (xt (.mv (xb false)) 7 .done))) .ret) .skip)) (xR (xtF 4 4 32 (xtO 32 33 (xtM 8 34 (xt (.app 36 (xr 33) (xr 34)) 35 (xtF 4 4 36 (xS 36 35 1 .done)))))) (xR (xtA 4 10 37 (xS 6 37 10 (xt (.mv (xb true)) 7 .done))) .ret)))))
theorem ic115_ok : Tryz.f115.body.bind (trC Tryz.prog []) = some ic115 := by kernel_rfl
def fr115 : List FR := [(FR.c 6 10 true), (FR.t 7)]
theorem fr115_ok : fres Tryz.prog Tryz.f115.results.toList = some fr115 := by kernel_rfl
def ic151 : IC := (xR (xt (.box 63 (xr 0)) 3 (xt (.alc 52 [zI, zI, zI, zB, zB, zI, zI, zI, zS]) 6 .done)) (.seq (.reg [6] (xpM 1 7 (xpM 2 8 (xpF 3 0 9 (xlO 9 10 (xpF 3 1 11 (xlO 11 12 (xpF 3 2 14 (xlO 14 15 (xm (.bsl 5 1 0 [(.int .u8 0)] []) 13 (xm (.app 22 (xr 13) (xr 15)) 16 (xp (.bld [zI, zI, zI, zB, zB, zI, zI, zI, zS] [(0, (1, (xi 1))), (1, (1, (xr 7))), (2, (1, (xr 8))), (6, (1, (xr 10))), (7, (1, (xr 12))), (8, (1, (xr 16)))]) 17 (.op .m (.sto (xr 6) (xr 17) 9) none none .done))))))))))))) .ret))
theorem ic151_ok : Tryz.f151.body.bind (trC Tryz.prog []) = some ic151 := by kernel_rfl
def fr151 : List FR := [(FR.c 6 9 true)]
theorem fr151_ok : fres Tryz.prog Tryz.f151.results.toList = some fr151 := by kernel_rfl
def ic117 : IC := (xR (xt (.box 24 (xr 0)) 3 (xt (.box 38 (xr 1)) 4 (xt (.alc 38 [zI, zI, zS, zI, zS, zB, zI, zB, zI, zB]) 6 (xt (.alc 52 [zI, zI, zI, zB, zB, zI, zI, zI, zS]) 7 (xt (.mv (xb false)) 8 .done))))) (.seq (xR (xtF 4 9 10 (xtO 10 11 (xtM 11 12 (xG (.fad (xr 4) 5) 13 12 false (xG (.ld (xr 13) 1 false) 14 12 false (xt (.pick (xr 12) (xb true) (xr 14)) 15 (xtM 15 16 (xG (.fad (xr 4) 7) 17 16 false (xG (.ld (xr 17) 1 false) 18 16 false (xt (.pick (xr 16) (xb true) (xr 18)) 19 .done)))))))))) (.cond (xr 19) (xR (xtA 4 10 20 (xt (.bld [zI, zI, zI, zB, zB, zI, zI, zI, zS] []) 21 (xS 6 20 10 (xS 7 21 9 (xt (.mv (xb false)) 8 .done))))) .ret) .skip)) (.seq (xR (xtF 4 3 22 (xtO 22 23 (xtF 4 2 24 (xtO 24 25 (xtL 25 26 (xt (.bin .eql (xr 23) (xr 26)) 27 .done)))))) (.cond (xr 27) (.seq (xR (xtF 4 2 28 (xtO 28 29 (xtL 29 30 (xtF 3 1 31 (xtO 31 32 (xt (.bin .eql (xr 30) (xr 32)) 33 (xtM 33 34 (xG (.fad (xr 4) 4) 35 34 false (xG (.ld (xr 35) 1 false) 36 34 false (xG (.len (xr 36)) 37 34 false (xG (.bin .eql (xr 37) (xi 0)) 38 34 false (xt (.pick (xr 34) (xb true) (xr 38)) 39 (xtM 39 40 (xG (.fad (xr 4) 8) 41 40 false (xG (.ld (xr 41) 1 false) 42 40 false (xG (.fad (xr 4) 2) 43 40 false (xG (.ld (xr 43) 1 false) 44 40 false (xG (.len (xr 44)) 45 40 false (xG (.bin .add (xr 42) (xr 45)) 46 40 false (xG (.bin .geq (xr 46) (xi 9999)) 47 40 false (xt (.pick (xr 40) (xb true) (xr 47)) 48 .done))))))))))))))))))))) (.cond (xr 48) (xR (xtA 4 10 49 (xt (.bld [zI, zI, zI, zB, zB, zI, zI, zI, zS] []) 50 (xS 6 49 10 (xS 7 50 9 (xt (.mv (xb false)) 8 .done))))) .ret) .skip)) (xR (xpF 4 2 51 (xlO 51 52 (xpF 4 4 53 (xlO 53 54 (xp (.iad (xr 54) (xi 0) 3) 55 (xlA 55 3 56 (xm (.bsl 63 3 1 [zI, zI, zS] [(0, (xr 56))]) 57 (xm (.app 36 (xr 52) (xr 57)) 58 (xpF 4 2 59 (xS 59 58 1 .done)))))))))) (xR (xtF 4 4 60 (xtO 60 61 (xt (.slc (xr 61) (some (xi 1)) none 3) 62 (xt (.call 128 [xr 62]) 63 (xtF 4 4 64 (xS 64 63 1 .done)))))) (xQ (xtF 4 0 65 (xtO 65 66 (xt (.call 150 [xr 66]) 67 (xtF 4 0 68 (xS 68 67 1 .done))))))))) .skip)) (.seq (.join [] (xpF 4 2 69 (xlO 69 70 (xpF 4 3 71 (xlO 71 72 (xpI 70 72 3 73 (xpF 4 1 75 (xlO 75 76 (xpF 4 3 77 (xlO 77 78 (xp (.bin .add (xr 76) (xr 78)) 79 (xp (.bin .rem (xr 79) (xi 8)) 80 (xpM 2 81 (.alt (xmA 73 3 74 (.alt (xm (.call 151 [xr 74, xr 80, xr 81]) 82 (xm (.alc 52 [zI, zI, zI, zB, zB, zI, zI, zI, zS]) 9 (xS 9 82 9 .done))) (xm (.alc 52 [zI, zI, zI, zB, zB, zI, zI, zI, zS]) 9 (xm (.call 151 [xr 74, xr 80, xr 81]) 82 (xS 9 82 9 .done))))) (xm (.alc 52 [zI, zI, zI, zB, zB, zI, zI, zI, zS]) 9 (xmA 73 3 74 (xm (.call 151 [xr 74, xr 80, xr 81]) 82 (xS 9 82 9 .done)))))))))))))))))) (xR (xtF 4 3 83 (xtO 83 84 (xt (.bin .add (xr 84) (xi 1)) 85 (xtF 4 3 86 (xS 86 85 1 .done))))) (.seq (.reg [6, 7] (xlA 4 10 87 (xlA 9 9 88 (.op .m (.sto (xr 6) (xr 87) 10) none none (.op .m (.sto (xr 7) (xr 88) 9) none none (xp (.mv (xb true)) 8 .done)))))) .ret))))))
theorem ic117_ok : Tryz.f117.body.bind (trC Tryz.prog [1000073]) = some ic117 := by kernel_rfl
def fr117 : List FR := [(FR.c 6 10 true), (FR.c 7 9 true), (FR.t 8)]
theorem fr117_ok : fres Tryz.prog Tryz.f117.results.toList = some fr117 := by kernel_rfl
def ic177 : IC := (xR (xt (.box 38 (xr 0)) 2 (xt (.alc 38 [zI, zI, zS, zI, zS, zB, zI, zB, zI, zB]) 4 .done)) (xR (xtF 2 1 6 (xtO 6 7 (xtM 1 8 (xt (.call 180 [xr 7, xr 8]) 9 (xtM 9 5 .done))))) (.seq (xR (xtM 5 10 (xtF 2 2 11 (xtO 11 12 (xtL 12 13 (xt (.bin .gtr (xr 10) (xr 13)) 14 .done))))) (.cond (xr 14) (xR (xtF 2 9 15 (.op .t (.sto (xr 15) (xb true) 1) none none .done)) (xR (xtA 2 10 16 (xS 4 16 10 .done)) .ret)) .skip)) (xR (xtF 2 2 17 (xtO 17 18 (xtM 5 19 (xt (.slc (xr 18) (some (xr 19)) none 3) 20 (xt (.call 128 [xr 20]) 21 (xtF 2 2 22 (xS 22 21 1 .done))))))) (xR (xtF 2 3 23 (xtO 23 24 (xtM 5 25 (xt (.bin .sub (xr 24) (xr 25)) 26 (xt (.mx (xi 0) (xr 26)) 27 (xtF 2 3 28 (xS 28 27 1 .done))))))) (xR (xtM 1 29 (xtF 2 1 30 (xS 30 29 1 .done))) (xR (xtF 2 8 31 (xtO 31 32 (xtM 5 33 (xt (.bin .add (xr 32) (xr 33)) 34 (xtF 2 8 35 (xS 35 34 1 .done)))))) (xR (xtA 2 10 36 (xS 4 36 10 .done)) .ret))))))))
theorem ic177_ok : Tryz.f177.body.bind (trC Tryz.prog []) = some ic177 := by kernel_rfl
def fr177 : List FR := [(FR.c 4 10 true)]
theorem fr177_ok : fres Tryz.prog Tryz.f177.results.toList = some fr177 := by kernel_rfl
def ic171 : IC := (xR (xt (.box 38 (xr 0)) 2 (xt (.box 52 (xr 1)) 3 (xt (.alc 38 [zI, zI, zS, zI, zS, zB, zI, zB, zI, zB]) 4 .done))) (.seq (xR (xtF 2 9 5 (xtO 5 6 .done)) (.cond (xr 6) (xR (xtA 2 10 7 (xS 4 7 10 .done)) .ret) .skip)) (xR (xtA 2 10 8 (xtF 3 2 9 (xtO 9 10 (xt (.call 177 [xr 8, xr 10]) 11 (xS 2 11 10 .done))))) (.seq (xR (xtF 2 9 12 (xtO 12 13 (xtM 13 14 (xG (.fad (xr 3) 0) 15 14 false (xG (.ld (xr 15) 1 false) 16 14 false (xG (.bin .neq (xr 16) (xi 2)) 17 14 false (xG (.mv (xr 17)) 18 14 false (xG (.fad (xr 3) 4) 19 18 true (xG (.ld (xr 19) 1 false) 20 18 true (xG (.not (xr 20)) 21 18 true (xG (.pick (xr 18) (xr 21) (xb false)) 22 14 false (xt (.pick (xr 14) (xb true) (xr 22)) 23 .done)))))))))))) (.cond (xr 23) (xR (xtA 2 10 24 (xS 4 24 10 .done)) .ret) .skip)) (.seq (xR (xtF 3 0 25 (xtO 25 26 (xt (.bin .eql (xr 26) (xi 2)) 27 .done))) (.cond (xr 27) (xQ (xtF 3 5 28 (xtO 28 29 (xt (.bin .eql (xr 29) (xi 2)) 30 (xtF 2 7 31 (xS 31 30 1 .done)))))) .skip)) (.seq (xR (xtF 3 4 32 (xtO 32 33 (xtM 33 34 (xG (.fad (xr 2) 5) 35 34 true (xG (.ld (xr 35) 1 false) 36 34 true (xt (.pick (xr 34) (xr 36) (xb false)) 37 .done)))))) (.cond (xr 37) (xR (xtF 2 5 38 (.op .t (.sto (xr 38) (xb false) 1) none none .done)) (xR (xtF 2 6 39 (.op .t (.sto (xr 39) (xi 0) 1) none none .done)) (xQ (xtF 2 3 40 (.op .t (.sto (xr 40) (xi 0) 1) none none .done))))) .skip)) (.seq (xR (xtF 3 0 41 (xtO 41 42 (xt (.bin .eql (xr 42) (xi 2)) 43 (xtM 43 44 (xG (.fad (xr 3) 5) 45 44 true (xG (.ld (xr 45) 1 false) 46 44 true (xG (.bin .eql (xr 46) (xi 1)) 47 44 true (xt (.pick (xr 44) (xr 47) (xb false)) 48 (xtM 48 49 (xG (.fad (xr 2) 5) 50 49 true (xG (.ld (xr 50) 1 false) 51 49 true (xG (.not (xr 51)) 52 49 true (xt (.pick (xr 49) (xr 52) (xb false)) 53 .done))))))))))))) (.cond (xr 53) (xQ (xtF 2 3 54 (.op .t (.sto (xr 54) (xi 0) 1) none none .done))) .skip)) (xR (xtA 2 10 55 (xS 4 55 10 .done)) .ret))))))))
theorem ic171_ok : Tryz.f171.body.bind (trC Tryz.prog []) = some ic171 := by kernel_rfl
def fr171 : List FR := [(FR.c 4 10 true)]
theorem fr171_ok : fres Tryz.prog Tryz.f171.results.toList = some fr171 := by kernel_rfl
def ic120 : IC := (xR (xt (.box 24 (xr 0)) 4 (xt (.box 38 (xr 1)) 5 (xt (.alc 38 [zI, zI, zS, zI, zS, zB, zI, zB, zI, zB]) 8 (xt (.alc 52 [zI, zI, zI, zB, zB, zI, zI, zI, zS]) 9 (xt (.mv (xb false)) 10 .done))))) (.seq (xR (xtF 5 9 11 (xtO 11 12 (xtM 12 13 (xG (.fad (xr 5) 2) 14 13 false (xG (.ld (xr 14) 1 false) 15 13 false (xG (.len (xr 15)) 16 13 false (xG (.bin .eql (xr 16) (xi 0)) 17 13 false (xG (.mv (xr 17)) 18 13 false (xG (.fad (xr 5) 7) 19 18 true (xG (.ld (xr 19) 1 false) 20 18 true (xG (.not (xr 20)) 21 18 true (xG (.pick (xr 18) (xr 21) (xb false)) 22 13 false (xG (.mv (xr 22)) 23 13 false (xG (.fad (xr 5) 5) 24 23 true (xG (.ld (xr 24) 1 false) 25 23 true (xG (.not (xr 25)) 26 23 true (xG (.pick (xr 23) (xr 26) (xb false)) 27 13 false (xt (.pick (xr 13) (xb true) (xr 27)) 28 .done)))))))))))))))))) (.cond (xr 28) (xR (xtA 5 10 29 (xt (.bld [zI, zI, zI, zB, zB, zI, zI, zI, zS] []) 30 (xS 8 29 10 (xS 9 30 9 (xt (.mv (xb false)) 10 .done))))) .ret) .skip)) (.seq (xR (xtF 5 6 31 (xtO 31 32 (xtF 4 4 33 (xtO 33 34 (xt (.bin .eql (xr 32) (xr 34)) 35 .done))))) (.cond (xr 35) (xR (xtF 5 9 36 (.op .t (.sto (xr 36) (xb true) 1) none none .done)) (xR (xtA 5 10 37 (xt (.bld [zI, zI, zI, zB, zB, zI, zI, zI, zS] []) 38 (xS 8 37 10 (xS 9 38 9 (xt (.mv (xb false)) 10 .done))))) .ret)) .skip)) (xR (xtF 5 6 39 (xtO 39 40 (xt (.bin .add (xr 40) (xi 1)) 41 (xtF 5 6 42 (xS 42 41 1 .done))))) (xR (xtF 5 5 43 (.op .t (.sto (xr 43) (xb true) 1) none none .done)) (.seq (.reg [8, 9] (xlA 5 10 44 (xpM 2 45 (xpM 3 46 (xm (.call 112 [xr 46]) 47 (xp (.bin .mul (xi 2) (xr 47)) 48 (xp (.bld [zI, zI, zI, zB, zB, zI, zI, zI, zS] [(0, (1, (xi 2))), (2, (1, (xr 45))), (3, (1, (xb true))), (5, (1, (xr 48)))]) 49 (.op .m (.sto (xr 8) (xr 44) 10) none none (.op .m (.sto (xr 9) (xr 49) 9) none none (xp (.mv (xb true)) 10 .done)))))))))) .ret))))))
theorem ic120_ok : Tryz.f120.body.bind (trC Tryz.prog []) = some ic120 := by kernel_rfl
def fr120 : List FR := [(FR.c 8 10 true), (FR.c 9 9 true), (FR.t 10)]
theorem fr120_ok : fres Tryz.prog Tryz.f120.results.toList = some fr120 := by kernel_rfl
def ic91 : IC := (xR (xt (.box 42 (xr 0)) 1 (xt (.alc 42 [zI, zI, zI, zS, zB, zB, zB]) 2 .done)) (xR (xtA 1 7 4 (xt (.alc 42 [zI, zI, zI, zS, zB, zB, zB]) 3 (xS 3 4 7 .done))) (xR (xt (.bsl 5 1 0 [(.int .u8 0)] []) 5 (xtF 1 2 6 (xtF 6 1 7 (xtO 7 8 (xt (.app 22 (xr 5) (xr 8)) 9 (xtF 3 2 10 (xtF 10 1 11 (xS 11 9 1 .done)))))))) (xR (xtA 3 7 12 (xS 2 12 7 .done)) .ret))))
theorem ic91_ok : Tryz.f91.body.bind (trC Tryz.prog []) = some ic91 := by kernel_rfl
def fr91 : List FR := [(FR.c 2 7 true)]
theorem fr91_ok : fres Tryz.prog Tryz.f91.results.toList = some fr91 := by kernel_rfl
def ic123 : IC := (xR (xt (.box 42 (xr 0)) 2 (xt (.alc 52 [zI, zI, zI, zB, zB, zI, zI, zI, zS]) 4 .done)) (xR (xtF 2 0 6 (xtO 6 7 (xtM 1 8 (xt (.bld [zI, zI, zI, zB, zB, zI, zI, zI, zS] [(0, (1, (xi 2))), (2, (1, (xr 7))), (4, (1, (xr 8)))]) 9 (xt (.alc 52 [zI, zI, zI, zB, zB, zI, zI, zI, zS]) 5 (xS 5 9 9 .done)))))) (.seq (xR (xtF 2 5 10 (xtO 10 11 .done)) (.cond (xr 11) (xQ (xtF 5 5 12 (.op .t (.sto (xr 12) (xi 2) 1) none none .done))) .skip)) (xR (xtA 5 9 13 (xS 4 13 9 .done)) .ret))))
theorem ic123_ok : Tryz.f123.body.bind (trC Tryz.prog []) = some ic123 := by kernel_rfl
def fr123 : List FR := [(FR.c 4 9 true)]
theorem fr123_ok : fres Tryz.prog Tryz.f123.results.toList = some fr123 := by kernel_rfl
def ic181 : IC := (xR (xt (.box 24 (xr 0)) 3 (xt (.box 42 (xr 1)) 4 (xt (.box 52 (xr 2)) 5 (xt (.alc 42 [zI, zI, zI, zS, zB, zB, zB]) 6 (xt (.mv (.const zS)) 7 .done))))) (xR (xtF 5 6 12 (xtO 12 13 (xtF 5 7 14 (xtO 14 15 (xtF 5 8 16 (xtO 16 17 (xt (.bld [zI, zI, zS] [(0, (1, (xr 13))), (1, (1, (xr 15))), (2, (1, (xr 17)))]) 18 (xt (.alc 63 [zI, zI, zS]) 8 (xS 8 18 3 .done))))))))) (.seq (xR (xtF 5 7 19 (xtO 19 20 (xtF 3 3 21 (xtO 21 22 (xt (.bin .gtr (xr 20) (xr 22)) 23 (xtM 23 24 (xG (.fad (xr 5) 8) 25 24 false (xG (.ld (xr 25) 1 false) 26 24 false (xG (.len (xr 26)) 27 24 false (xG (.fad (xr 3) 2) 28 24 false (xG (.ld (xr 28) 1 false) 29 24 false (xG (.bin .gtr (xr 27) (xr 29)) 30 24 false (xt (.pick (xr 24) (xb true) (xr 30)) 31 (xtM 31 32 (xG (.fad (xr 4) 1) 33 32 false (xG (.ld (xr 33) 1 false) 34 32 false (xG (.bin .eql (xr 34) (xi 9999)) 35 32 false (xt (.pick (xr 32) (xb true) (xr 35)) 36 .done)))))))))))))))))) (.cond (xr 36) (xR (xtF 4 6 37 (.op .t (.sto (xr 37) (xb true) 1) none none .done)) (xR (xtA 4 7 38 (xt (.bsl 22 1 0 [zS] []) 39 (xS 6 38 7 (xtM 39 7 .done)))) .ret)) .skip)) (xR (xtF 4 2 41 (xtA 41 2 42 (xtA 8 3 43 (xt (.call 173 [xr 42, xr 43]) 44 (xtM 44 40 (xtE 40 0 45 (xtE 40 1 46 (xtE 40 2 47 (xt (.alc 40 [zI, zS]) 9 (xS 9 45 2 (xtM 46 10 (xtM 47 11 .done)))))))))))) (xR (xtA 9 2 48 (xtF 4 2 49 (xS 49 48 2 .done))) (.seq (xR (xtM 11 50 (xt (.bin .eql (xr 50) (xi 3)) 51 .done)) (.cond (xr 51) (xR (xtF 4 6 52 (.op .t (.sto (xr 52) (xb true) 1) none none .done)) (xR (xtA 4 7 53 (xt (.bsl 22 1 0 [zS] []) 54 (xS 6 53 7 (xtM 54 7 .done)))) .ret)) .skip)) (xR (xtF 4 0 55 (xtO 55 56 (xt (.call 150 [xr 56]) 57 (xtF 4 0 58 (xS 58 57 1 .done))))) (xR (xtF 4 1 59 (xtO 59 60 (xt (.bin .add (xr 60) (xi 1)) 61 (xtF 4 1 62 (xS 62 61 1 .done))))) (xR (xtF 4 4 63 (.op .t (.sto (xr 63) (xb false) 1) none none .done)) (.seq (xR (xtM 11 64 (xt (.bin .eql (xr 64) (xi 2)) 65 .done)) (.cond (xr 65) (xR (xtA 4 7 66 (xtM 10 67 (xt (.bsl 22 1 1 [zS] [(0, (xr 67))]) 68 (xS 6 66 7 (xtM 68 7 .done))))) .ret) .skip)) (xR (xtA 4 7 69 (xt (.bsl 22 1 0 [zS] []) 70 (xS 6 69 7 (xtM 70 7 .done)))) .ret)))))))))))
theorem ic181_ok : Tryz.f181.body.bind (trC Tryz.prog []) = some ic181 := by kernel_rfl
def fr181 : List FR := [(FR.c 6 7 true), (FR.t 7)]
theorem fr181_ok : fres Tryz.prog Tryz.f181.results.toList = some fr181 := by kernel_rfl
def ic178 : IC := (xR (xt (.box 24 (xr 0)) 3 (xt (.box 42 (xr 1)) 4 (xt (.box 52 (xr 2)) 5 (xt (.alc 42 [zI, zI, zI, zS, zB, zB, zB]) 6 (xt (.mv (.const zS)) 7 (xt (.mv (.const zS)) 8 .done)))))) (.seq (xR (xtF 4 5 12 (xtO 12 13 .done)) (.cond (xr 13) (.seq (.join [6] (xlA 4 7 14 (xlA 4 7 16 (.alt (xm (.bsl 22 1 0 [zS] []) 15 (xm (.call 123 [xr 16, (xb false)]) 17 (.alt (xm (.bsl 52 9 1 [zI, zI, zI, zB, zB, zI, zI, zI, zS] [(0, (xr 17))]) 18 (.op .m (.sto (xr 6) (xr 14) 7) none none (xpM 15 7 (xpM 18 8 .done)))) (.op .m (.sto (xr 6) (xr 14) 7) none none (xpM 15 7 (xm (.bsl 52 9 1 [zI, zI, zI, zB, zB, zI, zI, zI, zS] [(0, (xr 17))]) 18 (xpM 18 8 .done))))))) (xm (.call 123 [xr 16, (xb false)]) 17 (.alt (xm (.bsl 22 1 0 [zS] []) 15 (.alt (xm (.bsl 52 9 1 [zI, zI, zI, zB, zB, zI, zI, zI, zS] [(0, (xr 17))]) 18 (.op .m (.sto (xr 6) (xr 14) 7) none none (xpM 15 7 (xpM 18 8 .done)))) (.op .m (.sto (xr 6) (xr 14) 7) none none (xpM 15 7 (xm (.bsl 52 9 1 [zI, zI, zI, zB, zB, zI, zI, zI, zS] [(0, (xr 17))]) 18 (xpM 18 8 .done)))))) (.alt (xm (.bsl 52 9 1 [zI, zI, zI, zB, zB, zI, zI, zI, zS] [(0, (xr 17))]) 18 (.alt (xm (.bsl 22 1 0 [zS] []) 15 (.op .m (.sto (xr 6) (xr 14) 7) none none (xpM 15 7 (xpM 18 8 .done)))) (.op .m (.sto (xr 6) (xr 14) 7) none none (xm (.bsl 22 1 0 [zS] []) 15 (xpM 15 7 (xpM 18 8 .done)))))) (.op .m (.sto (xr 6) (xr 14) 7) none none (.alt (xm (.bsl 22 1 0 [zS] []) 15 (xpM 15 7 (xm (.bsl 52 9 1 [zI, zI, zI, zB, zB, zI, zI, zI, zS] [(0, (xr 17))]) 18 (xpM 18 8 .done)))) (xm (.bsl 52 9 1 [zI, zI, zI, zB, zB, zI, zI, zI, zS] [(0, (xr 17))]) 18 (xm (.bsl 22 1 0 [zS] []) 15 (xpM 15 7 (xpM 18 8 .done))))))))))))) .ret) .skip)) (xR (xtF 4 0 19 (xtO 19 20 (xtF 5 1 21 (xtO 21 22 (xt (.call 180 [xr 20, xr 22]) 23 (xtM 23 9 .done)))))) (.seq (xR (xtM 9 24 (xt (.bin .eql (xr 24) (xi 0)) 25 .done)) (.cond (xr 25) (xR (xtA 3 5 27 (xtA 4 7 28 (xtA 5 9 29 (xt (.call 181 [xr 27, xr 28, xr 29]) 30 (xtM 30 26 (xtE 26 0 31 (xtE 26 1 32 (xt (.alc 42 [zI, zI, zI, zS, zB, zB, zB]) 10 (xS 10 31 7 (xtM 32 11 .done)))))))))) (xR (xtA 10 7 33 (xtM 11 34 (xt (.bsl 52 9 0 [zI, zI, zI, zB, zB, zI, zI, zI, zS] []) 35 (xS 6 33 7 (xtM 34 7 (xtM 35 8 .done)))))) .ret)) .skip)) (.seq (xR (xtM 9 36 (xtF 3 1 37 (xtO 37 38 (xt (.bin .lss (xr 36) (xr 38)) 39 (xtM 39 40 (xG (.fad (xr 4) 4) 41 40 true (xG (.ld (xr 41) 1 false) 42 40 true (xG (.not (xr 42)) 43 40 true (xt (.pick (xr 40) (xr 43) (xb false)) 44 .done))))))))) (.cond (xr 44) (xR (xtF 4 4 45 (.op .t (.sto (xr 45) (xb true) 1) none none .done)) (.seq (.join [6] (xlA 4 7 46 (xpF 4 0 48 (xlO 48 49 (xp (.bld [zI, zI, zI, zB, zB, zI, zI, zI, zS] [(0, (1, (xi 2))), (2, (1, (xr 49))), (5, (1, (xi 1)))]) 50 (.alt (xm (.bsl 22 1 0 [zS] []) 47 (.alt (xm (.bsl 52 9 1 [zI, zI, zI, zB, zB, zI, zI, zI, zS] [(0, (xr 50))]) 51 (.op .m (.sto (xr 6) (xr 46) 7) none none (xpM 47 7 (xpM 51 8 .done)))) (.op .m (.sto (xr 6) (xr 46) 7) none none (xpM 47 7 (xm (.bsl 52 9 1 [zI, zI, zI, zB, zB, zI, zI, zI, zS] [(0, (xr 50))]) 51 (xpM 51 8 .done)))))) (.alt (xm (.bsl 52 9 1 [zI, zI, zI, zB, zB, zI, zI, zI, zS] [(0, (xr 50))]) 51 (.alt (xm (.bsl 22 1 0 [zS] []) 47 (.op .m (.sto (xr 6) (xr 46) 7) none none (xpM 47 7 (xpM 51 8 .done)))) (.op .m (.sto (xr 6) (xr 46) 7) none none (xm (.bsl 22 1 0 [zS] []) 47 (xpM 47 7 (xpM 51 8 .done)))))) (.op .m (.sto (xr 6) (xr 46) 7) none none (.alt (xm (.bsl 22 1 0 [zS] []) 47 (xpM 47 7 (xm (.bsl 52 9 1 [zI, zI, zI, zB, zB, zI, zI, zI, zS] [(0, (xr 50))]) 51 (xpM 51 8 .done)))) (xm (.bsl 52 9 1 [zI, zI, zI, zB, zB, zI, zI, zI, zS] [(0, (xr 50))]) 51 (xm (.bsl 22 1 0 [zS] []) 47 (xpM 47 7 (xpM 51 8 .done))))))))))))) .ret)) .skip)) (xR (xtA 4 7 52 (xt (.bsl 22 1 0 [zS] []) 53 (xt (.bsl 52 9 0 [zI, zI, zI, zB, zB, zI, zI, zI, zS] []) 54 (xS 6 52 7 (xtM 53 7 (xtM 54 8 .done)))))) .ret))))))
theorem ic178_ok : Tryz.f178.body.bind (trC Tryz.prog []) = some ic178 := by kernel_rfl
def fr178 : List FR := [(FR.c 6 7 true), (FR.t 7), (FR.t 8)]
theorem fr178_ok : fres Tryz.prog Tryz.f178.results.toList = some fr178 := by kernel_rfl
def ic172 : IC := (xR (xt (.box 24 (xr 0)) 3 (xt (.box 42 (xr 1)) 4 (xt (.box 52 (xr 2)) 5 (xt (.alc 42 [zI, zI, zI, zS, zB, zB, zB]) 6 (xt (.mv (.const zS)) 7 (xt (.mv (.const zS)) 8 .done)))))) (.seq (xR (xtF 4 6 9 (xtO 9 10 .done)) (.cond (xr 10) (xR (xtA 4 7 11 (xt (.bsl 22 1 0 [zS] []) 12 (xt (.bsl 52 9 0 [zI, zI, zI, zB, zB, zI, zI, zI, zS] []) 13 (xS 6 11 7 (xtM 12 7 (xtM 13 8 .done)))))) .ret) .skip)) (.seq (xR (xtF 5 0 14 (xtO 14 15 (xt (.bin .eql (xr 15) (xi 1)) 16 .done))) (.cond (xr 16) (xR (xtA 3 5 17 (xtA 4 7 18 (xtA 5 9 19 (xt (.call 178 [xr 17, xr 18, xr 19]) 20 (xtE 20 0 21 (xtE 20 1 22 (xtE 20 2 23 (xS 6 21 7 (xtM 22 7 (xtM 23 8 .done)))))))))) .ret) .skip)) (.seq (xR (xtF 5 3 24 (xtO 24 25 .done)) (.cond (xr 25) (xR (xtF 4 4 26 (.op .t (.sto (xr 26) (xb false) 1) none none .done)) (.seq (.join [6] (xlA 4 7 27 (xlA 4 7 29 (.alt (xm (.bsl 22 1 0 [zS] []) 28 (xm (.call 123 [xr 29, (xb true)]) 30 (.alt (xm (.bsl 52 9 1 [zI, zI, zI, zB, zB, zI, zI, zI, zS] [(0, (xr 30))]) 31 (.op .m (.sto (xr 6) (xr 27) 7) none none (xpM 28 7 (xpM 31 8 .done)))) (.op .m (.sto (xr 6) (xr 27) 7) none none (xpM 28 7 (xm (.bsl 52 9 1 [zI, zI, zI, zB, zB, zI, zI, zI, zS] [(0, (xr 30))]) 31 (xpM 31 8 .done))))))) (xm (.call 123 [xr 29, (xb true)]) 30 (.alt (xm (.bsl 22 1 0 [zS] []) 28 (.alt (xm (.bsl 52 9 1 [zI, zI, zI, zB, zB, zI, zI, zI, zS] [(0, (xr 30))]) 31 (.op .m (.sto (xr 6) (xr 27) 7) none none (xpM 28 7 (xpM 31 8 .done)))) (.op .m (.sto (xr 6) (xr 27) 7) none none (xpM 28 7 (xm (.bsl 52 9 1 [zI, zI, zI, zB, zB, zI, zI, zI, zS] [(0, (xr 30))]) 31 (xpM 31 8 .done)))))) (.alt (xm (.bsl 52 9 1 [zI, zI, zI, zB, zB, zI, zI, zI, zS] [(0, (xr 30))]) 31 (.alt (xm (.bsl 22 1 0 [zS] []) 28 (.op .m (.sto (xr 6) (xr 27) 7) none none (xpM 28 7 (xpM 31 8 .done)))) (.op .m (.sto (xr 6) (xr 27) 7) none none (xm (.bsl 22 1 0 [zS] []) 28 (xpM 28 7 (xpM 31 8 .done)))))) (.op .m (.sto (xr 6) (xr 27) 7) none none (.alt (xm (.bsl 22 1 0 [zS] []) 28 (xpM 28 7 (xm (.bsl 52 9 1 [zI, zI, zI, zB, zB, zI, zI, zI, zS] [(0, (xr 30))]) 31 (xpM 31 8 .done)))) (xm (.bsl 52 9 1 [zI, zI, zI, zB, zB, zI, zI, zI, zS] [(0, (xr 30))]) 31 (xm (.bsl 22 1 0 [zS] []) 28 (xpM 28 7 (xpM 31 8 .done))))))))))))) .ret)) .skip)) (xR (xtA 4 7 32 (xt (.bsl 22 1 0 [zS] []) 33 (xt (.bsl 52 9 0 [zI, zI, zI, zB, zB, zI, zI, zI, zS] []) 34 (xS 6 32 7 (xtM 33 7 (xtM 34 8 .done)))))) .ret)))))
theorem ic172_ok : Tryz.f172.body.bind (trC Tryz.prog []) = some ic172 := by kernel_rfl
def fr172 : List FR := [(FR.c 6 7 true), (FR.t 7), (FR.t 8)]
theorem fr172_ok : fres Tryz.prog Tryz.f172.results.toList = some fr172 := by kernel_rfl
def ic152 : IC := (xR (xt (.box 42 (xr 0)) 1 (xt (.mv (xb false)) 2 .done)) (xR (xpF 1 0 3 (xlO 3 4 (xm (.call 84 [xr 4, (xi 0), (xi 7)]) 5 (xpM 5 6 (.op .p (.fad (xr 1) 1) (some 7) (some (6, true)) (.op .l (.ld (xr 7) 1 false) (some 8) (some (6, true)) (.op .m (.call 84 [xr 8, (xi 0), (xi 9999)]) (some 9) (some (6, true)) (xp (.pick (xr 6) (xr 9) (xb false)) 10 (xpM 10 11 (.op .p (.fad (xr 1) 1) (some 12) (some (11, true)) (.op .l (.ld (xr 12) 1 false) (some 13) (some (11, true)) (.op .p (.fad (xr 1) 0) (some 15) (some (11, true)) (.op .l (.ld (xr 15) 1 false) (some 16) (some (11, true)) (.op .m (.call 169 [xr 13]) (some 14) (some (11, true)) (.op .p (.bin .eql (xr 14) (xr 16)) (some 17) (some (11, true)) (xp (.pick (xr 11) (xr 17) (xb false)) 18 (xpM 18 19 (.op .p (.fad (xr 1) 2) (some 20) (some (19, true)) (.op .l (.ld (xr 20) 2 true) (some 21) (some (19, true)) (.op .m (.call 170 [xr 21]) (some 22) (some (19, true)) (xp (.pick (xr 19) (xr 22) (xb false)) 23 (xpM 23 2 .done)))))))))))))))))))))) .ret))
theorem ic152_ok : Tryz.f152.body.bind (trC Tryz.prog []) = some ic152 := by kernel_rfl
def fr152 : List FR := [(FR.t 2)]
theorem fr152_ok : fres Tryz.prog Tryz.f152.results.toList = some fr152 := by kernel_rfl
def ic121 : IC := (xR (xt (.box 42 (xr 0)) 2 (xt (.alc 42 [zI, zI, zI, zS, zB, zB, zB]) 4 (xt (.mv (.const zS)) 5 .done))) (.seq (xR (xtA 2 7 7 (xt (.call 152 [xr 7]) 8 (xtT 8 9 .done))) (.cond (xr 9) (xR (xt (.bld [zI, zI, zI, zS, zB, zB, zB] []) 10 (xt (.bsl 52 9 0 [zI, zI, zI, zB, zB, zI, zI, zI, zS] []) 11 (xS 4 10 7 (xtM 11 5 .done)))) .ret) .skip)) (xR (xtA 2 7 12 (xt (.call 91 [xr 12]) 13 (xt (.alc 42 [zI, zI, zI, zS, zB, zB, zB]) 6 (xS 6 13 7 .done)))) (.seq (xR (xtF 2 5 14 (xtO 14 15 (xtM 1 16 (xt (.eqb false (xr 15) (xr 16)) 17 (xtM 17 18 (xG (.fad (xr 2) 6) 19 18 false (xG (.ld (xr 19) 1 false) 20 18 false (xt (.pick (xr 18) (xb true) (xr 20)) 21 .done)))))))) (.cond (xr 21) (xR (xtA 6 7 22 (xt (.bsl 52 9 0 [zI, zI, zI, zB, zB, zI, zI, zI, zS] []) 23 (xS 4 22 7 (xtM 23 5 .done)))) .ret) .skip)) (xR (xtM 1 24 (xtF 6 5 25 (xS 25 24 1 .done))) (xR (xtF 6 4 26 (.op .t (.sto (xr 26) (xb false) 1) none none .done)) (.seq (.join [4] (xlA 6 7 27 (xlA 6 7 28 (xm (.call 123 [xr 28, (xb false)]) 29 (.alt (xm (.bsl 52 9 1 [zI, zI, zI, zB, zB, zI, zI, zI, zS] [(0, (xr 29))]) 30 (.op .m (.sto (xr 4) (xr 27) 7) none none (xpM 30 5 .done))) (.op .m (.sto (xr 4) (xr 27) 7) none none (xm (.bsl 52 9 1 [zI, zI, zI, zB, zB, zI, zI, zI, zS] [(0, (xr 29))]) 30 (xpM 30 5 .done)))))))) .ret)))))))
theorem ic121_ok : Tryz.f121.body.bind (trC Tryz.prog []) = some ic121 := by kernel_rfl
def fr121 : List FR := [(FR.c 4 7 true), (FR.t 5)]
theorem fr121_ok : fres Tryz.prog Tryz.f121.results.toList = some fr121 := by kernel_rfl
set_option maxHeartbeats 1000000
abbrev tyP : Nat := 63
theorem l6frame (p : Part) (v : Value) (seq ack : Int) (z : Zc) (h : By z p.data v) (hl : p.data.length ≤ 1000000000) : PSpec Tryz.prog 151 [vPart p v, .int .i64 seq, .int .i64 ack] z fun u z' => ∃ A k, u = vFrm (dataFrm p seq ack) (.slice A p.data.length k) ∧ By z' p.data (.slice A p.data.length k) := by
  obtain ⟨A, k, rfl, hk, hB, hr⟩ := h.form
  (refine pspec_enter Tryz.func151 ic151_ok fr151_ok Tryz.ntmps151 ?_; simp only [seval, go_sem, ic151, fr151])
  refine gO ?_
  refine aT ?_; (refine appM_empty 99 atyB rfl (by first | exact .inl ⟨_, rfl⟩ | exact .inr ⟨_, _, rfl⟩) rfl hr (by first | omega | (simp <;> omega)) (bc_one _) (by omega) (fun A2 c2 z2 hz2 hc2 hr2 => ?_)); dsimp only at hz2; refine gO ?_
  (first|refine fN ?_|exact fZ)
  exact ⟨_, _, rfl, By.mk hc2 hB hr2⟩
theorem l6copy (t : Tx) (q1 q2 : Value) (z : Zc) (h1 : Sl pRep z t.flight q1) (h2 : Sl pRep z t.queue q2) (hl1 : t.flight.length ≤ 1000000) (hl2 : t.queue.length ≤ 1000000) (hp1 : ∀ p ∈ t.flight, p.data.length ≤ 1000000000) (hp2 : ∀ p ∈ t.queue, p.data.length ≤ 1000000000) :
    Spec Tryz.prog 90 [vTx t q1 q2] z emp fun u z' A' => ∃ A c B d cs ds, u = vTx t (.slice A t.flight.length c) (.slice B t.queue.length d) ∧ A' = starL [rowA tyP 3 (.slice A t.flight.length c) t.flight.length cs, rowA tyP 3 (.slice B t.queue.length d) t.queue.length ds] ∧ t.flight.length ≤ c ∧ t.queue.length ≤ d ∧ Els pRep z' t.flight cs ∧ Els pRep z' t.queue ds := by
  obtain ⟨A, k, cs, rfl, hk, he, hr⟩ := h1
  obtain ⟨A2, k2, cs2, rfl, hk2, he2, hr2⟩ := h2
  (refine spec_enter0 Tryz.func90 ic90_ok fr90_ok Tryz.ntmps90 ?_; simp only [seval, go_sem, ic90, fr90])
  refine gO ?_
  refine tT ?_; refine callO 90 (l6list_s t.flight _ z ⟨A, k, cs, rfl, hk, he, hr⟩ hl1 hp1) rfl rfl rfl ?_; rintro u z1 A' hz1 ⟨A3, k3, cs3, rfl, rfl, hk3, he3⟩; refine gO ?_
  refine tT ?_; refine callO 91 (l6list_s t.queue _ z1 (Sl.mono hz1 ⟨A2, k2, cs2, rfl, hk2, he2, hr2⟩) hl2 hp2) rfl rfl rfl ?_; rintro u z2 A' hz2 ⟨A4, k4, cs4, rfl, rfl, hk4, he4⟩; refine gO ?_
  (refine FinV.pk 92 [90, 91] ?_); dsimp only
  (((try simp only [seval, go_sem]);repeat((with_reducible first|refine vJ ?_|refine vK ?_);try simp only [seval, go_sem])); refine FinV.own 92 rfl ?_; simp only [finE, finS, gt, look, SV.toV, SC.toV, allV, tupV, zq1, zq2, zq3, zq4, Nat.reduceAdd, Nat.reduceEqDiff, reduceCtorEq, if_true, if_false, reduceIte, Nat.succ_ne_self, true_and, zq5, zq7, zq8])
  exact ⟨_, _, _, _, _, _, rfl, rfl, hk3, hk4, he3.mono hz2, he4⟩
theorem txTick_none {c : Cfg} {t : Tx} {ack : Int} {busy : Bool} (h : t.dead = true ∨ (t.flight = [] ∧ t.held = false ∧ t.asks = false)) : txTick c t ack busy = (t, none) := by unfold txTick; rw [if_pos h]
theorem txTick_end {c : Cfg} {t : Tx} {ack : Int} {busy : Bool} (h : ¬ (t.dead = true ∨ (t.flight = [] ∧ t.held = false ∧ t.asks = false))) (k : t.tries = c.tri) : txTick c t ack busy = ({ t with dead := true }, none) := by unfold txTick; rw [if_neg h, if_pos k]
theorem txTick_yes {c : Cfg} {t : Tx} {ack : Int} {busy : Bool} (h : ¬ (t.dead = true ∨ (t.flight = [] ∧ t.held = false ∧ t.asks = false))) (k : t.tries ≠ c.tri) : txTick c t ack busy = ({ t with asks := true, tries := t.tries + 1 }, some (sayFrm ack true false (goWait busy))) := by unfold txTick; rw [if_neg h, if_neg k]
theorem wait_bit (b : Bool) : IntKind.i64.wrap (2 * bit b) = goWait b := by cases b <;> rfl
theorem l6tick (c : Cfg) (t : Tx) (A B : Option Addr) (m a b : Nat) (ack : Int) (busy : Bool) (z : Zc) (ht : -1000000 ≤ t.tries ∧ t.tries ≤ 1000000) :
    PSpec Tryz.prog 120 [vCfg c, vTx t (.slice A t.flight.length a) (.slice B m b), .int .i64 ack, .bool busy] z fun u z' => ∃ x, u = .tuple #[vTx (txTick c t ack busy).1 (.slice A t.flight.length a) (.slice B m b), vFrm ((txTick c t ack busy).2.getD frm0) x, .bool (txTick c t ack busy).2.isSome] ∧ By z' ((txTick c t ack busy).2.getD frm0).data x := by
  (refine pspec_enter Tryz.func120 ic120_ok fr120_ok Tryz.ntmps120 ?_; simp only [seval, go_sem, ic120, fr120])
  (try simp only [seval, go_sem]); repeat' (first | (with_reducible refine vsI.id ?_; (try simp only [seval, go_sem])) | (with_reducible refine vcI_cond ?_; (try simp only [seval, go_sem])) | (with_reducible refine guardR.split (fun hg => ?_) (fun hg => ?_) <;> (try simp only [hg]) <;> simp only [seval, go_sem]) | (with_reducible refine condI.split (fun hg => ?_) (fun hg => ?_) <;> (try simp only [hg]) <;> (try simp only [seval, go_sem])) | (with_reducible refine callM.toT ?_) | (refine callP (bit_s _ _) rfl rfl ?_; rintro _ _ - ⟨rfl, rfl⟩; (try simp only [seval, go_sem])))
  all_goals (first|refine fN ?_|exact fZ)
  all_goals have w1 : IntKind.i64.wrap (t.tries + 1) = t.tries + 1 := wrap_in (by omega) (by omega)
  all_goals first
    | (rw [txTick_none (by simp_all)]; refine ⟨.slice none 0 0, ?_, Sl.nil _ _ _⟩; simp_all [vTx, vFrm, frm0]; done)
    | (rw [txTick_end (by simp_all) (by simp_all)]; refine ⟨.slice none 0 0, ?_, Sl.nil _ _ _⟩; simp_all [vTx, vFrm, frm0]; done)
    | (rw [txTick_yes (by simp_all) (by simp_all)]; refine ⟨.slice none 0 0, ?_, Sl.nil _ _ _⟩; simp_all [vTx, vFrm, sayFrm, wait_bit]; done)
theorem txPut_same {c : Cfg} {t : Tx} {sdu : List Int} (k : t.dead = true ∨ (sdu.length : Int) > c.mtu ∨ t.queue.length + (segCut sdu c.mps).length > 24) : txPut c t sdu = (t, false) := by
  unfold txPut
  split
  · rfl
  · rw [if_pos (by rename_i g; simp only [not_or] at g; rcases k with k | k | k; exact absurd k g.1; exact absurd k g.2; exact k)]
theorem txPut_good {c : Cfg} {t : Tx} {sdu : List Int} (h1 : t.dead = false) (h2 : (sdu.length : Int) ≤ c.mtu) (h3 : t.queue.length + (segCut sdu c.mps).length ≤ 24) : txPut c t sdu = ({ t with queue := t.queue ++ segCut sdu c.mps }, true) := by
  unfold txPut
  rw [if_neg (by simp [h1]; omega), if_neg (by omega)]
theorem l6put (c : Cfg) (t : Tx) (sdu : List Int) (A B : Option Addr) (a b : Nat) (ds : List Value) (v : Value) (z : Zc) (hv : By z sdu v) (hs : sdu.length ≤ 100000) (hc : -100000 ≤ c.mps ∧ c.mps ≤ 100000) (hq : t.queue.length ≤ 1000000) (hd : Els pRep z t.queue ds) (hb : t.queue.length ≤ b) :
    Spec Tryz.prog 115 [vCfg c, vTx t (.slice A t.flight.length a) (.slice B t.queue.length b), v] z (rowA tyP 3 (.slice B t.queue.length b) t.queue.length ds) fun u z' A' => ∃ B' b' ds', u = .tuple #[vTx (txPut c t sdu).1 (.slice A t.flight.length a) (.slice B' (txPut c t sdu).1.queue.length b'), .bool (txPut c t sdu).2] ∧ A' = rowA tyP 3 (.slice B' (txPut c t sdu).1.queue.length b') (txPut c t sdu).1.queue.length ds' ∧ (txPut c t sdu).1.queue.length ≤ b' ∧ Els pRep z' (txPut c t sdu).1.queue ds' := by
  obtain ⟨Av, kv, rfl, hkv, hBv, hrv⟩ := hv.form
  (refine spec_enter1 Tryz.func115 ic115_ok fr115_ok Tryz.ntmps115 ?_; simp only [seval, go_sem, ic115, fr115])
  refine gO ?_
  refine tT ?_; refine callP (segCut_s sdu c.mps _ z hv hs (by omega)) rfl rfl ?_; rintro u z3 hz3 ⟨A3, k3, cs3, rfl, hk3, he3, hr3⟩; refine gO ?_
  have h24 := segCut_length sdu c.mps
  have w1 : IntKind.i64.wrap ((t.queue.length : Int) + ((segCut sdu c.mps).length : Int)) = ((t.queue.length + (segCut sdu c.mps).length : Nat) : Int) := by rw [wrap_in (by omega) (by omega)]; omega
  (try simp only [seval, go_sem]); repeat' (first | (with_reducible refine vsI.id ?_; (try simp only [seval, go_sem])) | (with_reducible refine vcI_cond ?_; (try simp only [seval, go_sem])) | (with_reducible refine guardR.split (fun hg => ?_) (fun hg => ?_) <;> (try simp only [hg]) <;> simp only [seval, go_sem]) | (with_reducible refine condI.split (fun hg => ?_) (fun hg => ?_) <;> (try simp only [hg]) <;> (try simp only [seval, go_sem])) | (with_reducible refine callM.toT ?_))
  · refine fQ ?_
    rw [txPut_same (.inl hg)]
    exact ⟨_, _, _, by simp only [vTx, hg], rfl, hb, hd.mono hz3⟩
  · refine fQ ?_
    rw [txPut_same (.inr (.inl (by simpa using hg)))]
    rename_i hdead
    exact ⟨_, _, _, by simp only [vTx, hdead], rfl, hb, hd.mono hz3⟩
  · refine fQ ?_
    rw [w1] at hg
    rw [txPut_same (.inr (.inr (by simp at hg; omega)))]
    rename_i hdead _
    exact ⟨_, _, _, by simp only [vTx, hdead], rfl, hb, hd.mono hz3⟩
  · rw [w1] at hg
    rename_i hdead hmtu
    have hl3 : cs3.length = (segCut sdu c.mps).length * 3 := he3.length
    refine aT ?_; (refine appM_rowF 1000 atyP rfl rfl rfl rfl hr3 (by first | omega | simp) (he3.one) (by omega) (fun A5 c5 hc5 => ?_)); refine gO ?_
    refine fQ ?_
    rw [txPut_good hdead (by simpa using hmtu) (by simp at hg; omega)]
    exact ⟨A5, c5, _, by simp only [vTx, hdead, List.length_append], by rw [List.length_append], by rw [List.length_append]; exact hc5, (hd.mono hz3).append he3⟩
theorem Sl.of_drop {α : Type} {d : Rep α} {z : Zc} {xs : List α} {A : Option Addr} {c : Nat} (h : Sl d z xs (.slice A xs.length c)) (k : Nat) : Sl d z (xs.drop k) (.slice (cutA A c k d.sz) (xs.length - k) (c - k)) := h.drop (k := k)
def txAcked (t : Tx) (ack : Int) : Tx := if far t.acked ack > t.flight.length then { t with dead := true } else { t with flight := t.flight.drop (far t.acked ack).toNat, acked := ack, count := t.count + far t.acked ack, sent := max 0 (t.sent - far t.acked ack) }
theorem l6acked (t : Tx) (ack : Int) (A B : Option Addr) (m a b : Nat) (cs : List Value) (z : Zc) (hk : 0 ≤ t.acked ∧ t.acked ≤ 7) (hk2 : 0 ≤ ack ∧ ack ≤ 7) (hs : 0 ≤ t.sent ∧ t.sent ≤ 1000) (hn : 0 ≤ t.count ∧ t.count ≤ 1000000) (hf : t.flight.length ≤ 1000) (hp : ∀ p ∈ t.flight, p.data.length ≤ 1000000000) (he : Els pRep z t.flight cs) (ha : t.flight.length ≤ a) :
    Spec Tryz.prog 177 [vTx t (.slice A t.flight.length a) (.slice B m b), .int .i64 ack] z (rowA tyP 3 (.slice A t.flight.length a) t.flight.length cs) fun u z' A' => ∃ A2 a2 cs2, u = vTx (txAcked t ack) (.slice A2 (txAcked t ack).flight.length a2) (.slice B m b) ∧ A' = rowA tyP 3 (.slice A2 (txAcked t ack).flight.length a2) (txAcked t ack).flight.length cs2 ∧ (txAcked t ack).flight.length ≤ a2 ∧ Els pRep z' (txAcked t ack).flight cs2 := by
  (refine spec_enter1 Tryz.func177 ic177_ok fr177_ok Tryz.ntmps177 ?_; simp only [seval, go_sem, ic177, fr177])
  have hnf : numFar t.acked ack = far t.acked ack := by unfold numFar isNum; rw [if_pos (by simp [inB_iff]; omega)]
  have hfl := far_lt t.acked ack
  refine gO ?_
  refine tT ?_; refine callP (numfar_s t.acked ack z) rfl rfl ?_; rintro _ _ - ⟨rfl, rfl⟩; refine gO ?_
  rw [hnf]
  (with_reducible refine condI.split (fun hg => ?_) (fun hg => ?_) <;> (try simp only [hg]) <;> (try simp only [seval, go_sem]))
  · refine gO ?_
    refine fQ ?_
    rw [show txAcked t ack = { t with dead := true } by unfold txAcked; rw [if_pos (by simpa using hg)]]
    exact ⟨_, _, _, rfl, rfl, ha, he⟩
  · obtain ⟨k, hk'⟩ := Int.eq_ofNat_of_zero_le hfl.1
    have hkn : k ≤ t.flight.length := by simp [hk'] at hg; omega
    rw [show txAcked t ack = { t with flight := t.flight.drop k, acked := ack, count := t.count + k, sent := max 0 (t.sent - k) } by unfold txAcked; rw [if_neg (by rw [hk']; omega), hk']; rfl]
    simp only [hk']
    (refine vsI.frzR 1000 rfl rfl (fun A4 c4 z4 hv4 hc4 hz4 hr4 => ?_)); (first | subst hv4 | (injection hv4 with hv_1 hv_2 hv_3; subst hv_1; subst hv_3)); refine gO ?_
    refine ⟨by omega, ?_⟩; refine gO ?_
    have hdr := Sl.of_drop (⟨A, a, _, rfl, ha, he.mono hz4, hr4⟩ : Sl pRep z4 t.flight (.slice A t.flight.length a)) k
    have hdl : (t.flight.drop k).length = t.flight.length - k := by simp
    refine tT ?_; refine callO 90 (l6list_s (t.flight.drop k) _ z4 hdr (by omega) (fun p hp' => hp p (List.mem_of_mem_drop hp'))) rfl rfl rfl ?_; rintro u z5 A' hz5 ⟨A5, k5, cs5, rfl, rfl, hk5, he5⟩; refine gO ?_
    (((try simp only [seval, go_sem]);repeat((with_reducible first|refine vJ ?_|refine vK ?_);try simp only [seval, go_sem])); refine FinV.own 90 rfl ?_; simp only [finE, finS, gt, look, SV.toV, SC.toV, allV, tupV, zq1, zq2, zq3, zq4, Nat.reduceAdd, Nat.reduceEqDiff, reduceCtorEq, if_true, if_false, reduceIte, Nat.succ_ne_self, true_and, zq5, zq7, zq8])
    have w1 : IntKind.i64.wrap (t.sent - (k : Int)) = t.sent - k := wrap_in (by omega) (by omega)
    have w2 : IntKind.i64.wrap (t.count + (k : Int)) = t.count + k := wrap_in (by omega) (by omega)
    have w3 : (if t.sent - (k : Int) > 0 then t.sent - (k : Int) else 0) = max 0 (t.sent - k) := by split <;> omega
    simp only [w1, w2]
    refine ⟨A5, k5, cs5, ?_, rfl, hk5, he5⟩
    simp only [vTx, ← w3]
theorem txHear_dead {t : Tx} {f : Frm} (h : t.dead = true) : txHear t f = t := by unfold txHear; rw [if_pos h]
theorem txHear_end {t : Tx} {f : Frm} (h : t.dead = false) (k : far t.acked f.ack > t.flight.length) : txHear t f = { t with dead := true } := by unfold txHear; rw [if_neg (by simp [h]), if_pos k]
theorem txHear_go {t : Tx} {f : Frm} (h : t.dead = false) (k : ¬ far t.acked f.ack > t.flight.length) : txHear t f = ⟨t.next, f.ack, t.flight.drop (far t.acked f.ack).toNat, if f.fin && t.asks then 0 else if f.kind = 2 ∧ f.say = 1 ∧ t.asks = false then 0 else max 0 (t.sent - far t.acked f.ack), t.queue, t.asks && !f.fin, if f.fin && t.asks then 0 else t.tries, if f.kind = 2 then decide (f.say = 2) else t.held, t.count + far t.acked f.ack, false⟩ := by
  unfold txHear; rw [if_neg (by simp [h]), if_neg k]; simp only [h]
theorem txAcked_go {t : Tx} {ack : Int} (h : t.dead = false) (k : ¬ far t.acked ack > t.flight.length) : txAcked t ack = ⟨t.next, ack, t.flight.drop (far t.acked ack).toNat, max 0 (t.sent - far t.acked ack), t.queue, t.asks, t.tries, t.held, t.count + far t.acked ack, false⟩ := by
  unfold txAcked; rw [if_neg k]; simp only [h]
theorem txAcked_end {t : Tx} {ack : Int} (k : far t.acked ack > t.flight.length) : txAcked t ack = { t with dead := true } := by unfold txAcked; rw [if_pos k]
theorem l6hear (t : Tx) (f : Frm) (A B : Option Addr) (m a b : Nat) (cs : List Value) (x : Value) (z : Zc) (hx : By z f.data x) (hk : 0 ≤ t.acked ∧ t.acked ≤ 7) (hk2 : 0 ≤ f.ack ∧ f.ack ≤ 7) (hs : 0 ≤ t.sent ∧ t.sent ≤ 1000) (hn : 0 ≤ t.count ∧ t.count ≤ 1000000) (hf : t.flight.length ≤ 1000) (hp : ∀ p ∈ t.flight, p.data.length ≤ 1000000000) (he : Els pRep z t.flight cs) (ha : t.flight.length ≤ a) :
    Spec Tryz.prog 171 [vTx t (.slice A t.flight.length a) (.slice B m b), vFrm f x] z (rowA tyP 3 (.slice A t.flight.length a) t.flight.length cs) fun u z' A' => ∃ A2 a2 cs2, u = vTx (txHear t f) (.slice A2 (txHear t f).flight.length a2) (.slice B m b) ∧ A' = rowA tyP 3 (.slice A2 (txHear t f).flight.length a2) (txHear t f).flight.length cs2 ∧ (txHear t f).flight.length ≤ a2 ∧ Els pRep z' (txHear t f).flight cs2 := by
  obtain ⟨Ax, kx, rfl, hkx, hBx, hrx⟩ := hx.form
  obtain ⟨next, acked, flight, sent, queue, asks, tries, held, count, dead⟩ := t
  dsimp only at *
  (refine spec_enter1 Tryz.func171 ic171_ok fr171_ok Tryz.ntmps171 ?_; simp only [seval, go_sem, ic171, fr171])
  refine gO ?_
  cases dead with
  | true =>
    simp only [seval, go_sem]
    refine gO ?_
    refine fQ ?_
    rw [txHear_dead rfl]
    exact ⟨_, _, _, rfl, rfl, ha, he⟩
  | false =>
    simp only [seval, go_sem]
    refine gO ?_
    have hc := l6acked ⟨next, acked, flight, sent, queue, asks, tries, held, count, false⟩ f.ack A B m a b cs z hk hk2 hs hn hf hp he ha
    by_cases hfar : far acked f.ack > flight.length
    · rw [txAcked_end hfar] at hc
      refine tT ?_; refine callW 1000 (hc) rfl rfl rfl rfl ?_; rintro u z1 A' hz1 ⟨A2, a2, cs2, rfl, rfl, ha2, he2⟩; refine gO ?_
      refine fQ ?_
      rw [txHear_end rfl hfar]
      exact ⟨_, _, _, rfl, rfl, ha2, he2⟩
    · rw [txAcked_go rfl hfar] at hc
      rw [txHear_go rfl hfar]
      refine tT ?_; refine callW 1000 (hc) rfl rfl rfl rfl ?_; rintro u z1 A' hz1 ⟨A2, a2, cs2, rfl, rfl, ha2, he2⟩; refine gO ?_
      (try simp only [seval, go_sem]); repeat' (first | (with_reducible refine vsI.id ?_; (try simp only [seval, go_sem])) | (with_reducible refine vcI_cond ?_; (try simp only [seval, go_sem])) | (with_reducible refine guardR.split (fun hg => ?_) (fun hg => ?_) <;> (try simp only [hg]) <;> simp only [seval, go_sem]) | (with_reducible refine condI.split (fun hg => ?_) (fun hg => ?_) <;> (try simp only [hg]) <;> (try simp only [seval, go_sem])) | (with_reducible refine callM.toT ?_))
      all_goals refine fQ ?_
      all_goals refine ⟨A2, a2, cs2, ?_, rfl, ha2, he2⟩
      all_goals clear hc hx hrx he he2 hp
      all_goals simp only [vTx]
      all_goals simp_all
      all_goals rfl
theorem l7say (r : Rx) (q : Value) (fin : Bool) (z : Zc) (h : By z r.join.got q) : PSpec Tryz.prog 123 [vRx r q, .bool fin] z fun u z' => u = vFrm (sayFrm r.expect false fin (goWait r.busy)) (.slice none 0 0) ∧ z = z' := by
  obtain ⟨A, k, rfl, hk, hB, hr⟩ := h.form
  (refine pspec_enter Tryz.func123 ic123_ok fr123_ok Tryz.ntmps123 ?_; simp only [seval, go_sem, ic123, fr123])
  refine gO ?_
  (with_reducible refine condI.split (fun hg => ?_) (fun hg => ?_) <;> (try simp only [hg]) <;> (try simp only [seval, go_sem]))
  · refine gO ?_
    (first|refine fN ?_|exact fZ)
    simp [sayFrm, goWait, hg]
  · refine gO ?_
    (first|refine fN ?_|exact fZ)
    simp [sayFrm, goWait, hg]
theorem l7copy (r : Rx) (q : Value) (z : Zc) (h : By z r.join.got q) (hl : r.join.got.length ≤ 1000000000) : PSpec Tryz.prog 91 [vRx r q] z fun u z' => ∃ A c, u = vRx r (.slice A r.join.got.length c) ∧ By z' r.join.got (.slice A r.join.got.length c) := by
  obtain ⟨A, k, rfl, hk, hB, hr⟩ := h.form
  (refine pspec_enter Tryz.func91 ic91_ok fr91_ok Tryz.ntmps91 ?_; simp only [seval, go_sem, ic91, fr91])
  refine gO ?_
  refine aT ?_; (refine appM_empty 99 atyB rfl (by first | exact .inl ⟨_, rfl⟩ | exact .inr ⟨_, _, rfl⟩) rfl hr (by first | omega | (simp <;> omega)) (bc_one _) (by omega) (fun A2 c2 z2 hz2 hc2 hr2 => ?_)); dsimp only at hz2; refine gO ?_
  (first|refine fN ?_|exact fZ)
  exact ⟨_, _, rfl, By.mk hc2 hB hr2⟩
theorem rxok_s (r : Rx) (A : Option Addr) (k : Nat) (z : Zc) (h : r.join.got.length ≤ 1000000000) (hj : -1000000000 ≤ r.join.len) : PSpec Tryz.prog 152 [vRx r (.slice A r.join.got.length k)] z fun u z' => u = .bool (rxOk r) ∧ z = z' := by
  (refine pspec_enter Tryz.func152 ic152_ok fr152_ok Tryz.ntmps152 ?_; simp only [seval, go_sem, ic152, fr152])
  (try simp only [seval, go_sem]); repeat' (first | (with_reducible refine vsI.id ?_; (try simp only [seval, go_sem])) | (with_reducible refine vcI_cond ?_; (try simp only [seval, go_sem])) | (with_reducible refine guardR.split (fun hg => ?_) (fun hg => ?_) <;> (try simp only [hg]) <;> simp only [seval, go_sem]) | (with_reducible refine condI.split (fun hg => ?_) (fun hg => ?_) <;> (try simp only [hg]) <;> (try simp only [seval, go_sem])) | (with_reducible refine callM.toT ?_) | (refine callP (in_s _ _ _ _) rfl rfl ?_; rintro _ _ - ⟨rfl, rfl⟩; (try simp only [seval, go_sem])) | (refine callP (joinok_s r.join A k _ h hj) rfl rfl ?_; rintro _ _ - ⟨rfl, rfl⟩; (try simp only [seval, go_sem])))
  all_goals (try (refine tT ?_; refine callP (numof_s r.count z (by simp only [inB_iff] at *; omega)) rfl rfl ?_; rintro _ _ - ⟨rfl, rfl⟩; (try simp only [seval, go_sem]); repeat' (first | (with_reducible refine vsI.id ?_; (try simp only [seval, go_sem])) | (with_reducible refine vcI_cond ?_; (try simp only [seval, go_sem])) | (with_reducible refine guardR.split (fun hg => ?_) (fun hg => ?_) <;> (try simp only [hg]) <;> simp only [seval, go_sem]) | (with_reducible refine condI.split (fun hg => ?_) (fun hg => ?_) <;> (try simp only [hg]) <;> (try simp only [seval, go_sem])) | (with_reducible refine callM.toT ?_) | (refine callP (joinok_s r.join A k _ h hj) rfl rfl ?_; rintro _ _ - ⟨rfl, rfl⟩; (try simp only [seval, go_sem]))))); refine gO ?_
  all_goals ((first|refine fN ?_|exact fZ); (try simp only [inB_iff, inB_no, isNum_iff, beq_iff_eq, decide_eq_true_eq, decide_eq_false_iff_not, beq_eq_false_iff_ne, bne_iff_ne, bne_eq_false_iff_eq, Bool.not_eq_true', Bool.not_eq_false', and_true] at *); (try simp (disch := omega) only [wrap_in, Int.tmod_eq_emod_of_nonneg] at *); (try simp only [and_true]); first | rfl | (simp_all [rxOk, isNum]; done) | (refine congrArg Value.bool (Bool.eq_iff_iff.2 ?_); simp [*, rxOk, isNum, inB_iff]; done) | (refine congrArg Value.bool (Bool.eq_iff_iff.2 ?_); simp [*, rxOk, isNum, inB_iff]; omega) | (simp_all [rxOk, isNum]; omega))
theorem rxTake_end {c : Cfg} {r : Rx} {f : Frm} (k : f.len > c.mtu ∨ (f.data.length : Int) > c.mps ∨ r.count = 9999) : rxTake c r f = ({ r with dead := true }, []) := by unfold rxTake; rw [if_pos k]
theorem rxTake_bad {c : Cfg} {r : Rx} {f : Frm} (k : ¬ (f.len > c.mtu ∨ (f.data.length : Int) > c.mps ∨ r.count = 9999)) (h : (segPut r.join ⟨f.seg, f.len, f.data⟩).2.2 = 3) : rxTake c r f = ({ r with join := (segPut r.join ⟨f.seg, f.len, f.data⟩).1, dead := true }, []) := by unfold rxTake; rw [if_neg k]; simp only; rw [if_pos h]
theorem rxTake_yes {c : Cfg} {r : Rx} {f : Frm} (k : ¬ (f.len > c.mtu ∨ (f.data.length : Int) > c.mps ∨ r.count = 9999)) (h : (segPut r.join ⟨f.seg, f.len, f.data⟩).2.2 ≠ 3) : rxTake c r f = ({ r with join := (segPut r.join ⟨f.seg, f.len, f.data⟩).1, expect := numNext r.expect, count := r.count + 1, again := false }, if (segPut r.join ⟨f.seg, f.len, f.data⟩).2.2 = 2 then [(segPut r.join ⟨f.seg, f.len, f.data⟩).2.1] else []) := by unfold rxTake; rw [if_neg k]; simp only; rw [if_neg h]
theorem l7take (c : Cfg) (r : Rx) (f : Frm) (q u : Value) (z : Zc) (hq : By z r.join.got q) (hu : By z f.data u) (hI : RxI r) (hp : pieceOk f.seg f.len f.data.length = true) :
    PSpec Tryz.prog 181 [vCfg c, vRx r q, vFrm f u] z fun v z' => ∃ A k B n b, v = .tuple #[vRx (rxTake c r f).1 (.slice A (rxTake c r f).1.join.got.length k), .slice B n b] ∧ By z' (rxTake c r f).1.join.got (.slice A (rxTake c r f).1.join.got.length k) ∧ Sl sduRep z' (rxTake c r f).2 (.slice B n b) := by
  obtain ⟨A, k, rfl, hk, hB, hr⟩ := hq.form
  obtain ⟨A2, k2, rfl, hk2, hB2, hr2⟩ := hu.form
  have hpb := pieceOk_bound hp
  have hj23 := hI.join.le
  have hjl : 0 ≤ r.join.len := by rcases hI.join with h | h <;> omega
  have hex := hI.expect
  have hct := hI.count
  have w1 : IntKind.i64.wrap (r.count + 1) = r.count + 1 := wrap_in (by omega) (by omega)
  (refine pspec_enter Tryz.func181 ic181_ok fr181_ok Tryz.ntmps181 ?_; simp only [seval, go_sem, ic181, fr181])
  (try simp only [seval, go_sem]); repeat' (first | (with_reducible refine vsI.id ?_; (try simp only [seval, go_sem])) | (with_reducible refine vcI_cond ?_; (try simp only [seval, go_sem])) | (with_reducible refine guardR.split (fun hg => ?_) (fun hg => ?_) <;> (try simp only [hg]) <;> simp only [seval, go_sem]) | (with_reducible refine condI.split (fun hg => ?_) (fun hg => ?_) <;> (try simp only [hg]) <;> (try simp only [seval, go_sem])) | (with_reducible refine callM.toT ?_))
  · (refine FinV.frz 5 rfl rfl (fun b4 z4 hz4 hr4 => ?_)); dsimp only at hz4; simp only [seval, go_sem, Go.Proofs.YtnkhjnieidlknaaGreat.frz, subV, subC, subE, subL]
    (first|refine fN ?_|exact fZ)
    rw [rxTake_end (.inl (by simpa using hg))]
    exact ⟨_, _, _, _, _, rfl, hq.mono hz4, Sl.nil _ _ _⟩
  · (refine FinV.frz 5 rfl rfl (fun b4 z4 hz4 hr4 => ?_)); dsimp only at hz4; simp only [seval, go_sem, Go.Proofs.YtnkhjnieidlknaaGreat.frz, subV, subC, subE, subL]
    (first|refine fN ?_|exact fZ)
    rw [rxTake_end (.inr (.inl (by simpa using hg)))]
    exact ⟨_, _, _, _, _, rfl, hq.mono hz4, Sl.nil _ _ _⟩
  · (refine FinV.frz 5 rfl rfl (fun b4 z4 hz4 hr4 => ?_)); dsimp only at hz4; simp only [seval, go_sem, Go.Proofs.YtnkhjnieidlknaaGreat.frz, subV, subC, subE, subL]
    (first|refine fN ?_|exact fZ)
    rw [rxTake_end (.inr (.inr (by simpa using hg)))]
    exact ⟨_, _, _, _, _, rfl, hq.mono hz4, Sl.nil _ _ _⟩
  · rename_i h0 h1
    have hno : ¬ (f.len > c.mtu ∨ (f.data.length : Int) > c.mps ∨ r.count = 9999) := by simp at h0 h1 hg; omega
    refine tT ?_; refine callP (puts r.join ⟨f.seg, f.len, f.data⟩ _ _ z hq hu (by omega) (by show f.data.length ≤ _; omega) hjl (by show 0 ≤ f.seg ∧ f.seg ≤ 3; omega)) rfl rfl ?_; rintro v z3 hz3 ⟨A4, k4, A5, k5, rfl, h4, h5⟩; refine gO ?_
    (with_reducible refine condI.split (fun hg => ?_) (fun hg => ?_) <;> (try simp only [hg]) <;> (try simp only [seval, go_sem]))
    · refine gO ?_
      (refine FinV.frz 6 rfl rfl (fun b4 z4 hz4 hr4 => ?_)); dsimp only at hz4; simp only [seval, go_sem, Go.Proofs.YtnkhjnieidlknaaGreat.frz, subV, subC, subE, subL]
      (first|refine fN ?_|exact fZ)
      rw [rxTake_bad hno (by simpa using hg)]
      exact ⟨_, _, _, _, _, rfl, h4.mono hz4, Sl.nil _ _ _⟩
    · have h3 : (segPut r.join ⟨f.seg, f.len, f.data⟩).2.2 ≠ 3 := by simpa using hg
      refine gO ?_
      refine tT ?_; refine callP (numnext_s r.expect z3 (by omega)) rfl rfl ?_; rintro _ _ - ⟨rfl, rfl⟩; refine gO ?_
      simp only [w1]
      (with_reducible refine condI.split (fun hg => ?_) (fun hg => ?_) <;> (try simp only [hg]) <;> (try simp only [seval, go_sem]))
      · refine gO ?_
        (refine FinV.frz 6 rfl rfl (fun b4 z4 hz4 hr4 => ?_)); dsimp only at hz4; simp only [seval, go_sem, Go.Proofs.YtnkhjnieidlknaaGreat.frz, subV, subC, subE, subL]
        (first|refine fN ?_|exact fZ)
        rw [rxTake_yes hno h3, if_pos (by simpa using hg)]
        exact ⟨_, _, _, _, _, rfl, h4.mono hz4, _, _, _, rfl, Nat.le_refl _, Els.single (d := sduRep) ⟨_, rfl, h5.mono hz4⟩, hr4⟩
      · refine gO ?_
        (refine FinV.frz 6 rfl rfl (fun b4 z4 hz4 hr4 => ?_)); dsimp only at hz4; simp only [seval, go_sem, Go.Proofs.YtnkhjnieidlknaaGreat.frz, subV, subC, subE, subL]
        (first|refine fN ?_|exact fZ)
        rw [rxTake_yes hno h3, if_neg (by simpa using hg)]
        exact ⟨_, _, _, _, _, rfl, h4.mono hz4, Sl.nil _ _ _⟩
def HearV (z : Zc) (x : Rx × List (List Int) × List Frm) (v : Value) : Prop := ∃ A k B n b D m d, v = .tuple #[vRx x.1 (.slice A x.1.join.got.length k), .slice B n b, .slice D m d] ∧ By z x.1.join.got (.slice A x.1.join.got.length k) ∧ Sl sduRep z x.2.1 (.slice B n b) ∧ Sl fRep z x.2.2 (.slice D m d)
def rxData (c : Cfg) (r : Rx) (f : Frm) : Rx × List (List Int) × List Frm :=
  if r.busy = true then (r, [], [sayFrm r.expect false false 2])
  else if f.seq = r.expect then ((rxTake c r f).1, (rxTake c r f).2, [])
  else if far r.expect f.seq < c.win ∧ r.again = false then ({ r with again := true }, [], [sayFrm r.expect false false 1])
  else (r, [], [])
theorem l7data (c : Cfg) (r : Rx) (f : Frm) (q u : Value) (z : Zc) (hq : By z r.join.got q) (hu : By z f.data u) (hI : RxI r) (hp : pieceOk f.seg f.len f.data.length = true) (hs : 0 ≤ f.seq ∧ f.seq ≤ 7) :
    PSpec Tryz.prog 178 [vCfg c, vRx r q, vFrm f u] z fun v z' => HearV z' (rxData c r f) v := by
  obtain ⟨A, k, rfl, hk, hB, hr⟩ := hq.form
  obtain ⟨A2, k2, rfl, hk2, hB2, hr2⟩ := hu.form
  have hex := hI.expect
  have hnf : numFar r.expect f.seq = far r.expect f.seq := by unfold numFar isNum; rw [if_pos (by simp [inB_iff]; omega)]
  have hfar : far r.expect f.seq = 0 ↔ f.seq = r.expect := by unfold far; omega
  obtain ⟨expect, count, join, again, busy, dead⟩ := r
  dsimp only at *
  (refine pspec_enter Tryz.func178 ic178_ok fr178_ok Tryz.ntmps178 ?_; simp only [seval, go_sem, ic178, fr178])
  refine gO ?_
  cases busy with
  | true =>
    simp only [seval, go_sem]
    refine gO ?_
    (with_reducible refine joinV.id ?_; simp only [seval, go_sem])
    ((try simp only [seval, go_sem]); repeat' (first | (refine And.intro ?_ ?_ <;> (try simp only [seval, go_sem])) | (with_reducible refine vsI.id ?_; (try simp only [seval, go_sem])) | (with_reducible refine callM.toT ?_) | (refine callP (l7say ⟨expect, count, join, again, true, dead⟩ _ false z hq) rfl rfl ?_; rintro _ _ - ⟨rfl, rfl⟩; (try simp only [seval, go_sem]))))
    all_goals (refine FinV.frz 4 rfl rfl (fun b4 z4 hz4 hr4 => ?_)); dsimp only at hz4; simp only [seval, go_sem, Go.Proofs.YtnkhjnieidlknaaGreat.frz, subV, subC, subE, subL]
    all_goals (refine FinV.frz 5 rfl rfl (fun b5 z5 hz5 hr5 => ?_)); dsimp only at hz5; simp only [seval, go_sem, Go.Proofs.YtnkhjnieidlknaaGreat.frz, subV, subC, subE, subL]
    all_goals (first|refine fN ?_|exact fZ)
    all_goals rw [show rxData c ⟨expect, count, join, again, true, dead⟩ f = (⟨expect, count, join, again, true, dead⟩, [], [sayFrm expect false false 2]) by unfold rxData; rw [if_pos rfl]]
    all_goals exact ⟨A, k, _, _, _, _, _, _, rfl, hq.mono (Zc.trans' hz4 hz5), Sl.nil _ _ _, _, _, _, rfl, Nat.le_refl _, Els.single (d := fRep) ⟨_, rfl, Sl.nil _ _ _⟩, by first | exact hr5 | exact hr4.mono hz5⟩
  | false =>
    simp only [seval, go_sem]
    refine gO ?_
    refine tT ?_; refine callP (numfar_s expect f.seq z) rfl rfl ?_; rintro _ _ - ⟨rfl, rfl⟩; refine gO ?_
    rw [hnf]
    (with_reducible refine condI.split (fun hg => ?_) (fun hg => ?_) <;> (try simp only [hg]) <;> (try simp only [seval, go_sem]))
    · have hseq := hfar.1 (by simpa using hg)
      refine gO ?_
      refine tT ?_; refine callP (l7take c ⟨expect, count, join, again, false, dead⟩ f _ _ z hq hu hI hp) rfl rfl ?_; rintro v z3 hz3 ⟨A4, k4, A5, n5, k5, rfl, h4, h5⟩; refine gO ?_
      (refine FinV.frz 5 rfl rfl (fun b4 z4 hz4 hr4 => ?_)); dsimp only at hz4; simp only [seval, go_sem, Go.Proofs.YtnkhjnieidlknaaGreat.frz, subV, subC, subE, subL]
      (first|refine fN ?_|exact fZ)
      rw [show rxData c ⟨expect, count, join, again, false, dead⟩ f = ((rxTake c ⟨expect, count, join, again, false, dead⟩ f).1, (rxTake c ⟨expect, count, join, again, false, dead⟩ f).2, []) by unfold rxData; rw [if_neg (by simp), if_pos hseq]]
      exact ⟨_, _, _, _, _, _, _, _, rfl, h4.mono hz4, h5.mono hz4, Sl.nil _ _ _⟩
    · have hne : f.seq ≠ expect := fun h => by rw [hfar.2 h] at hg; simp at hg
      refine gO ?_
      (with_reducible refine guardR.split (fun hg => ?_) (fun hg => ?_) <;> (try simp only [hg]) <;> simp only [seval, go_sem])
      · have hw : far expect f.seq < c.win := by simpa using hg
        refine gO ?_
        cases again with
        | true =>
          simp only [seval, go_sem]
          refine gO ?_
          (refine FinV.frz 4 rfl rfl (fun b4 z4 hz4 hr4 => ?_)); dsimp only at hz4; simp only [seval, go_sem, Go.Proofs.YtnkhjnieidlknaaGreat.frz, subV, subC, subE, subL]
          (refine FinV.frz 5 rfl rfl (fun b5 z5 hz5 hr5 => ?_)); dsimp only at hz5; simp only [seval, go_sem, Go.Proofs.YtnkhjnieidlknaaGreat.frz, subV, subC, subE, subL]
          (first|refine fN ?_|exact fZ)
          rw [show rxData c ⟨expect, count, join, true, false, dead⟩ f = (⟨expect, count, join, true, false, dead⟩, [], []) by unfold rxData; rw [if_neg (by simp), if_neg hne, if_neg (by simp)]]
          exact ⟨A, k, _, _, _, _, _, _, rfl, hq.mono (Zc.trans' hz4 hz5), Sl.nil _ _ _, Sl.nil _ _ _⟩
        | false =>
          simp only [seval, go_sem]
          refine gO ?_
          (with_reducible refine joinV.id ?_; simp only [seval, go_sem])
          ((try simp only [seval, go_sem]); repeat' (first | (refine And.intro ?_ ?_ <;> (try simp only [seval, go_sem])) | (with_reducible refine vsI.id ?_; (try simp only [seval, go_sem])) | (with_reducible refine callM.toT ?_)))
          all_goals (refine FinV.frz 4 rfl rfl (fun b4 z4 hz4 hr4 => ?_)); dsimp only at hz4; simp only [seval, go_sem, Go.Proofs.YtnkhjnieidlknaaGreat.frz, subV, subC, subE, subL]
          all_goals (refine FinV.frz 5 rfl rfl (fun b5 z5 hz5 hr5 => ?_)); dsimp only at hz5; simp only [seval, go_sem, Go.Proofs.YtnkhjnieidlknaaGreat.frz, subV, subC, subE, subL]
          all_goals (first|refine fN ?_|exact fZ)
          all_goals rw [show rxData c ⟨expect, count, join, false, false, dead⟩ f = (⟨expect, count, join, true, false, dead⟩, [], [sayFrm expect false false 1]) by unfold rxData; rw [if_neg (by simp), if_neg hne, if_pos ⟨hw, rfl⟩]]
          all_goals exact ⟨A, k, _, _, _, _, _, _, rfl, hq.mono (Zc.trans' hz4 hz5), Sl.nil _ _ _, _, _, _, rfl, Nat.le_refl _, Els.single (d := fRep) ⟨_, rfl, Sl.nil _ _ _⟩, by first | exact hr5 | exact hr4.mono hz5⟩
      · refine gO ?_
        (refine FinV.frz 4 rfl rfl (fun b4 z4 hz4 hr4 => ?_)); dsimp only at hz4; simp only [seval, go_sem, Go.Proofs.YtnkhjnieidlknaaGreat.frz, subV, subC, subE, subL]
        (refine FinV.frz 5 rfl rfl (fun b5 z5 hz5 hr5 => ?_)); dsimp only at hz5; simp only [seval, go_sem, Go.Proofs.YtnkhjnieidlknaaGreat.frz, subV, subC, subE, subL]
        (first|refine fN ?_|exact fZ)
        rw [show rxData c ⟨expect, count, join, again, false, dead⟩ f = (⟨expect, count, join, again, false, dead⟩, [], []) by unfold rxData; rw [if_neg (by simp), if_neg hne, if_neg (by simp at hg ⊢; intro h; omega)]]
        exact ⟨A, k, _, _, _, _, _, _, rfl, hq.mono (Zc.trans' hz4 hz5), Sl.nil _ _ _, Sl.nil _ _ _⟩
theorem frm1 {f : Frm} (h : frmOk f = true) (hk : f.kind = 1) : pieceOk f.seg f.len f.data.length = true ∧ 0 ≤ f.seq ∧ f.seq ≤ 7 := by
  unfold frmOk at h
  rw [if_pos hk] at h
  simp only [Bool.and_eq_true, isNum_iff] at h
  exact ⟨h.2, h.1.1.1.1⟩
theorem l7hear (c : Cfg) (r : Rx) (f : Frm) (q u : Value) (z : Zc) (hq : By z r.join.got q) (hu : By z f.data u) (hI : RxI r) (hf : frmOk f = true) (hk : f.kind = 1 ∨ f.kind = 2) :
    PSpec Tryz.prog 172 [vCfg c, vRx r q, vFrm f u] z fun v z' => HearV z' (rxHear c r f) v := by
  obtain ⟨A, k, rfl, hk', hB, hr⟩ := hq.form
  obtain ⟨A2, k2, rfl, hk2, hB2, hr2⟩ := hu.form
  obtain ⟨expect, count, join, again, busy, dead⟩ := r
  dsimp only at *
  (refine pspec_enter Tryz.func172 ic172_ok fr172_ok Tryz.ntmps172 ?_; simp only [seval, go_sem, ic172, fr172])
  refine gO ?_
  cases dead with
  | true =>
    simp only [seval, go_sem]
    refine gO ?_
    (refine FinV.frz 4 rfl rfl (fun b4 z4 hz4 hr4 => ?_)); dsimp only at hz4; simp only [seval, go_sem, Go.Proofs.YtnkhjnieidlknaaGreat.frz, subV, subC, subE, subL]
    (refine FinV.frz 5 rfl rfl (fun b5 z5 hz5 hr5 => ?_)); dsimp only at hz5; simp only [seval, go_sem, Go.Proofs.YtnkhjnieidlknaaGreat.frz, subV, subC, subE, subL]
    (first|refine fN ?_|exact fZ)
    rw [show rxHear c ⟨expect, count, join, again, busy, true⟩ f = (⟨expect, count, join, again, busy, true⟩, [], []) by unfold rxHear; rw [if_pos rfl]]
    exact ⟨A, k, _, _, _, _, _, _, rfl, hq.mono (Zc.trans' hz4 hz5), Sl.nil _ _ _, Sl.nil _ _ _⟩
  | false =>
    simp only [seval, go_sem]
    refine gO ?_
    (with_reducible refine condI.split (fun hg => ?_) (fun hg => ?_) <;> (try simp only [hg]) <;> (try simp only [seval, go_sem]))
    · have h1 : f.kind = 1 := by simpa using hg
      obtain ⟨hp, hs⟩ := frm1 hf h1
      refine gO ?_
      refine tT ?_; refine callP (l7data c ⟨expect, count, join, again, busy, false⟩ f _ _ z hq hu hI hp hs) rfl rfl ?_; rintro v z3 hz3 ⟨A3, k3, B3, n3, b3, D3, m3, d3, rfl, g1, g2, g3⟩; refine gO ?_
      (first|refine fN ?_|exact fZ)
      rw [show rxHear c ⟨expect, count, join, again, busy, false⟩ f = rxData c ⟨expect, count, join, again, busy, false⟩ f by unfold rxHear rxData; rw [if_neg (by simp), if_neg (by omega)]]
      exact ⟨_, _, _, _, _, _, _, _, rfl, g1, g2, g3⟩
    · have h1 : f.kind = 2 := by simp at hg; omega
      refine gO ?_
      (with_reducible refine condI.split (fun hg => ?_) (fun hg => ?_) <;> (try simp only [hg]) <;> (try simp only [seval, go_sem]))
      · have hpoll : f.poll = true := hg
        refine gO ?_
        (with_reducible refine joinV.id ?_; simp only [seval, go_sem])
        ((try simp only [seval, go_sem]); repeat' (first | (refine And.intro ?_ ?_ <;> (try simp only [seval, go_sem])) | (with_reducible refine vsI.id ?_; (try simp only [seval, go_sem])) | (with_reducible refine callM.toT ?_) | (refine callP (l7say ⟨expect, count, join, false, busy, false⟩ _ true z hq) rfl rfl ?_; rintro _ _ - ⟨rfl, rfl⟩; (try simp only [seval, go_sem]))))
        all_goals (refine FinV.frz 4 rfl rfl (fun b4 z4 hz4 hr4 => ?_)); dsimp only at hz4; simp only [seval, go_sem, Go.Proofs.YtnkhjnieidlknaaGreat.frz, subV, subC, subE, subL]
        all_goals (refine FinV.frz 5 rfl rfl (fun b5 z5 hz5 hr5 => ?_)); dsimp only at hz5; simp only [seval, go_sem, Go.Proofs.YtnkhjnieidlknaaGreat.frz, subV, subC, subE, subL]
        all_goals (first|refine fN ?_|exact fZ)
        all_goals rw [show rxHear c ⟨expect, count, join, again, busy, false⟩ f = (⟨expect, count, join, false, busy, false⟩, [], [sayFrm expect false true (goWait busy)]) by unfold rxHear; rw [if_neg (by simp), if_pos h1, if_pos hpoll]]
        all_goals exact ⟨A, k, _, _, _, _, _, _, rfl, hq.mono (Zc.trans' hz4 hz5), Sl.nil _ _ _, _, _, _, rfl, Nat.le_refl _, Els.single (d := fRep) ⟨_, rfl, Sl.nil _ _ _⟩, by first | exact hr5 | exact hr4.mono hz5⟩
      · have hpoll : ¬ f.poll = true := by simp [hg]
        refine gO ?_
        (refine FinV.frz 4 rfl rfl (fun b4 z4 hz4 hr4 => ?_)); dsimp only at hz4; simp only [seval, go_sem, Go.Proofs.YtnkhjnieidlknaaGreat.frz, subV, subC, subE, subL]
        (refine FinV.frz 5 rfl rfl (fun b5 z5 hz5 hr5 => ?_)); dsimp only at hz5; simp only [seval, go_sem, Go.Proofs.YtnkhjnieidlknaaGreat.frz, subV, subC, subE, subL]
        (first|refine fN ?_|exact fZ)
        rw [show rxHear c ⟨expect, count, join, again, busy, false⟩ f = (⟨expect, count, join, again, busy, false⟩, [], []) by unfold rxHear; rw [if_neg (by simp), if_pos h1, if_neg hpoll]]
        exact ⟨A, k, _, _, _, _, _, _, rfl, hq.mono (Zc.trans' hz4 hz5), Sl.nil _ _ _, Sl.nil _ _ _⟩
def rxBusyG (r : Rx) (b : Bool) : Rx × List Frm := if rxOk r = true then rxBusy r b else (rx0, [])
theorem rxbusy_s (r : Rx) (b : Bool) (q : Value) (z : Zc) (hq : By z r.join.got q) (hl : r.join.got.length ≤ 1000000000) (hj : -1000000000 ≤ r.join.len) :
    PSpec Tryz.prog 121 [vRx r q, .bool b] z fun v z' => ∃ A k D m d, v = .tuple #[vRx (rxBusyG r b).1 (.slice A (rxBusyG r b).1.join.got.length k), .slice D m d] ∧ By z' (rxBusyG r b).1.join.got (.slice A (rxBusyG r b).1.join.got.length k) ∧ Sl fRep z' (rxBusyG r b).2 (.slice D m d) := by
  obtain ⟨A, k, rfl, hk', hB, hr⟩ := hq.form
  (refine pspec_enter Tryz.func121 ic121_ok fr121_ok Tryz.ntmps121 ?_; simp only [seval, go_sem, ic121, fr121])
  refine gO ?_
  refine tT ?_; refine callP (rxok_s r A k z hl hj) rfl rfl ?_; rintro _ _ - ⟨rfl, rfl⟩; refine gO ?_
  (with_reducible refine condI.split (fun hg => ?_) (fun hg => ?_) <;> (try simp only [hg]) <;> (try simp only [seval, go_sem]))
  · refine gO ?_
    (refine FinV.frz 2 rfl rfl (fun b4 z4 hz4 hr4 => ?_)); dsimp only at hz4; simp only [seval, go_sem, Go.Proofs.YtnkhjnieidlknaaGreat.frz, subV, subC, subE, subL]
    (first|refine fN ?_|exact fZ)
    rw [show rxBusyG r b = (rx0, []) by unfold rxBusyG; rw [if_neg (by simpa using hg)]]
    exact ⟨none, 0, _, _, _, rfl, Sl.nil _ _ _, Sl.nil _ _ _⟩
  · have hok : rxOk r = true := by simpa using hg
    rw [show rxBusyG r b = rxBusy r b by unfold rxBusyG; rw [if_pos hok]]
    refine gO ?_
    refine tT ?_; refine callP (l7copy r _ z hq hl) rfl rfl ?_; rintro v z2 hz2 ⟨A2, k2, rfl, h2⟩; refine gO ?_
    obtain ⟨expect, count, join, again, busy, dead⟩ := r
    dsimp only at *
    cases busy <;> cases b <;> cases dead
    all_goals (try simp only [seval, go_sem, show (true == false) = false from rfl, show (false == true) = false from rfl, show (true == true) = true from rfl, show (false == false) = true from rfl])
    all_goals refine gO ?_
    all_goals (try (with_reducible refine joinV.id ?_; simp only [seval, go_sem]))
    all_goals ((try simp only [seval, go_sem]); repeat' (first | (refine And.intro ?_ ?_ <;> (try simp only [seval, go_sem])) | (with_reducible refine vsI.id ?_; (try simp only [seval, go_sem])) | (with_reducible refine callM.toT ?_) | (refine callP (l7say ⟨expect, count, join, false, false, false⟩ _ false z2 h2) rfl rfl ?_; rintro _ _ - ⟨rfl, rfl⟩; (try simp only [seval, go_sem])) | (refine callP (l7say ⟨expect, count, join, false, true, false⟩ _ false z2 h2) rfl rfl ?_; rintro _ _ - ⟨rfl, rfl⟩; (try simp only [seval, go_sem]))))
    all_goals (refine FinV.frz 3 rfl rfl (fun b4 z4 hz4 hr4 => ?_)); dsimp only at hz4; simp only [seval, go_sem, Go.Proofs.YtnkhjnieidlknaaGreat.frz, subV, subC, subE, subL]
    all_goals (first|refine fN ?_|exact fZ)
    all_goals first
      | exact ⟨A2, k2, some ⟨b4, 0, none⟩, 0, 0, rfl, h2.mono hz4, Sl.nil _ _ _⟩
      | exact ⟨A2, k2, some ⟨b4, 0, none⟩, 1, 1, rfl, h2.mono hz4, _, _, _, rfl, Nat.le_refl _, Els.single (d := fRep) ⟨_, rfl, Sl.nil _ _ _⟩, hr4⟩
abbrev tyB : Nat := 5
def bysA (l : List Int) (A : Option Addr) (c : Nat) : Asrt := if l = [] then emp else rowA tyB 1 (.slice A l.length c) l.length (bc l)
theorem crcPutO (l : List Int) (v : Value) (z : Zc) (h : By z l v) (hl : l.length ≤ 100000000) : Spec Tryz.prog 113 [v] z emp fun v z' A' => ∃ A c, v = .slice A (crcPut l).length c ∧ A' = rowA tyB 1 (.slice A (crcPut l).length c) (crcPut l).length (bc (crcPut l)) ∧ (crcPut l).length ≤ c := by
  obtain ⟨A, c, rfl, hc, hB, hr⟩ := h.form
  have hlt := crcOf_lt hB
  (refine spec_enter0 Tryz.func113 ic113_ok fr113_ok Tryz.ntmps113 ?_; simp only [seval, go_sem, ic113, fr113])
  refine gO ?_
  refine tT ?_; refine callP (crcOf_s l _ z h (by omega)) rfl rfl ?_; rintro _ _ - ⟨rfl, rfl⟩; refine gO ?_
  (refine appT.toRow 90 0 (m := 0) (sz := 1) rfl rfl rfl (by omega) (fun b => ?_)); simp only [seval, go_sem, rowSt, subV, subC, subE, subL]
  refine aT ?_; (refine appM_row 90 atyB rfl rfl rfl rfl hr (by first | omega | simp) (by simp [Value.oneCell']) (by omega) (fun v1 => ?_)); refine gO ?_
  refine aT ?_; (refine appM_newF 90 atyB rfl rfl rfl rfl rfl rfl rfl (by simp [Value.oneCell']) (by omega) (fun A2 c2 hc2 hat => ?_)); refine gO ?_
  simp only [crcPut_bs l hlt]
  (((try simp only [seval, go_sem]);repeat((with_reducible first|refine vJ ?_|refine vK ?_);try simp only [seval, go_sem])); refine FinV.own 90 rfl ?_; simp only [finE, finS, gt, look, SV.toV, SC.toV, allV, tupV, zq1, zq2, zq3, zq4, Nat.reduceAdd, Nat.reduceEqDiff, reduceCtorEq, if_true, if_false, reduceIte, Nat.succ_ne_self, true_and, zq5, zq7, zq8])
  rw [crcPut_length]
  exact ⟨_, _, rfl, rfl, hc2⟩
theorem frmBytesO (f : Frm) (v : Value) (z : Zc) (h : By z f.data v) (hl : f.data.length ≤ 100000) : Spec Tryz.prog 82 [vFrm f v] z emp fun v z' A' => ∃ A c, v = .slice A (frmBytes f).length c ∧ A' = bysA (frmBytes f) A c ∧ (frmBytes f).length ≤ c := by
  obtain ⟨A, c, rfl, hc, hB, hr⟩ := h.form
  (refine spec_enter0 Tryz.func82 ic82_ok fr82_ok Tryz.ntmps82 ?_; simp only [seval, go_sem, ic82, fr82])
  refine gO ?_
  refine tT ?_; refine callP (frmOk_s f _ z h (by omega)) rfl rfl ?_; rintro _ _ - ⟨rfl, rfl⟩; refine gO ?_
  (with_reducible refine condI.split (fun hg => ?_) (fun hg => ?_) <;> (try simp only [hg]) <;> (try simp only [seval, go_sem]))
  · simp at hg
    refine gO ?_
    (refine FinV.frz 1 rfl rfl (fun b z1 hz1 hr1 => ?_)); dsimp only at hz1; simp only [seval, go_sem, Go.Proofs.YtnkhjnieidlknaaGreat.frz, subV, subC, subE, subL]
    (first|refine fN ?_|exact fZ)
    rw [show frmBytes f = [] by simp only [frmBytes, hg]; rfl]
    exact ⟨_, _, rfl, by unfold bysA; rw [if_pos rfl], Nat.zero_le _⟩
  · simp at hg
    refine gO ?_
    refine tT ?_; refine callP (bit_s _ _) rfl rfl ?_; rintro _ _ - ⟨rfl, rfl⟩; refine gO ?_
    refine tT ?_; refine callP (bit_s _ _) rfl rfl ?_; rintro _ _ - ⟨rfl, rfl⟩; refine gO ?_
    (refine appT.toRow 90 1 (m := 5) (sz := 1) rfl rfl rfl (by omega) (fun b => ?_)); simp only [seval, go_sem, rowSt, subV, subC, subE, subL]
    refine aT ?_; (refine appM_row 90 atyB rfl rfl rfl rfl hr (by first | omega | simp) (bc_one _) (by omega) (fun v1 => ?_)); refine gO ?_
    (first | refine callT.frzR 90 rfl (fun A2 c2 z2 hv2 hc2 hz2 hr2 => ?_) | refine callM.frzR 90 rfl (fun A2 c2 z2 hv2 hc2 hz2 hr2 => ?_)); dsimp only at hz2; subst hv2; simp only [seval, go_sem]
    have h2 : By z2 (frmHead f ++ f.data) (.slice A2 (5 + f.data.length) c2) := head_by hg hB hc2 (head_bc hg) hr2 rfl
    refine tT ?_; refine callO 91 (crcPutO _ _ z2 h2 (by simp [frmHead]; omega)) rfl rfl rfl ?_; rintro v z3 A' hz3 ⟨A3, c3, rfl, rfl, hc3⟩; refine gO ?_
    (((try simp only [seval, go_sem]);repeat((with_reducible first|refine vJ ?_|refine vK ?_);try simp only [seval, go_sem])); refine FinV.own 91 rfl ?_; simp only [finE, finS, gt, look, SV.toV, SC.toV, allV, tupV, zq1, zq2, zq3, zq4, Nat.reduceAdd, Nat.reduceEqDiff, reduceCtorEq, if_true, if_false, reduceIte, Nat.succ_ne_self, true_and, zq5, zq7, zq8])
    rw [frmBytes_ok hg]
    refine ⟨_, _, rfl, ?_, hc3⟩
    unfold bysA
    rw [if_neg (List.ne_nil_of_length_pos (by rw [crcPut_length]; omega))]
end Go.Proofs.YtnkhjnieidlknaaGreat
