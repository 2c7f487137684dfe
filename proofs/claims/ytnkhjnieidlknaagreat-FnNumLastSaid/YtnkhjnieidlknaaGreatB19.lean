/- Codes of functions, group ImpW. · Two ends over a link, as the program holds them. · Codes of functions, group ImpR. · Copies that are one's own, of messages and of what is on its way, by the program. · Frames go on their way, by the program. · A frame goes on its way, if there is one, by the program. · Who asks, and who is busy, by the program. -/
import Derived.Test.YtnkhjnieidlknaaGreatB18
namespace Go.Proofs.YtnkhjnieidlknaaGreat
open Go.RowKit
set_option linter.unusedVariables false
set_option linter.unusedSimpArgs false
set_option maxRecDepth 100000
set_option maxHeartbeats 4000000
def ic96 : IC := (xR (xt (.mv (xb false)) 4 .done) (xR (xtM 0 5 (xtN 5 6 (xtF 6 6 7 (xtO 7 8 (xtM 1 9 (xtI 8 9 1 10 (xtO 10 11 (xtL 11 12 (xt (.bin .lss (xr 12) (xi 30)) 13 (xtM 13 4 .done)))))))))) .ret))
theorem ic96_ok : Tryz.f96.body.bind (trC Tryz.prog []) = some ic96 := by kernel_rfl
def fr96 : List FR := [(FR.t 4)]
theorem fr96_ok : fres Tryz.prog Tryz.f96.results.toList = some fr96 := by kernel_rfl
def ic133 : IC := (xR (xtM 2 8 (xtL 8 9 (xt (.mv (xi 0)) 10 .done))) (.block 0 (.loop (xR (xt (.bin .lss (xr 10) (xr 9)) 11 .done) (.seq (.cond (xr 11) .skip (.exit 0)) (.seq (.block 1 (xR (xtI 8 10 9 12 (xtA 12 9 13 (xt (.alc 52 [zI, zI, zI, zB, zB, zI, zI, zI, zS]) 7 (xS 7 13 9 .done)))) (xR (xtM 0 14 (xtM 1 15 (xt (.bin .sub (xi 1) (xr 15)) 16 (xt (.call 96 [xr 14, xr 16]) 17 .done)))) (.cond (xr 17) (.join [] (xpM 0 18 (xpN 18 19 (xpF 19 6 20 (xlO 20 21 (xpM 1 22 (xp (.bin .sub (xi 1) (xr 22)) 23 (xpM 0 24 (xpN 24 25 (xpF 25 6 26 (xlO 26 27 (xpM 1 28 (xp (.bin .sub (xi 1) (xr 28)) 29 (xpI 27 29 1 30 (xlA 7 9 32 (.alt (xmO 30 31 (xm (.call 31 [xr 32]) 33 (xp (.bld [zB, zS] [(1, (1, (xr 33)))]) 34 (xm (.bsl 56 2 1 [zB, zS] [(0, (xr 34))]) 35 (xm (.app 50 (xr 31) (xr 35)) 36 (xpI 21 23 1 37 (xS 37 36 1 .done))))))) (xm (.call 31 [xr 32]) 33 (xp (.bld [zB, zS] [(1, (1, (xr 33)))]) 34 (.alt (xmO 30 31 (xm (.bsl 56 2 1 [zB, zS] [(0, (xr 34))]) 35 (xm (.app 50 (xr 31) (xr 35)) 36 (xpI 21 23 1 37 (xS 37 36 1 .done))))) (xm (.bsl 56 2 1 [zB, zS] [(0, (xr 34))]) 35 (xmO 30 31 (xm (.app 50 (xr 31) (xr 35)) 36 (xpI 21 23 1 37 (xS 37 36 1 .done)))))))))))))))))))))))) .skip)))) (xQ (xt (.bin .add (xr 10) (xi 1)) 38 (xtM 38 10 .done)))))))))
theorem ic133_ok : Tryz.f133.body.bind (trC Tryz.prog [1000030]) = some ic133 := by kernel_rfl
def fr133 : List FR := []
theorem fr133_ok : fres Tryz.prog Tryz.f133.results.toList = some fr133 := by kernel_rfl
def ic136 : IC := (xR (xt (.box 52 (xr 2)) 6 .done) (xR (xtM 3 8 .done) (.cond (xr 8) (xQ (xtM 0 9 (xtM 1 10 (xtA 6 9 11 (xt (.bsl 52 9 1 [zI, zI, zI, zB, zB, zI, zI, zI, zS] [(0, (xr 11))]) 12 (xt (.call 133 [xr 9, xr 10, xr 12]) 13 .done)))))) .skip)))
theorem ic136_ok : Tryz.f136.body.bind (trC Tryz.prog []) = some ic136 := by kernel_rfl
def fr136 : List FR := []
theorem fr136_ok : fres Tryz.prog Tryz.f136.results.toList = some fr136 := by kernel_rfl
def ic97 : IC := (xR (xt (.box 35 (xr 1)) 3 .done) (xR (xpM 0 9 (xpN 9 10 (xpF 10 5 11 (xlO 11 12 (xpF 3 1 13 (xlO 13 14 (xpI 12 14 28 15 (xpM 15 4 .done)))))))) (xR (xt (.alc 52 [zI, zI, zI, zB, zB, zI, zI, zI, zS]) 5 .done) (xR (xt (.mv (xb false)) 6 .done) (.block 0 (xR (xtF 3 0 17 (xtO 17 18 (xt (.bin .eql (xr 18) (xi 1)) 19 (xtM 19 20 (xG (.mv (xr 4)) 21 20 true (xG (.nil (xr 21)) 22 20 true (xG (.fad (xr 22) 26) 23 20 true (xG (.ld (xr 23) 1 false) 24 20 true (xG (.len (xr 24)) 25 20 true (xG (.bin .lss (xr 25) (xi 60)) 26 20 true (xt (.pick (xr 20) (xr 26) (xb false)) 27 (xtM 27 16 .done)))))))))))) (.cond (xr 16) (xR (xpM 4 29 (xpM 0 30 (xpN 30 31 (xpF 31 0 32 (xlA 32 5 33 (xpM 4 34 (xpN 34 35 (xpF 35 0 36 (xpF 3 4 38 (xlO 38 39 (xmA 36 10 37 (xm (.call 134 [xr 33, xr 37, xr 39]) 40 (xpM 40 28 (xpE 28 0 41 (xpE 28 1 42 (xpN 29 43 (xpF 43 0 44 (xS 44 41 10 (xpM 42 6 .done))))))))))))))))))) (xR (xtM 6 45 .done) (.cond (xr 45) (.join [] (xpM 4 46 (xpM 4 47 (xpN 47 48 (xpF 48 26 49 (xpF 3 4 51 (xlO 51 52 (.alt (xmO 49 50 (xm (.call 29 [xr 52]) 53 (xm (.bsl 22 1 1 [zS] [(0, (xr 53))]) 54 (xm (.app 47 (xr 50) (xr 54)) 55 (xpN 46 56 (xpF 56 26 57 (xS 57 55 1 .done))))))) (xm (.call 29 [xr 52]) 53 (.alt (xmO 49 50 (xm (.bsl 22 1 1 [zS] [(0, (xr 53))]) 54 (xm (.app 47 (xr 50) (xr 54)) 55 (xpN 46 56 (xpF 56 26 57 (xS 57 55 1 .done)))))) (xm (.bsl 22 1 1 [zS] [(0, (xr 53))]) 54 (xmO 49 50 (xm (.app 47 (xr 50) (xr 54)) 55 (xpN 46 56 (xpF 56 26 57 (xS 57 55 1 .done)))))))))))))))) .skip))) (xR (xtF 3 0 59 (xtO 59 60 (xt (.bin .eql (xr 60) (xi 2)) 61 (xtM 61 62 (xG (.mv (xr 0)) 63 62 true (xG (.fad (xr 3) 1) 64 62 true (xG (.ld (xr 64) 1 false) 65 62 true (xG (.bin .sub (xi 1) (xr 65)) 66 62 true (xG (.call 96 [xr 63, xr 66]) 67 62 true (xt (.pick (xr 62) (xr 67) (xb false)) 68 (xtM 68 58 .done))))))))))) (.cond (xr 58) (.seq (.join [5] (xpM 4 70 (xpM 0 71 (xpN 71 72 (xpF 72 0 73 (xlA 73 5 74 (xpM 4 75 (xpN 75 76 (xpF 76 0 77 (xpM 4 79 (xpN 79 80 (xpF 80 10 81 (xpF 81 0 82 (.alt (xmA 77 10 78 (xmO 82 83 (xm (.call 135 [xr 74, xr 78, xr 83]) 84 (xpM 84 69 (xpE 69 0 85 (xpE 69 1 86 (xpE 69 2 87 (xpN 70 88 (xpF 88 0 89 (xS 89 85 10 (xS 5 86 9 (xpM 87 6 .done)))))))))))) (xmO 82 83 (xmA 77 10 78 (xm (.call 135 [xr 74, xr 78, xr 83]) 84 (xpM 84 69 (xpE 69 0 85 (xpE 69 1 86 (xpE 69 2 87 (xpN 70 88 (xpF 88 0 89 (xS 89 85 10 (xS 5 86 9 (xpM 87 6 .done)))))))))))))))))))))))))) (xQ (xtM 0 90 (xtF 3 1 91 (xtO 91 92 (xtA 5 9 93 (xtM 6 94 (xt (.call 136 [xr 90, xr 92, xr 93, xr 94]) 95 .done)))))))) (xR (xtF 3 0 97 (xtO 97 98 (xt (.bin .eql (xr 98) (xi 3)) 99 (xtM 99 96 .done)))) (.cond (xr 96) (.seq (.join [5] (xpM 4 101 (xpM 0 102 (xpN 102 103 (xpF 103 0 104 (xlA 104 5 105 (xpM 4 106 (xpN 106 107 (xpF 107 0 108 (xpM 4 110 (xpN 110 111 (xpF 111 10 112 (xpF 112 0 113 (xpM 4 115 (xpN 115 116 (xpF 116 10 117 (xpF 117 5 118 (.alt (xmA 108 10 109 (.alt (xmO 113 114 (xmO 118 119 (xm (.call 137 [xr 105, xr 109, xr 114, xr 119]) 120 (xpM 120 100 (xpE 100 0 121 (xpE 100 1 122 (xpE 100 2 123 (xpN 101 124 (xpF 124 0 125 (xS 125 121 10 (xS 5 122 9 (xpM 123 6 .done)))))))))))) (xmO 118 119 (xmO 113 114 (xm (.call 137 [xr 105, xr 109, xr 114, xr 119]) 120 (xpM 120 100 (xpE 100 0 121 (xpE 100 1 122 (xpE 100 2 123 (xpN 101 124 (xpF 124 0 125 (xS 125 121 10 (xS 5 122 9 (xpM 123 6 .done)))))))))))))) (.alt (xmO 113 114 (.alt (xmA 108 10 109 (xmO 118 119 (xm (.call 137 [xr 105, xr 109, xr 114, xr 119]) 120 (xpM 120 100 (xpE 100 0 121 (xpE 100 1 122 (xpE 100 2 123 (xpN 101 124 (xpF 124 0 125 (xS 125 121 10 (xS 5 122 9 (xpM 123 6 .done)))))))))))) (xmO 118 119 (xmA 108 10 109 (xm (.call 137 [xr 105, xr 109, xr 114, xr 119]) 120 (xpM 120 100 (xpE 100 0 121 (xpE 100 1 122 (xpE 100 2 123 (xpN 101 124 (xpF 124 0 125 (xS 125 121 10 (xS 5 122 9 (xpM 123 6 .done)))))))))))))) (xmO 118 119 (.alt (xmA 108 10 109 (xmO 113 114 (xm (.call 137 [xr 105, xr 109, xr 114, xr 119]) 120 (xpM 120 100 (xpE 100 0 121 (xpE 100 1 122 (xpE 100 2 123 (xpN 101 124 (xpF 124 0 125 (xS 125 121 10 (xS 5 122 9 (xpM 123 6 .done)))))))))))) (xmO 113 114 (xmA 108 10 109 (xm (.call 137 [xr 105, xr 109, xr 114, xr 119]) 120 (xpM 120 100 (xpE 100 0 121 (xpE 100 1 122 (xpE 100 2 123 (xpN 101 124 (xpF 124 0 125 (xS 125 121 10 (xS 5 122 9 (xpM 123 6 .done))))))))))))))))))))))))))))))))) (xQ (xtM 0 126 (xtF 3 1 127 (xtO 127 128 (xtA 5 9 129 (xtM 6 130 (xt (.call 136 [xr 126, xr 128, xr 129, xr 130]) 131 .done)))))))) (xR (xtF 3 0 133 (xtO 133 134 (xt (.bin .eql (xr 134) (xi 4)) 135 (xtM 135 132 .done)))) (.cond (xr 132) (.seq (.join [] (xpM 4 137 (xpN 137 138 (xpF 138 10 139 (xpF 3 3 141 (xlO 141 142 (xp (.bin .eql (xr 142) (xi 1)) 143 (.alt (xmA 139 7 140 (.alt (xm (.call 138 [xr 140, xr 143]) 144 (xpM 144 136 (xpE 136 0 145 (xpE 136 1 146 (xm (.alc 42 [zI, zI, zI, zS, zB, zB, zB]) 7 (xS 7 145 7 (xpM 146 8 .done))))))) (xm (.alc 42 [zI, zI, zI, zS, zB, zB, zB]) 7 (xm (.call 138 [xr 140, xr 143]) 144 (xpM 144 136 (xpE 136 0 145 (xpE 136 1 146 (xS 7 145 7 (xpM 146 8 .done))))))))) (xm (.alc 42 [zI, zI, zI, zS, zB, zB, zB]) 7 (xmA 139 7 140 (xm (.call 138 [xr 140, xr 143]) 144 (xpM 144 136 (xpE 136 0 145 (xpE 136 1 146 (xS 7 145 7 (xpM 146 8 .done)))))))))))))))) (xR (xtM 4 147 (xtA 7 7 148 (xtN 147 149 (xtF 149 10 150 (xS 150 148 7 .done))))) (xQ (xtM 0 151 (xtF 3 1 152 (xtO 152 153 (xtM 8 154 (xt (.call 133 [xr 151, xr 153, xr 154]) 155 .done)))))))) (xR (xtF 3 0 157 (xtO 157 158 (xt (.bin .eql (xr 158) (xi 5)) 159 (xtM 159 160 (xG (.mv (xr 4)) 161 160 true (xG (.nil (xr 161)) 162 160 true (xG (.fad (xr 162) 10) 163 160 true (xG (.fad (xr 163) 6) 164 160 true (xG (.ld (xr 164) 1 false) 165 160 true (xG (.not (xr 165)) 166 160 true (xt (.pick (xr 160) (xr 166) (xb false)) 167 (xtM 167 156 .done)))))))))))) (.cond (xr 156) (xQ (xpM 0 168 (xpF 3 1 169 (xlO 169 170 (xpM 4 171 (xpN 171 172 (xpF 172 10 173 (xmA 173 7 174 (xm (.call 139 [xr 174]) 175 (xm (.bsl 52 9 1 [zI, zI, zI, zB, zB, zI, zI, zI, zS] [(0, (xr 175))]) 176 (xt (.call 133 [xr 168, xr 170, xr 176]) 177 .done))))))))))) .skip)))))))))))))))
theorem ic97_ok : Tryz.f97.body.bind (trC Tryz.prog [1000036, 1000049, 1000077, 1000082, 1000108, 1000113, 1000118, 1000139, 1000173, 133]) = some ic97 := by kernel_rfl
def fr97 : List FR := []
theorem fr97_ok : fres Tryz.prog Tryz.f97.results.toList = some fr97 := by kernel_rfl
def ic95 : IC := (xR (xtM 0 13 (xtN 13 14 (xtF 14 6 15 (xtO 15 16 (xtM 1 17 (xtI 16 17 1 18 (xtO 18 19 (xt (.iad (xr 19) (xi 0) 2) 20 (xtF 20 1 21 (xtO 21 22 (xt (.call 12 [xr 22]) 23 (xtM 23 12 (xtE 12 0 24 (xtE 12 1 25 (xt (.alc 52 [zI, zI, zI, zB, zB, zI, zI, zI, zS]) 4 (xS 4 24 9 (xtM 25 5 .done))))))))))))))))) (xR (xpM 0 26 (xpN 26 27 (xpF 27 6 28 (xlO 28 29 (xpM 1 30 (xpM 0 31 (xpN 31 32 (xpF 32 6 33 (xlO 33 34 (xpM 1 35 (xpI 34 35 1 36 (xmO 36 37 (xp (.slc (xr 37) (some (xi 1)) none 2) 38 (xpI 29 30 1 39 (xS 39 38 1 .done))))))))))))))) (.seq (xR (xtM 5 40 (xtT 40 41 .done)) (.cond (xr 41) .ret .skip)) (xR (xtM 0 42 (xtN 42 43 (xtF 43 5 44 (xtO 44 45 (xtM 1 46 (xtI 45 46 28 47 (xtM 47 6 .done))))))) (xR (xt (.mv (.const zS)) 7 .done) (xR (xt (.mv (.const zS)) 8 .done) (.seq (xR (xtM 0 48 (xtN 48 49 (xtF 49 0 50 (xtF 50 0 51 (xtO 51 52 (xt (.bin .eql (xr 52) (xi 1)) 53 (xtM 53 9 .done))))))) (.block 0 (xR (xtM 9 55 (xtM 55 56 (xG (.fad (xr 4) 0) 57 56 true (xG (.ld (xr 57) 1 false) 58 56 true (xG (.bin .eql (xr 58) (xi 1)) 59 56 true (xG (.mv (xr 59)) 60 56 true (xG (.fad (xr 4) 0) 61 60 false (xG (.ld (xr 61) 1 false) 62 60 false (xG (.bin .eql (xr 62) (xi 2)) 63 60 false (xG (.pick (xr 60) (xb true) (xr 63)) 64 56 true (xt (.pick (xr 56) (xr 64) (xb false)) 65 (xtM 65 54 .done)))))))))))) (.cond (xr 54) (xR (xpM 6 66 (xpM 0 67 (xpN 67 68 (xpF 68 0 69 (xlA 69 5 70 (xpM 6 71 (xpN 71 72 (xpF 72 0 73 (xlA 4 9 75 (xmA 73 10 74 (xm (.call 129 [xr 70, xr 74, xr 75]) 76 (xpN 66 77 (xpF 77 0 78 (xS 78 76 10 .done)))))))))))))) (xQ (xpM 6 80 (xpM 0 81 (xpN 81 82 (xpF 82 0 83 (xlA 83 5 84 (xpM 6 85 (xpN 85 86 (xpF 86 10 87 (xlA 4 9 89 (xmA 87 7 88 (xm (.call 130 [xr 84, xr 88, xr 89]) 90 (xpM 90 79 (xpE 79 0 91 (xpE 79 1 92 (xpE 79 2 93 (xpN 80 94 (xpF 94 10 95 (xS 95 91 7 (xpM 92 7 (xpM 93 8 .done)))))))))))))))))))))) (xR (xtM 9 97 (xtT 97 98 (xtM 98 99 (xG (.fad (xr 4) 0) 100 99 true (xG (.ld (xr 100) 1 false) 101 99 true (xG (.bin .eql (xr 101) (xi 4)) 102 99 true (xt (.pick (xr 99) (xr 102) (xb false)) 103 (xtM 103 96 .done)))))))) (.cond (xr 96) (xQ (xpM 6 104 (xpM 0 105 (xpN 105 106 (xpF 106 0 107 (xlA 107 5 108 (xpM 6 109 (xpN 109 110 (xpF 110 17 111 (xpF 4 7 113 (xlO 113 114 (xmA 111 5 112 (xm (.call 131 [xr 108, xr 112, xr 114]) 115 (xpN 104 116 (xpF 116 17 117 (xS 117 115 5 .done)))))))))))))))) (xR (xtM 9 119 (xtT 119 120 (xtM 120 121 (xG (.fad (xr 4) 0) 122 121 true (xG (.ld (xr 122) 1 false) 123 121 true (xG (.bin .eql (xr 123) (xi 3)) 124 121 true (xt (.pick (xr 121) (xr 124) (xb false)) 125 (xtM 125 118 .done)))))))) (.cond (xr 118) (xQ (xpM 6 127 (xpM 0 128 (xpN 128 129 (xpF 129 0 130 (xlA 130 5 131 (xpM 6 132 (xpN 132 133 (xpF 133 22 134 (xlA 4 9 136 (xmA 134 4 135 (xm (.call 132 [xr 131, xr 135, xr 136]) 137 (xpM 137 126 (xpE 126 0 138 (xpE 126 1 139 (xpN 127 140 (xpF 140 22 141 (xS 141 138 4 (xpM 139 7 .done))))))))))))))))))) .skip)))))))) (.seq (xR (xtM 7 142 (xtL 142 143 (xt (.mv (xi 0)) 144 .done))) (.block 1 (.loop (xR (xt (.bin .lss (xr 144) (xr 143)) 145 .done) (.seq (.cond (xr 145) .skip (.exit 1)) (.seq (.block 2 (xR (xtI 142 144 1 146 (xtO 146 147 (xtM 147 11 .done))) (xR (xtM 6 148 (xtN 148 149 (xtF 149 27 150 (xtO 150 151 (xtL 151 152 (xt (.bin .lss (xr 152) (xi 60)) 153 .done)))))) (.cond (xr 153) (xQ (xtM 6 154 (xtM 6 155 (xtN 155 156 (xtF 156 27 157 (xtO 157 158 (xtM 11 159 (xt (.bsl 22 1 1 [zS] [(0, (xr 159))]) 160 (xt (.app 47 (xr 158) (xr 160)) 161 (xtN 154 162 (xtF 162 27 163 (xS 163 161 1 .done)))))))))))) .skip)))) (xQ (xt (.bin .add (xr 144) (xi 1)) 164 (xtM 164 144 .done))))))))) (xQ (xtM 0 165 (xtM 1 166 (xtM 8 167 (xt (.call 133 [xr 165, xr 166, xr 167]) 168 .done)))))))))))))
theorem ic95_ok : Tryz.f95.body.bind (trC Tryz.prog [1000036, 1000073, 1000087, 1000111, 1000134]) = some ic95 := by kernel_rfl
def fr95 : List FR := []
theorem fr95_ok : fres Tryz.prog Tryz.f95.results.toList = some fr95 := by kernel_rfl
def ic56 : IC := (xR (xt (.box 35 (xr 1)) 3 .done) (.seq (xR (xtF 3 1 7 (xtO 7 8 (xt (.call 34 [xr 8, (xi 0), (xi 1)]) 9 (xtT 9 10 .done)))) (.cond (xr 10) .ret .skip)) (xR (xpM 0 11 (xpN 11 12 (xpF 12 6 13 (xlO 13 14 (xpF 3 1 15 (xlO 15 16 (xpI 14 16 1 17 (xpM 17 4 .done)))))))) (xR (xtM 4 18 (xtN 18 19 (xtO 19 20 (xtL 20 21 (xt (.bin .gtr (xr 21) (xi 0)) 22 (xtM 22 5 .done)))))) (.block 0 (xR (xtF 3 0 24 (xtO 24 25 (xt (.bin .eql (xr 25) (xi 7)) 26 (xtM 26 27 (xG (.mv (xr 5)) 28 27 true (xt (.pick (xr 27) (xr 28) (xb false)) 29 (xtM 29 23 .done))))))) (.cond (xr 23) (xQ (xtM 0 30 (xtF 3 1 31 (xtO 31 32 (xt (.call 95 [xr 30, xr 32]) 33 .done))))) (xR (xtF 3 0 35 (xtO 35 36 (xt (.bin .eql (xr 36) (xi 8)) 37 (xtM 37 38 (xG (.mv (xr 5)) 39 38 true (xt (.pick (xr 38) (xr 39) (xb false)) 40 (xtM 40 34 .done))))))) (.cond (xr 34) (xQ (xtM 4 41 (xtM 4 42 (xtN 42 43 (xtO 43 44 (xt (.slc (xr 44) (some (xi 1)) none 2) 45 (xtN 41 46 (xS 46 45 1 .done)))))))) (xR (xtF 3 0 48 (xtO 48 49 (xt (.bin .eql (xr 49) (xi 9)) 50 (xtM 50 51 (xG (.mv (xr 5)) 52 51 true (xt (.pick (xr 51) (xr 52) (xb false)) 53 (xtM 53 47 .done))))))) (.cond (xr 47) (xR (xtM 4 54 (xtN 54 55 (xtO 55 56 (xt (.iad (xr 56) (xi 0) 2) 57 (xtM 57 6 .done))))) (xR (xpF 3 2 58 (xlO 58 59 (xpM 6 60 (xpN 60 61 (xpF 61 1 62 (xmO 62 63 (xp (.len (xr 63)) 64 (xp (.bin .sub (xr 64) (xi 1)) 65 (xm (.call 34 [xr 59, (xi 0), xr 65]) 66 (xpM 66 67 (.op .p (.fad (xr 3) 3) (some 68) (some (67, true)) (.op .l (.ld (xr 68) 1 false) (some 69) (some (67, true)) (.op .m (.call 34 [xr 69, (xi 1), (xi 255)]) (some 70) (some (67, true)) (xp (.pick (xr 67) (xr 70) (xb false)) 71 (xpM 71 72 (.op .p (.mv (xr 6)) (some 73) (some (72, true)) (.op .p (.nil (xr 73)) (some 74) (some (72, true)) (.op .p (.fad (xr 74) 0) (some 75) (some (72, true)) (.op .m (.ld (xr 75) 1 false) (some 76) (some (72, true)) (.op .p (.not (xr 76)) (some 77) (some (72, true)) (xp (.pick (xr 72) (xr 77) (xb false)) 78 .done))))))))))))))))))))) (.cond (xr 78) (xR (xpM 6 79 (xpN 79 80 (xpF 80 1 81 (xpF 3 2 83 (xlO 83 84 (xpF 3 3 87 (xlO 87 88 (xp (.cvi .u8 (xr 88)) 89 (xmO 81 82 (xpI 82 84 1 85 (xmO 85 86 (xp (.bin .xor (xr 86) (xr 89)) 90 (xpI 82 84 1 91 (xS 91 90 1 .done)))))))))))))) (xQ (xtM 6 92 (xtN 92 93 (xtF 93 0 94 (.op .t (.sto (xr 94) (xb true) 1) none none .done)))))) .skip))) (xR (xtF 3 0 96 (xtO 96 97 (xt (.bin .eql (xr 97) (xi 10)) 98 (xtM 98 95 .done)))) (.cond (xr 95) (xR (xtM 0 99 (xt (.oth (Op.makeSlice 29 (xi 2) (xi 2))) 100 (xtN 99 101 (xtF 101 6 102 (xS 102 100 1 .done))))) (xQ (xtM 0 103 (xtM 0 104 (xtN 104 105 (xtF 105 7 106 (xtO 106 107 (xt (.bin .sub (xi 1) (xr 107)) 108 (xtN 103 109 (xtF 109 7 110 (xS 110 108 1 .done))))))))))) (xR (xtF 3 0 112 (xtO 112 113 (xt (.bin .eql (xr 113) (xi 11)) 114 (xtM 114 115 (xG (.mv (xr 0)) 116 115 true (xG (.fad (xr 3) 1) 117 115 true (xG (.ld (xr 117) 1 false) 118 115 true (xG (.call 96 [xr 116, xr 118]) 119 115 true (xt (.pick (xr 115) (xr 119) (xb false)) 120 (xtM 120 121 (xG (.fad (xr 3) 4) 122 121 true (xG (.ld (xr 122) 1 false) 123 121 true (xG (.len (xr 123)) 124 121 true (xG (.bin .leq (xr 124) (xi 15)) 125 121 true (xt (.pick (xr 121) (xr 125) (xb false)) 126 (xtM 126 111 .done)))))))))))))))) (.cond (xr 111) (.join [] (xpM 4 127 (xpM 4 128 (xpN 128 129 (xpF 3 4 131 (xlO 131 132 (.alt (xmO 129 130 (xm (.call 29 [xr 132]) 133 (xp (.bld [zB, zS] [(1, (1, (xr 133)))]) 134 (xm (.bsl 56 2 1 [zB, zS] [(0, (xr 134))]) 135 (xm (.app 50 (xr 130) (xr 135)) 136 (xpN 127 137 (xS 137 136 1 .done))))))) (xm (.call 29 [xr 132]) 133 (xp (.bld [zB, zS] [(1, (1, (xr 133)))]) 134 (.alt (xmO 129 130 (xm (.bsl 56 2 1 [zB, zS] [(0, (xr 134))]) 135 (xm (.app 50 (xr 130) (xr 135)) 136 (xpN 127 137 (xS 137 136 1 .done))))) (xm (.bsl 56 2 1 [zB, zS] [(0, (xr 134))]) 135 (xmO 129 130 (xm (.app 50 (xr 130) (xr 135)) 136 (xpN 127 137 (xS 137 136 1 .done))))))))))))))) (xR (xtF 3 0 139 (xtO 139 140 (xt (.bin .lss (xr 140) (xi 7)) 141 (xtM 141 142 (xG (.mv (xr 0)) 143 142 true (xG (.nil (xr 143)) 144 142 true (xG (.fad (xr 144) 0) 145 142 true (xG (.fad (xr 145) 0) 146 142 true (xG (.ld (xr 146) 1 false) 147 142 true (xG (.bin .eql (xr 147) (xi 1)) 148 142 true (xt (.pick (xr 142) (xr 148) (xb false)) 149 (xtM 149 138 .done)))))))))))) (.cond (xr 138) (xQ (xtM 0 150 (xtA 3 5 151 (xt (.call 97 [xr 150, xr 151]) 152 .done)))) (xR (xtF 3 0 154 (xtO 154 155 (xt (.bin .lss (xr 155) (xi 7)) 156 (xtM 156 153 .done)))) (.cond (xr 153) (xQ (xtM 0 157 (xtA 3 5 158 (xt (.call 98 [xr 157, xr 158]) 159 .done)))) .skip)))))))))))))))))))
theorem ic56_ok : Tryz.f56.body.bind (trC Tryz.prog [1000062, 1000075, 1000081, 1000129, 1000085]) = some ic56 := by kernel_rfl
def fr56 : List FR := []
theorem fr56_ok : fres Tryz.prog Tryz.f56.results.toList = some fr56 := by kernel_rfl
set_option maxHeartbeats 1000000
abbrev tyW : Nat := 31
structure EndB (z : Zc) (e : End) (m : EndM) : Prop where
 fl : Sl pRep z e.tx.flight (.slice m.fA e.tx.flight.length m.fC)
 qu : Sl pRep z e.tx.queue (.slice m.qA e.tx.queue.length m.qC)
 pu : Els sduRep z e.put m.pV
 pc : e.put.length ≤ m.pC
 go : Els sduRep z e.got m.gV
 gc : e.got.length ≤ m.gC
 jo : By z e.rx.join.got (.slice m.jA e.rx.join.got.length m.jC)
 cq : Sl pRep z e.ctx.queue (.slice m.cA e.ctx.queue.length m.cC)
 kj : By z e.crx.join.got (.slice m.kA e.crx.join.got.length m.kC)
theorem EndB.mono {z z' : Zc} {e : End} {m : EndM} (hz : z ≤ z') (h : EndB z e m) : EndB z' e m := ⟨h.fl.mono hz, h.qu.mono hz, h.pu.mono hz, h.pc, h.go.mono hz, h.gc, Sl.mono hz h.jo, h.cq.mono hz, Sl.mono hz h.kj⟩
structure WldB (z : Zc) (e0 e1 : End) (n0 n1 : List Msg) (m : WM) : Prop where
 e0 : EndB z e0 m.m0
 e1 : EndB z e1 m.m1
 n0 : NetR n0 m.n0
 n1 : NetR n1 m.n1
theorem WldB.mono {z z' : Zc} {e0 e1 : End} {n0 n1 : List Msg} {m : WM} (hz : z ≤ z') (h : WldB z e0 e1 n0 n1 m) : WldB z' e0 e1 n0 n1 m := ⟨h.e0.mono hz, h.e1.mono hz, h.n0, h.n1⟩
abbrev wldL (e0 e1 : End) (n0 n1 : List Msg) (m : WM) : List Asrt := [rowA tyE 28 (.slice m.E 2 m.EC) 2 (endsC e0 e1 m.m0 m.m1), rowA tyN 1 (.slice m.N 2 m.NC) 2 [.slice m.n0.A n0.length m.n0.C, .slice m.n1.A n1.length m.n1.C],
 rowA tyS 1 (.slice m.m0.pA e0.put.length m.m0.pC) e0.put.length m.m0.pV, rowA tyS 1 (.slice m.m0.gA e0.got.length m.m0.gC) e0.got.length m.m0.gV, rowA tyS 1 (.slice m.m1.pA e1.put.length m.m1.pC) e1.put.length m.m1.pV, rowA tyS 1 (.slice m.m1.gA e1.got.length m.m1.gC) e1.got.length m.m1.gV,
 rowA tyM 2 (.slice m.n0.A n0.length m.n0.C) n0.length (netV n0 m.n0.ms), starL (netB n0 m.n0.ms), rowA tyM 2 (.slice m.n1.A n1.length m.n1.C) n1.length (netV n1 m.n1.ms), starL (netB n1 m.n1.ms)]
abbrev wldC (c : Cfg) (link : Int) (m : WM) : List Value := [.int .i64 c.mode, .int .i64 c.win, .int .i64 c.mps, .int .i64 c.mtu, .int .i64 c.tri, .slice m.E 2 m.EC, .slice m.N 2 m.NC, .int .i64 link]
abbrev wldP (b : Nat) (c : Cfg) (link : Int) (e0 e1 : End) (n0 n1 : List Msg) (m : WM) : Asrt := starL (ptrA tyW b (wldC c link m) :: wldL e0 e1 n0 n1 m)
def WldQ (c : Cfg) (w : Wld) (b : Nat) (z : Zc) (A : Asrt) : Prop := ∃ e0 e1 n0 n1 m link, w = ⟨c, [e0, e1], [n0, n1], link⟩ ∧ A = wldP b c link e0 e1 n0 n1 m ∧ WldB z e0 e1 n0 n1 m
theorem WldQ.mk {c : Cfg} {e0 e1 : End} {n0 n1 : List Msg} {m : WM} {link : Int} {z : Zc} {b : Nat} (h : WldB z e0 e1 n0 n1 m) : WldQ c ⟨c, [e0, e1], [n0, n1], link⟩ b z (wldP b c link e0 e1 n0 n1 m) := ⟨e0, e1, n0, n1, m, link, rfl, rfl, h⟩
theorem room0 (b : Nat) (c : Cfg) (link : Int) (e0 e1 : End) (n0 n1 : List Msg) (m : WM) (z : Zc) (h30 : n0.length ≤ 1000) :
  Spec Tryz.prog 96 [.pointer (some ⟨b, 0, none⟩), .int .i64 0] z (wldP b c link e0 e1 n0 n1 m) fun v z' A' => v = .bool (decide (n0.length < 30)) ∧ A' = wldP b c link e0 e1 n0 n1 m ∧ z = z' := by
 (refine spec_enterP [10, 11, 22, 23, 32, 33, 40, 41, 50, 51] Tryz.func96 ic96_ok fr96_ok Tryz.ntmps96 rfl ?_; simp only [seval, go_sem, ic96, fr96, zipL, vals])
 refine vsI.atR 11 rfl fun hN => ?_
 have hN := hN (by omega)
 refine gO ?_
 ((first | refine ⟨⟨by omega, hN⟩, ?_⟩ | refine ⟨hN, ?_⟩); (try simp only [seval, go_sem]))
 (refine ldF.one _ (RdS.cell 11 rfl rfl) ?_; refine gO ?_)
 refine wF1 ?_
 refine ⟨congrArg Value.bool ?_, trivial⟩
 rw [Bool.eq_iff_iff, decide_eq_true_iff, decide_eq_true_iff]
 omega
theorem room1 (b : Nat) (c : Cfg) (link : Int) (e0 e1 : End) (n0 n1 : List Msg) (m : WM) (z : Zc) (h30 : n1.length ≤ 1000) :
  Spec Tryz.prog 96 [.pointer (some ⟨b, 0, none⟩), .int .i64 1] z (wldP b c link e0 e1 n0 n1 m) fun v z' A' => v = .bool (decide (n1.length < 30)) ∧ A' = wldP b c link e0 e1 n0 n1 m ∧ z = z' := by
 (refine spec_enterP [10, 11, 22, 23, 32, 33, 40, 41, 50, 51] Tryz.func96 ic96_ok fr96_ok Tryz.ntmps96 rfl ?_; simp only [seval, go_sem, ic96, fr96, zipL, vals])
 refine vsI.atR 11 rfl fun hN => ?_
 have hN := hN (by omega)
 refine gO ?_
 ((first | refine ⟨⟨by omega, hN⟩, ?_⟩ | refine ⟨hN, ?_⟩); (try simp only [seval, go_sem]))
 (refine ldF.one _ (RdS.cell 11 rfl rfl) ?_; refine gO ?_)
 refine wF1 ?_
 refine ⟨congrArg Value.bool ?_, trivial⟩
 rw [Bool.eq_iff_iff, decide_eq_true_iff, decide_eq_true_iff]
 omega
set_option maxHeartbeats 4000000
def ic10 : IC := (xR (xt (.box 24 (xr 0)) 1 (xt (.alc 31 [zI, zI, zI, zI, zI, zS, zS, zI]) 2 .done)) (.seq (xR (xtA 1 5 3 (xt (.call 26 [xr 3]) 4 (xtT 4 5 .done))) (.cond (xr 5) (xR (xt (.bld [zI, zI, zI, zI, zI, zS, zS, zI] []) 6 (xS 2 6 8 .done)) .ret) .skip)) (.seq (.join [2] (xlA 1 5 7 (.alt (xm (.oth (Op.makeSlice 28 (xi 2) (xi 2))) 8 (xm (.oth (Op.makeSlice 29 (xi 2) (xi 2))) 9 (xp (.bld [zI, zI, zI, zI, zI, zS, zS, zI] [(0, (5, (xr 7))), (5, (1, (xr 8))), (6, (1, (xr 9)))]) 10 (.op .m (.sto (xr 2) (xr 10) 8) none none .done)))) (xm (.oth (Op.makeSlice 29 (xi 2) (xi 2))) 9 (xm (.oth (Op.makeSlice 28 (xi 2) (xi 2))) 8 (xp (.bld [zI, zI, zI, zI, zI, zS, zS, zI] [(0, (5, (xr 7))), (5, (1, (xr 8))), (6, (1, (xr 9)))]) 10 (.op .m (.sto (xr 2) (xr 10) 8) none none .done))))))) .ret)))
theorem ic10_ok : Tryz.f10.body.bind (trC Tryz.prog []) = some ic10 := by kernel_rfl
def fr10 : List FR := [(FR.c 2 8 true)]
theorem fr10_ok : fres Tryz.prog Tryz.f10.results.toList = some fr10 := by kernel_rfl
def ic45 : IC := (xR (xt (.box 31 (xr 0)) 1 (xt (.alc 31 [zI, zI, zI, zI, zI, zS, zS, zI]) 2 .done)) (.seq (.join [] (xpF 1 0 10 (xlA 10 5 11 (xpF 1 5 12 (xlO 12 13 (xp (.len (xr 13)) 14 (xpF 1 6 16 (xlO 16 17 (xp (.len (xr 17)) 18 (xpF 1 7 20 (xlO 20 21 (.alt (xm (.oth (Op.makeSlice 28 (xr 14) (xr 14))) 15 (.alt (xm (.oth (Op.makeSlice 29 (xr 18) (xr 18))) 19 (xp (.bld [zI, zI, zI, zI, zI, zS, zS, zI] [(0, (5, (xr 11))), (5, (1, (xr 15))), (6, (1, (xr 19))), (7, (1, (xr 21)))]) 22 (xm (.alc 31 [zI, zI, zI, zI, zI, zS, zS, zI]) 3 (xS 3 22 8 .done)))) (xm (.alc 31 [zI, zI, zI, zI, zI, zS, zS, zI]) 3 (xm (.oth (Op.makeSlice 29 (xr 18) (xr 18))) 19 (xp (.bld [zI, zI, zI, zI, zI, zS, zS, zI] [(0, (5, (xr 11))), (5, (1, (xr 15))), (6, (1, (xr 19))), (7, (1, (xr 21)))]) 22 (xS 3 22 8 .done)))))) (.alt (xm (.oth (Op.makeSlice 29 (xr 18) (xr 18))) 19 (.alt (xm (.oth (Op.makeSlice 28 (xr 14) (xr 14))) 15 (xp (.bld [zI, zI, zI, zI, zI, zS, zS, zI] [(0, (5, (xr 11))), (5, (1, (xr 15))), (6, (1, (xr 19))), (7, (1, (xr 21)))]) 22 (xm (.alc 31 [zI, zI, zI, zI, zI, zS, zS, zI]) 3 (xS 3 22 8 .done)))) (xm (.alc 31 [zI, zI, zI, zI, zI, zS, zS, zI]) 3 (xm (.oth (Op.makeSlice 28 (xr 14) (xr 14))) 15 (xp (.bld [zI, zI, zI, zI, zI, zS, zS, zI] [(0, (5, (xr 11))), (5, (1, (xr 15))), (6, (1, (xr 19))), (7, (1, (xr 21)))]) 22 (xS 3 22 8 .done)))))) (xm (.alc 31 [zI, zI, zI, zI, zI, zS, zS, zI]) 3 (.alt (xm (.oth (Op.makeSlice 28 (xr 14) (xr 14))) 15 (xm (.oth (Op.makeSlice 29 (xr 18) (xr 18))) 19 (xp (.bld [zI, zI, zI, zI, zI, zS, zS, zI] [(0, (5, (xr 11))), (5, (1, (xr 15))), (6, (1, (xr 19))), (7, (1, (xr 21)))]) 22 (xS 3 22 8 .done)))) (xm (.oth (Op.makeSlice 29 (xr 18) (xr 18))) 19 (xm (.oth (Op.makeSlice 28 (xr 14) (xr 14))) 15 (xp (.bld [zI, zI, zI, zI, zI, zS, zS, zI] [(0, (5, (xr 11))), (5, (1, (xr 15))), (6, (1, (xr 19))), (7, (1, (xr 21)))]) 22 (xS 3 22 8 .done))))))))))))))))))) (.seq (xR (xtF 1 5 23 (xtO 23 24 (xtL 24 25 (xt (.mv (xi 0)) 26 .done)))) (.block 0 (.loop (xR (xt (.bin .lss (xr 26) (xr 25)) 27 .done) (.seq (.cond (xr 27) .skip (.exit 0)) (.seq (.block 1 (xR (xtM 26 28 (xtI 24 26 28 29 (xtA 29 28 30 (xt (.alc 49 [zI, zI, zS, zI, zS, zB, zI, zB, zI, zB, zI, zI, zI, zS, zB, zB, zB, zI, zS, zI, zI, zB, zI, zI, zS, zB, zS, zS]) 5 (xtM 28 4 (xS 5 30 28 .done)))))) (xQ (xpF 3 5 31 (xlO 31 32 (xpM 4 33 (xpF 5 0 34 (xlA 34 10 35 (xpF 5 10 37 (xlA 37 7 38 (xpF 5 17 40 (xlA 40 5 41 (xpF 5 22 43 (xlA 43 4 44 (xpF 5 26 46 (xlO 46 47 (xpF 5 27 49 (xlO 49 50 (xm (.call 69 [xr 35]) 36 (xm (.call 70 [xr 38]) 39 (xm (.call 71 [xr 41]) 42 (xm (.call 72 [xr 44]) 45 (xm (.call 73 [xr 47]) 48 (xm (.call 73 [xr 50]) 51 (xp (.bld [zI, zI, zS, zI, zS, zB, zI, zB, zI, zB, zI, zI, zI, zS, zB, zB, zB, zI, zS, zI, zI, zB, zI, zI, zS, zB, zS, zS] [(0, (10, (xr 36))), (10, (7, (xr 39))), (17, (5, (xr 42))), (22, (4, (xr 45))), (26, (1, (xr 48))), (27, (1, (xr 51)))]) 52 (xpI 32 33 28 53 (xS 53 52 28 .done))))))))))))))))))))))))))) (xQ (xt (.bin .add (xr 26) (xi 1)) 54 (xtM 54 26 .done))))))))) (.seq (xR (xtF 1 6 55 (xtO 55 56 (xtL 56 57 (xt (.mv (xi 0)) 58 .done)))) (.block 2 (.loop (xR (xt (.bin .lss (xr 58) (xr 57)) 59 .done) (.seq (.cond (xr 59) .skip (.exit 2)) (.seq (.block 3 (xR (xtM 58 60 (xtI 56 58 1 61 (xtO 61 62 (xtM 60 6 (xtM 62 7 .done))))) (xR (xpF 3 6 63 (xlO 63 64 (xpM 6 65 (xpM 7 66 (xm (.call 74 [xr 66]) 67 (xpI 64 65 1 68 (xS 68 67 1 .done))))))) (xR (xtM 7 69 (xtL 69 70 (xt (.mv (xi 0)) 71 .done))) (.block 4 (.loop (xR (xt (.bin .lss (xr 71) (xr 70)) 72 .done) (.seq (.cond (xr 72) .skip (.exit 4)) (.seq (.block 5 (xR (xtM 71 73 (xtI 69 71 2 74 (xtA 74 2 75 (xt (.alc 56 [zB, zS]) 9 (xtM 73 8 (xS 9 75 2 .done)))))) (.join [] (xpF 3 6 76 (xlO 76 77 (xpM 6 78 (xpI 77 78 1 79 (xpM 8 81 (xpF 9 1 82 (xlO 82 83 (.alt (xmO 79 80 (xm (.call 29 [xr 83]) 84 (xpI 80 81 2 85 (xpF 85 1 86 (xS 86 84 1 .done))))) (xm (.call 29 [xr 83]) 84 (xmO 79 80 (xpI 80 81 2 85 (xpF 85 1 86 (xS 86 84 1 .done)))))))))))))))) (xQ (xt (.bin .add (xr 71) (xi 1)) 87 (xtM 87 71 .done)))))))))))) (xQ (xt (.bin .add (xr 58) (xi 1)) 88 (xtM 88 58 .done))))))))) (xR (xtA 3 8 89 (xS 2 89 8 .done)) .ret)))))
theorem ic45_ok : Tryz.f45.body.bind (trC Tryz.prog [1000079]) = some ic45 := by kernel_rfl
def fr45 : List FR := [(FR.c 2 8 true)]
theorem fr45_ok : fres Tryz.prog Tryz.f45.results.toList = some fr45 := by kernel_rfl
def ic14 : IC := (xR (xt (.box 31 (xr 0)) 1 (xt (.mv (xb false)) 2 .done)) (.seq (xR (xtF 1 0 5 (xtA 5 5 6 (xt (.call 26 [xr 6]) 7 (xtT 7 8 (xtM 8 9 (xG (.fad (xr 1) 5) 10 9 false (xG (.ld (xr 10) 1 false) 11 9 false (xG (.len (xr 11)) 12 9 false (xG (.bin .neq (xr 12) (xi 2)) 13 9 false (xt (.pick (xr 9) (xb true) (xr 13)) 14 (xtM 14 15 (xG (.fad (xr 1) 6) 16 15 false (xG (.ld (xr 16) 1 false) 17 15 false (xG (.len (xr 17)) 18 15 false (xG (.bin .neq (xr 18) (xi 2)) 19 15 false (xt (.pick (xr 15) (xb true) (xr 19)) 20 (xtM 20 21 (xG (.fad (xr 1) 7) 22 21 false (xG (.ld (xr 22) 1 false) 23 21 false (xG (.call 34 [xr 23, (xi 0), (xi 1)]) 24 21 false (xG (.not (xr 24)) 25 21 false (xt (.pick (xr 21) (xb true) (xr 25)) 26 .done)))))))))))))))))))))) (.cond (xr 26) (xR (xt (.mv (xb false)) 2 .done) .ret) .skip)) (.seq (xR (xtF 1 5 27 (xtO 27 28 (xtL 28 29 (xt (.mv (xi 0)) 30 .done)))) (.block 0 (.loop (xR (xt (.bin .lss (xr 30) (xr 29)) 31 .done) (.seq (.cond (xr 31) .skip (.exit 0)) (.seq (.block 1 (xR (xtM 30 32 (xtI 28 30 28 33 (xtA 33 28 34 (xt (.alc 49 [zI, zI, zS, zI, zS, zB, zI, zB, zI, zB, zI, zI, zI, zS, zB, zB, zB, zI, zS, zI, zI, zB, zI, zI, zS, zB, zS, zS]) 4 (xtM 32 3 (xS 4 34 28 .done)))))) (xR (xtF 1 0 35 (xtA 35 5 36 (xtF 4 0 37 (xtA 37 10 38 (xt (.call 35 [xr 36, xr 38]) 39 (xtT 39 40 (xtM 40 41 (xG (.fad (xr 4) 10) 42 41 false (xG (.ld (xr 42) 7 true) 43 41 false (xG (.call 36 [xr 43]) 44 41 false (xG (.not (xr 44)) 45 41 false (xt (.pick (xr 41) (xb true) (xr 45)) 46 (xtM 46 47 (xG (.fad (xr 1) 0) 48 47 false (xG (.ld (xr 48) 5 true) 49 47 false (xG (.fad (xr 4) 17) 50 47 false (xG (.ld (xr 50) 5 true) 51 47 false (xG (.call 37 [xr 49, xr 51]) 52 47 false (xG (.not (xr 52)) 53 47 false (xt (.pick (xr 47) (xb true) (xr 53)) 54 (xtM 54 55 (xG (.fad (xr 4) 22) 56 55 false (xG (.ld (xr 56) 4 true) 57 55 false (xG (.call 38 [xr 57]) 58 55 false (xG (.not (xr 58)) 59 55 false (xt (.pick (xr 55) (xb true) (xr 59)) 60 (xtM 60 61 (xG (.fad (xr 4) 26) 62 61 false (xG (.ld (xr 62) 1 false) 63 61 false (xG (.call 39 [xr 63]) 64 61 false (xG (.not (xr 64)) 65 61 false (xt (.pick (xr 61) (xb true) (xr 65)) 66 (xtM 66 67 (xG (.fad (xr 4) 27) 68 67 false (xG (.ld (xr 68) 1 false) 69 67 false (xG (.call 39 [xr 69]) 70 67 false (xG (.not (xr 70)) 71 67 false (xt (.pick (xr 67) (xb true) (xr 71)) 72 (xtM 72 73 (xG (.fad (xr 1) 6) 74 73 false (xG (.ld (xr 74) 1 false) 75 73 false (xG (.mv (xr 3)) 76 73 false (xG (.iad (xr 75) (xr 76) 1) 77 73 false (xG (.ld (xr 77) 1 false) 78 73 false (xG (.len (xr 78)) 79 73 false (xG (.bin .gtr (xr 79) (xi 30)) 80 73 false (xt (.pick (xr 73) (xb true) (xr 80)) 81 (xtM 81 82 (xG (.fad (xr 1) 6) 83 82 false (xG (.ld (xr 83) 1 false) 84 82 false (xG (.mv (xr 3)) 85 82 false (xG (.iad (xr 84) (xr 85) 1) 86 82 false (xG (.ld (xr 86) 1 false) 87 82 false (xG (.call 40 [xr 87, (.func 41)]) 88 82 false (xt (.pick (xr 82) (xb true) (xr 88)) 89 .done))))))))))))))))))))))))))))))))))))))))))))))))))))))) (.cond (xr 89) (xR (xt (.mv (xb false)) 2 .done) .ret) .skip)))) (xQ (xt (.bin .add (xr 30) (xi 1)) 90 (xtM 90 30 .done))))))))) (xR (xt (.mv (xb true)) 2 .done) .ret))))
theorem ic14_ok : Tryz.f14.body.bind (trC Tryz.prog []) = some ic14 := by kernel_rfl
def fr14 : List FR := [(FR.t 2)]
theorem fr14_ok : fres Tryz.prog Tryz.f14.results.toList = some fr14 := by kernel_rfl
def ic41 : IC := (xR (xt (.box 56 (xr 0)) 1 (xt (.mv (xb false)) 2 .done)) (xR (xtF 1 1 3 (xtO 3 4 (xtL 4 5 (xt (.bin .gtr (xr 5) (xi 15)) 6 (xtM 6 2 .done))))) .ret))
theorem ic41_ok : Tryz.f41.body.bind (trC Tryz.prog []) = some ic41 := by kernel_rfl
def fr41 : List FR := [(FR.t 2)]
theorem fr41_ok : fres Tryz.prog Tryz.f41.results.toList = some fr41 := by kernel_rfl
def ic27 : IC := (xR (xt (.box 31 (xr 0)) 2 (xt (.alc 31 [zI, zI, zI, zI, zI, zS, zS, zI]) 4 .done)) (.seq (xR (xtA 2 8 8 (xt (.call 14 [xr 8]) 9 (xtT 9 10 (xtM 10 11 (xG (.mv (xr 1)) 12 11 false (xG (.len (xr 12)) 13 11 false (xG (.bin .gtr (xr 13) (xi 400)) 14 11 false (xt (.pick (xr 11) (xb true) (xr 14)) 15 .done)))))))) (.cond (xr 15) (xR (xt (.bld [zI, zI, zI, zI, zI, zS, zS, zI] []) 16 (xS 4 16 8 .done)) .ret) .skip)) (xR (xtA 2 8 17 (xt (.call 45 [xr 17]) 18 (xt (.alc 31 [zI, zI, zI, zI, zI, zS, zS, zI]) 5 (xS 5 18 8 .done)))) (.seq (xR (xtM 1 19 (xtL 19 20 (xt (.mv (xi 0)) 21 .done))) (.block 0 (.loop (xR (xt (.bin .lss (xr 21) (xr 20)) 22 .done) (.seq (.cond (xr 22) .skip (.exit 0)) (.seq (.block 1 (xR (xtI 19 21 5 23 (xtA 23 5 24 (xt (.alc 35 [zI, zI, zI, zI, zS]) 7 (xS 7 24 5 .done)))) (xQ (xtA 7 5 25 (xt (.call 56 [xr 5, xr 25]) 26 .done))))) (xQ (xt (.bin .add (xr 21) (xi 1)) 27 (xtM 27 21 .done))))))))) (xR (xtA 5 8 28 (xt (.call 45 [xr 28]) 29 (xS 4 29 8 .done))) .ret)))))
theorem ic27_ok : Tryz.f27.body.bind (trC Tryz.prog []) = some ic27 := by kernel_rfl
def fr27 : List FR := [(FR.c 4 8 true)]
theorem fr27_ok : fres Tryz.prog Tryz.f27.results.toList = some fr27 := by kernel_rfl
def ic11 : IC := (xR (xt (.box 31 (xr 0)) 2 (xt (.box 35 (xr 1)) 3 (xt (.alc 31 [zI, zI, zI, zI, zI, zS, zS, zI]) 4 .done))) (xR (xtA 2 8 5 (xtA 3 5 6 (xt (.bsl 35 5 1 [zI, zI, zI, zI, zS] [(0, (xr 6))]) 7 (xt (.call 27 [xr 5, xr 7]) 8 (xS 4 8 8 .done))))) .ret))
theorem ic11_ok : Tryz.f11.body.bind (trC Tryz.prog []) = some ic11 := by kernel_rfl
def fr11 : List FR := [(FR.c 4 8 true)]
theorem fr11_ok : fres Tryz.prog Tryz.f11.results.toList = some fr11 := by kernel_rfl
def ic19 : IC := (xR (xt (.box 31 (xr 0)) 1 (xt (.mv (xb false)) 2 .done)) (xR (xtF 1 5 3 (xtO 3 4 (xt (.call 43 [xr 4, (.func 44)]) 5 (xtM 5 2 .done)))) .ret))
theorem ic19_ok : Tryz.f19.body.bind (trC Tryz.prog []) = some ic19 := by kernel_rfl
def fr19 : List FR := [(FR.t 2)]
theorem fr19_ok : fres Tryz.prog Tryz.f19.results.toList = some fr19 := by kernel_rfl
def ic44 : IC := (xR (xt (.box 49 (xr 0)) 1 (xt (.mv (xb false)) 2 .done)) (xR (xtF 1 0 3 (xtF 3 9 4 (xtO 4 5 (xtM 5 6 (xG (.fad (xr 1) 10) 7 6 false (xG (.fad (xr 7) 6) 8 6 false (xG (.ld (xr 8) 1 false) 9 6 false (xt (.pick (xr 6) (xb true) (xr 9)) 10 (xtM 10 11 (xG (.fad (xr 1) 17) 12 11 false (xG (.fad (xr 12) 4) 13 11 false (xG (.ld (xr 13) 1 false) 14 11 false (xt (.pick (xr 11) (xb true) (xr 14)) 15 (xtM 15 16 (xG (.fad (xr 1) 22) 17 16 false (xG (.fad (xr 17) 3) 18 16 false (xG (.ld (xr 18) 1 false) 19 16 false (xt (.pick (xr 16) (xb true) (xr 19)) 20 (xtM 20 2 .done))))))))))))))))))) .ret))
theorem ic44_ok : Tryz.f44.body.bind (trC Tryz.prog []) = some ic44 := by kernel_rfl
def fr44 : List FR := [(FR.t 2)]
theorem fr44_ok : fres Tryz.prog Tryz.f44.results.toList = some fr44 := by kernel_rfl
def ic43 : IC := (xR (xt (.mv (xb false)) 4 .done) (xR (xtM 0 5 (xtM 1 6 (xt (.call 68 [xr 5, xr 6]) 7 (xt (.bin .geq (xr 7) (xi 0)) 8 (xtM 8 4 .done))))) .ret))
theorem ic43_ok : Tryz.f43.body.bind (trC Tryz.prog []) = some ic43 := by kernel_rfl
def fr43 : List FR := [(FR.t 4)]
theorem fr43_ok : fres Tryz.prog Tryz.f43.results.toList = some fr43 := by kernel_rfl
def ic68 : IC := (xR (xt (.mv (xi 0)) 4 .done) (.seq (xR (xtM 0 6 (xtL 6 7 (xt (.mv (xi 0)) 8 .done))) (.block 0 (.loop (xR (xt (.bin .lss (xr 8) (xr 7)) 9 .done) (.seq (.cond (xr 9) .skip (.exit 0)) (.seq (.block 1 (xR (xtM 8 10 (xtM 10 5 .done)) (xR (xtM 1 11 (xtM 0 12 (xtM 5 13 (xtI 12 13 28 14 (xtA 14 28 15 (xt (.oth (Op.call (Call.mk (Callee.value (xr 11)) #[xr 15] #[49]))) 16 .done)))))) (.cond (xr 16) (xR (xtM 5 17 (xtM 17 4 .done)) .ret) .skip)))) (xQ (xt (.bin .add (xr 8) (xi 1)) 18 (xtM 18 8 .done))))))))) (xR (xt (.mv (xi (-1))) 4 .done) .ret)))
theorem ic68_ok : Tryz.f68.body.bind (trC Tryz.prog []) = some ic68 := by kernel_rfl
def fr68 : List FR := [(FR.t 4)]
theorem fr68_ok : fres Tryz.prog Tryz.f68.results.toList = some fr68 := by kernel_rfl
set_option maxHeartbeats 1000000
theorem copysdusO (l : List (List Int)) (v : Value) (z : Zc) (h : Sl sduRep z l v) (hl : l.length ≤ 1000000) (hp : ∀ p ∈ l, p.length ≤ 1000000000) :
  Spec Tryz.prog 73 [v] z emp fun u z' A' => ∃ A c cs, u = .slice A l.length c ∧ A' = rowA tyS 1 (.slice A l.length c) l.length cs ∧ l.length ≤ c ∧ Els sduRep z' l cs := by
 obtain ⟨A, k, cs, rfl, hk, he, hr⟩ := h
 (refine spec_enter0 Tryz.func73 ic73_ok fr73_ok Tryz.ntmps73 ?_; simp only [seval, go_sem, ic73, fr73])
 refine gO ?_
 refine othM.toT (oth_makeSlice 90 atyS rfl rfl rfl (by omega) (by decide) (fun v z0 hz0 => ?_))
 simp only [seval, go_sem]
 refine vsI.formR 90 rfl fun A2 c2 hv2 hc2 => ?_
 subst hv2
 refine vsI.atR 90 rfl fun hat2 => ?_
 have hlen : (madeCells z0.cells (l.length * 1)).toList.length = l.length := by simp [size_madeCells]
 refine gO ?_
 refine loop_upd (ι := CopS) (n := 0) (fun i => z ≤ i.z ∧ i.i ≤ l.length ∧ Els sduRep i.z (l.take i.i) i.c1 ∧ i.c2.length = l.length - i.i) (fun i => [(11, .c (.v (.int .i64 i.i)))]) (fun i => [(90, .own (rowA tyS 1 (.slice A2 l.length c2) l.length (i.c1 ++ i.c2)))]) (fun i => i.z) (fun i => l.length - i.i) ⟨0, [], (madeCells z0.cells (l.length * 1)).toList, z⟩ ⟨Zc.rfl' _, by simp, rfl, by simpa using hlen⟩ (by (simp only [wrI, wrR, anyL, st, List.append_nil, List.nil_append, List.cons_append]); exact rfl) ?_ ?_
 ·exact lE
 ·rintro ⟨i, d1, d2, z2⟩ ⟨hz2, hi, hd, hd2⟩
  dsimp only at *
  refine gO ?_
  (with_reducible refine condI.split (fun hg => ?_) (fun hg => ?_) <;> (try simp only [hg]) <;> (try simp only [seval, go_sem]))
  ·refine gO ?_
   have hi' : i < l.length := by simp at hg; omega
   obtain ⟨x, hx⟩ : ∃ x, l[i]? = some x := ⟨_, List.getElem?_eq_getElem hi'⟩
   have hxp := hp x (List.mem_of_getElem? hx)
   obtain ⟨c1, ⟨v, rfl, hb⟩, hr1⟩ := (he.mono hz2).at (hr.mono hz2) hx
   obtain ⟨A1, c1, rfl, hc1, hB1, hrb⟩ := By.form hb
   have hat : IsAt A := he.isAt hr (by decide) hi'
   (refine ⟨⟨by omega, by omega, hat⟩, ?_⟩; (try simp only [seval, go_sem]))
   (refine ldF.one _ (by first | exact .inl hr1 | exact hr1) ?_; (try simp only [seval, go_sem]))
   refine gO ?_
   refine tT ?_; refine callP (cloneBy x _ z2 hb (by omega)) rfl rfl ?_; rintro v3 z3 hz3 ⟨A3, rfl, _, hr3⟩; refine gO ?_
   (refine ⟨⟨by omega, by omega, hat2 (by omega)⟩, ?_⟩; (try simp only [seval, go_sem]))
   refine stoV_row 90 rfl rfl rfl rfl rfl rfl rfl (by rw [List.length_append, hd2, hd.length]; simp; show _ ≤ min i l.length * 1 + _; omega) ?_
   simp only [seval, go_sem]
   refine gO ?_
   have hl1 : d1.length = i * 1 := by rw [hd.length]; show (l.take i).length * 1 = _; simp; omega
   rw [putV_at hl1]
   refine ⟨⟨i + 1, d1 ++ [.slice A3 x.length x.length], d2.drop 1, z3⟩, ⟨Zc.trans' hz2 hz3, by dsimp only; omega, ?_, by simp; omega⟩, by dsimp only; omega, ?_⟩
   ·dsimp only
    rw [List.take_add_one, hx]
    exact (hd.mono hz3).append (Els.single ⟨_, rfl, By.mk (Nat.le_refl _) hB1 hr3⟩)
   ·exact lE
  ·refine gO ?_
   (((try simp only [seval, go_sem]);repeat((with_reducible first|refine vJ ?_|refine vK ?_);try simp only [seval, go_sem])); refine FinV.own 90 rfl ?_; simp only [finE, finS, gt, look, SV.toV, SC.toV, allV, tupV, zq1, zq2, zq3, zq4, Nat.reduceAdd, Nat.reduceEqDiff, reduceCtorEq, if_true, if_false, reduceIte, Nat.succ_ne_self, true_and, zq5, zq7, zq8])
   have : i = l.length := by simp at hg; omega
   subst this
   have : d2 = [] := List.eq_nil_of_length_eq_zero (by omega)
   subst this
   exact ⟨A2, c2, d1, rfl, by simp, hc2, by simpa using hd⟩
theorem scloneMO (A : Option Addr) (n c : Nat) (cs : List Value) (z : Zc) (hr : RdAt z A 0 cs) (hl : cs.length = n * 2) (h1 : ∀ u ∈ cs, u.oneCell' = true) (hb : n ≤ 1000000000) :
  Spec Tryz.prog 108 [.slice A n c] z emp fun v z' A' => ∃ A2 c2, v = .slice A2 n c2 ∧ n ≤ c2 ∧ A' = rowA tyM 2 (.slice A2 n c2) n cs := by
 by_cases hn : n = 0
 ·subst hn
  obtain rfl : cs = [] := List.eq_nil_of_length_eq_zero (by omega)
  (refine spec_enter0 Tryz.func108 ic108_ok fr108_ok Tryz.ntmps108 ?_; simp only [seval, go_sem, ic108, fr108])
  refine gO ?_
  (with_reducible refine condI.split (fun hg => ?_) (fun hg => ?_) <;> (try simp only [hg]) <;> (try simp only [seval, go_sem]))
  ·refine gO ?_
   refine FinV.tf (Tf.nilRow 90 tyM 2 rfl) ?_
   dsimp only
   (((try simp only [seval, go_sem]);repeat((with_reducible first|refine vJ ?_|refine vK ?_);try simp only [seval, go_sem])); refine FinV.own 90 rfl ?_; simp only [finE, finS, gt, look, SV.toV, SC.toV, allV, tupV, zq1, zq2, zq3, zq4, Nat.reduceAdd, Nat.reduceEqDiff, reduceCtorEq, if_true, if_false, reduceIte, Nat.succ_ne_self, true_and, zq5, zq7, zq8])
   exact ⟨none, 0, rfl, by omega, rfl⟩
  ·refine gO ?_
   refine aT ?_; (refine appM_zero atyMs (by first | exact .inl ⟨_, _, _, Nat.le_refl _, rfl⟩ | exact .inr ⟨_, _, rfl⟩) rfl ?_); refine gO ?_
   refine FinV.toRow 90 0 (m := 0) (sz := 2) rfl rfl rfl (by omega) (fun b => ?_)
   simp only [seval, go_sem, rowSt, subV, subC, subE, subL]
   (((try simp only [seval, go_sem]);repeat((with_reducible first|refine vJ ?_|refine vK ?_);try simp only [seval, go_sem])); refine FinV.own 90 rfl ?_; simp only [finE, finS, gt, look, SV.toV, SC.toV, allV, tupV, zq1, zq2, zq3, zq4, Nat.reduceAdd, Nat.reduceEqDiff, reduceCtorEq, if_true, if_false, reduceIte, Nat.succ_ne_self, true_and, zq5, zq7, zq8])
   exact ⟨_, _, rfl, by simp, rfl⟩
 ·(refine spec_enter0 Tryz.func108 ic108_ok fr108_ok Tryz.ntmps108 ?_; simp only [seval, go_sem, ic108, fr108])
  refine gO ?_
  (with_reducible refine condI.split (fun hg => ?_) (fun hg => ?_) <;> (try simp only [hg]) <;> (try simp only [seval, go_sem]))
  ·exfalso
   cases A with
   | none => obtain ⟨b, o, e, _⟩ := hr (by intro e; subst e; simp at hl; omega); cases e
   | some a => simp at hg
  ·refine gO ?_
   refine aT ?_; (refine appM_emptyO 90 atyMs rfl (by first | exact .inl ⟨_, rfl⟩ | exact .inr ⟨_, _, rfl⟩) rfl (hr) (by first | omega | (simp <;> omega)) (h1) (by omega) (by omega) (fun A2 c2 hc2 => ?_)); refine gO ?_
   (((try simp only [seval, go_sem]);repeat((with_reducible first|refine vJ ?_|refine vK ?_);try simp only [seval, go_sem])); refine FinV.own 90 rfl ?_; simp only [finE, finS, gt, look, SV.toV, SC.toV, allV, tupV, zq1, zq2, zq3, zq4, Nat.reduceAdd, Nat.reduceEqDiff, reduceCtorEq, if_true, if_false, reduceIte, Nat.succ_ne_self, true_and, zq5, zq7, zq8])
   exact ⟨A2, c2, rfl, hc2, rfl⟩
theorem cloneMO (A : Option Addr) (n c : Nat) (cs : List Value) (z : Zc) (hr : RdAt z A 0 cs) (hl : cs.length = n * 2) (h1 : ∀ u ∈ cs, u.oneCell' = true) (hb : n ≤ 1000000000) :
  Spec Tryz.prog 74 [.slice A n c] z emp fun v z' A' => ∃ A2, v = .slice A2 n n ∧ A' = rowA tyM 2 (.slice A2 n n) n cs ∧ (0 < n → IsAt A2) := by
 (refine spec_enter0 Tryz.func74 ic74_ok fr74_ok Tryz.ntmps74 ?_; simp only [seval, go_sem, ic74, fr74])
 refine gO ?_
 refine tT ?_; refine callO 90 (scloneMO A n c cs z hr hl h1 hb) rfl rfl rfl ?_; rintro v z1 A' hz1 ⟨A2, c2, rfl, hc2, rfl⟩; refine gO ?_
 refine tT ?_; refine callP (sclipM A2 n c2 z1 hc2 hb) rfl rfl ?_; rintro v z2 hz2 rfl; refine gO ?_
 refine FinV.tf (Tf.cut 90 rfl rfl 0 n n (by omega) (by omega) (by omega) (by omega) (.inl rfl)) ?_
 by_cases hn : 0 < n
 ·refine FinV.atR 90 rfl hn fun hat => ?_
  (((try simp only [seval, go_sem]);repeat((with_reducible first|refine vJ ?_|refine vK ?_);try simp only [seval, go_sem])); refine FinV.own 90 rfl ?_; simp only [finE, finS, gt, look, SV.toV, SC.toV, allV, tupV, zq1, zq2, zq3, zq4, Nat.reduceAdd, Nat.reduceEqDiff, reduceCtorEq, if_true, if_false, reduceIte, Nat.succ_ne_self, true_and, zq5, zq7, zq8])
  exact ⟨_, rfl, by rw [List.take_of_length_le (by omega)], fun _ => by simpa only [cutA_zero] using hat⟩
 ·(((try simp only [seval, go_sem]);repeat((with_reducible first|refine vJ ?_|refine vK ?_);try simp only [seval, go_sem])); refine FinV.own 90 rfl ?_; simp only [finE, finS, gt, look, SV.toV, SC.toV, allV, tupV, zq1, zq2, zq3, zq4, Nat.reduceAdd, Nat.reduceEqDiff, reduceCtorEq, if_true, if_false, reduceIte, Nat.succ_ne_self, true_and, zq5, zq7, zq8])
  exact ⟨_, rfl, by rw [List.take_of_length_le (by omega)], fun h => absurd h hn⟩
theorem nets_zero' : (madeCells (Value.slice none 0 0).cells 2).toList = [.slice none 0 0, .slice none 0 0] := by kernel_rfl
theorem nets_zero {z0 : Value} (h : ∃ i, Tryz.prog.info? tyN = some i ∧ i.zero = some z0) : (madeCells z0.cells 2).toList = [.slice none 0 0, .slice none 0 0] := by
 obtain ⟨i, h1, h2⟩ := h
 have h3 : (Tryz.prog.info? tyN).bind (·.zero) = some (.slice none 0 0) := by kernel_rfl
 rw [h1, Option.bind_some, h2] at h3
 injection h3 with h3
 subst h3
 exact nets_zero'
theorem RdA.wldB {z : Zc} {e0 e1 : End} {n0 n1 : List Msg} {m : WM} (hR : WldB z e0 e1 n0 n1 m) : RdA (starL (wldL e0 e1 n0 n1 m)) fun z' => z ≤ z' → WldP z' e0 e1 n0 n1 m := fun z' F hh hz hle => by
 obtain ⟨E, N, p0, g0, p1, g1, r0, b0, r1, b1, _⟩ := (RdA.cons RdA.row (.cons RdA.row (.cons RdA.row (.cons RdA.row (.cons RdA.row (.cons RdA.row (.cons RdA.row (.cons (RdA.net hR.n0.ok) (.cons RdA.row (.cons (RdA.net hR.n1.ok) RdA.nil)))))))))) z' F hh hz
 have h0 := hR.e0.mono hle
 have h1 := hR.e1.mono hle
 exact ⟨E, N, ⟨h0.fl, h0.qu, ⟨_, _, _, rfl, h0.pc, h0.pu, p0⟩, ⟨_, _, _, rfl, h0.gc, h0.go, g0⟩, h0.jo, h0.cq, h0.kj⟩,
  ⟨h1.fl, h1.qu, ⟨_, _, _, rfl, h1.pc, h1.pu, p1⟩, ⟨_, _, _, rfl, h1.gc, h1.go, g1⟩, h1.jo, h1.cq, h1.kj⟩, ⟨_, _, _, rfl, hR.n0.cap, b0, r0⟩, ⟨_, _, _, rfl, hR.n1.cap, b1, r1⟩⟩
set_option maxHeartbeats 2000000
abbrev wldE (c : Cfg) (link : Int) (m : WM) : List SC := [.v (.int .i64 c.mode), .v (.int .i64 c.win), .v (.int .i64 c.mps), .v (.int .i64 c.mtu), .v (.int .i64 c.tri), .v (.slice m.E 2 m.EC), .v (.slice m.N 2 m.NC), .v (.int .i64 link)]
abbrev wldK (b : Nat) (c : Cfg) (link : Int) (e0 e1 : End) (n0 n1 : List Msg) (m : WM) : Ents := [(0, .cells tyW (wldE c link m)), (2000, .link 0 b), (10, .own (rowA tyE 28 (.slice m.E 2 m.EC) 2 (endsC e0 e1 m.m0 m.m1))), (11, .own (rowA tyN 1 (.slice m.N 2 m.NC) 2 [.slice m.n0.A n0.length m.n0.C, .slice m.n1.A n1.length m.n1.C])),
 (22, .own (rowA tyS 1 (.slice m.m0.pA e0.put.length m.m0.pC) e0.put.length m.m0.pV)), (23, .own (rowA tyS 1 (.slice m.m0.gA e0.got.length m.m0.gC) e0.got.length m.m0.gV)), (32, .own (rowA tyS 1 (.slice m.m1.pA e1.put.length m.m1.pC) e1.put.length m.m1.pV)), (33, .own (rowA tyS 1 (.slice m.m1.gA e1.got.length m.m1.gC) e1.got.length m.m1.gV)),
 (40, .own (rowA tyM 2 (.slice m.n0.A n0.length m.n0.C) n0.length (netV n0 m.n0.ms))), (41, .own (starL (netB n0 m.n0.ms))), (50, .own (rowA tyM 2 (.slice m.n1.A n1.length m.n1.C) n1.length (netV n1 m.n1.ms))), (51, .own (starL (netB n1 m.n1.ms)))]
structure SayS where
 i : Nat
 n0 : List Msg
 n1 : List Msg
 link : Int
 m : WM
 z : Zc
theorem say_p0 (b : Nat) (c : Cfg) (link : Int) (e0 e1 : End) (n0 n1 : List Msg) (m : WM) (l : List Frm) (v : Value) (z : Zc) (hR : WldB z e0 e1 n0 n1 m) (hv : Sl fRep z l v) (hl : l.length ≤ 1000) (hf : ∀ f ∈ l, frmOk f = true ∧ f.data.length ≤ 8) (h0 : n0.length ≤ 30) (h1 : n1.length ≤ 30) :
  Spec Tryz.prog 133 [.pointer (some ⟨b, 0, none⟩), .int .i64 0, v] z (wldP b c link e0 e1 n0 n1 m) fun _ z' A' => WldQ c (says ⟨c, [e0, e1], [n0, n1], link⟩ 0 l) b z' A' := by
 obtain ⟨A, kk, cs, rfl, hk, he, hr⟩ := hv
 (refine spec_enterP [10, 11, 22, 23, 32, 33, 40, 41, 50, 51] Tryz.func133 ic133_ok fr133_ok Tryz.ntmps133 rfl ?_; simp only [seval, go_sem, ic133, fr133, zipL, vals])
 refine vsI.atR 11 rfl fun hN => ?_
 have hN := hN (by omega)
 refine gO ?_
 refine loop_upd (ι := SayS) (n := 1) (fun s => z ≤ s.z ∧ s.i ≤ l.length ∧ says ⟨c, [e0, e1], [n0, n1], link⟩ 0 (l.take s.i) = ⟨c, [e0, e1], [s.n0, s.n1], s.link⟩ ∧ WldB s.z e0 e1 s.n0 s.n1 s.m ∧ s.n0.length ≤ 30 ∧ s.n1.length ≤ 30 ∧ IsAt s.m.N) (fun s => [(10, .c (.v (.int .i64 s.i)))])
  (fun s => wldK b c s.link e0 e1 s.n0 s.n1 s.m) (fun s => s.z) (fun s => l.length - s.i) ⟨0, n0, n1, link, m, z⟩ ⟨Zc.rfl' _, by simp, by simp [says], hR, h0, h1, hN⟩ (by (simp only [wrI, wrR, anyL, st, List.append_nil, List.nil_append, List.cons_append]); exact rfl) ?_ ?_
 ·exact lX
 ·rintro ⟨i, n0', n1', link', m', z1⟩ ⟨hz1, hi, hgl, hR1, hn0, hn1, hN⟩
  dsimp only at *
  refine gO ?_
  (with_reducible refine condI.split (fun hg => ?_) (fun hg => ?_) <;> (try simp only [hg]) <;> (try simp only [seval, go_sem]))
  ·have hi' : i < l.length := by simp at hg; omega
   obtain ⟨x, hx⟩ : ∃ x, l[i]? = some x := ⟨_, List.getElem?_eq_getElem hi'⟩
   obtain ⟨hf1, hf8⟩ := hf x (List.mem_of_getElem? hx)
   obtain ⟨c1, ⟨v, rfl, hb⟩, hr1⟩ := (he.mono hz1).at (hr.mono hz1) hx
   obtain ⟨Ax, kx, rfl, hkx, hBx, hrx⟩ := hb.form
   have hat : IsAt A := he.isAt hr (by decide) hi'
   refine gO ?_
   (refine ⟨⟨by omega, by omega, hat⟩, ?_⟩; (try simp only [seval, go_sem]))
   (refine ldF.agg _ rfl (by first | exact .inl hr1 | exact hr1) ?_; (try simp only [seval, go_sem]))
   refine gO ?_
   simp only [wr10]
   (refine callT.give 90 0 2001 rfl rfl (fun bb => ?_)); simp only [seval, go_sem, giveSt, subV, subC, subE, subL]
   refine wD ?_
   refine tT ?_; refine callW 91 (room1 bb c link' e0 e1 n0' n1' m' z1 (by omega)) rfl rfl rfl rfl ?_; rintro v2 z2 A2 hz2 ⟨rfl, rfl, rfl⟩; (try simp only [seval, go_sem])
   (refine vsI.tf (Tf.open' 91 [92, 10, 11, 22, 23, 32, 33, 40, 41, 50, 51] rfl rfl rfl) ?_); simp only [seval, go_sem, zipL]
   (refine vsI.take 92 0 2001 rfl rfl rfl ?_); simp only [seval, go_sem, takeSt, unV, vals]; refine gO ?_
   have hlen := hR1.n1.ok.len
   have hvl := netV_len hR1.n1.ok
   by_cases h30 : n1'.length < 30
   ·simp only [seval, go_sem, decide_eq_true h30]
    refine gO ?_
    (with_reducible refine joinV.id ?_; simp only [seval, go_sem])
    simp only [wr10]
    simp only [seval, go_sem]
    ((first | refine ⟨⟨by omega, hN⟩, ?_⟩ | refine ⟨hN, ?_⟩); (try simp only [seval, go_sem]))
    have hw3 : ∀ z3, z1 ≤ z3 → WldB z3 e0 e1 n0' n1' m' := fun z3 hz3 => hR1.mono hz3
    repeat' (first | (refine And.intro ?_ ?_ <;> (try simp only [seval, go_sem])) | (refine ldF.one _ (RdS.cell 11 rfl rfl) ?_; refine gO ?_))
    all_goals refine tT ?_; refine callO 95 (frmBytesO_i x _ z1 hb (by omega) hf1) rfl rfl rfl ?_; rintro v3 z3 A3 hz3 ⟨A5, rfl, rfl⟩; refine gO ?_
    repeat' (first | (refine And.intro ?_ ?_ <;> (try simp only [seval, go_sem])) | (refine ldF.one _ (RdS.cell 11 rfl rfl) ?_; refine gO ?_))
    all_goals refine aT ?_; (refine appM_newF 50 atyMs rfl rfl rfl rfl rfl rfl rfl (by simp [Value.oneCell']) (by omega) (fun A6 c6 hc6 hat6 => ?_)); refine gO ?_
    all_goals ((first | refine ⟨⟨by omega, hN⟩, ?_⟩ | refine ⟨hN, ?_⟩); (try simp only [seval, go_sem]))
    all_goals refine stoV_row 11 rfl rfl rfl rfl rfl rfl rfl (by simp) ?_
    all_goals simp only [seval, go_sem, putV]
    all_goals refine vsI.pk 51 [51, 95] ?_
    all_goals dsimp only
    all_goals refine vsI.tf (Tf.own 51 rfl rfl (fun w F h => starL_push h)) ?_
    all_goals dsimp only
    all_goals refine gO ?_
    all_goals have hR3 := hw3 z3 hz3
    all_goals refine ⟨⟨i + 1, n0', n1' ++ [⟨false, frmBytes x⟩], link', { m' with n1 := ⟨A6, c6, m'.n1.ms ++ [(A5, (frmBytes x).length)]⟩ }, z3⟩, ⟨Zc.trans' hz1 hz3, by dsimp only; omega, by dsimp only; rw [says_take hx, hgl, say1_y1 h30], ⟨hR3.e0, hR3.e1, hR3.n0, hR3.n1.snoc hc6 (Nat.le_refl _) (frmBytes_bys hf1 hBx)⟩, by simp; omega, by simp; omega, hN⟩, by dsimp only; omega, ?_⟩
    all_goals simp only [wldK, wldE, netV_snoc _ _ _ _ _ hlen, netB_snoc _ _ _ _ _ hlen, List.length_append, List.length_singleton]
    all_goals exact lX
   ·simp only [seval, go_sem, decide_eq_false h30]
    refine gO ?_
    refine ⟨⟨i + 1, n0', n1', link', m', z1⟩, ⟨hz1, by dsimp only; omega, by dsimp only; rw [says_take hx, hgl, say1_n1 h30], hR1, hn0, hn1, hN⟩, by dsimp only; omega, ?_⟩
    exact lX
  ·have hil : i = l.length := by simp at hg; omega
   subst hil
   rw [List.take_length] at hgl
   refine gO ?_
   refine wF1 ?_
   rw [hgl]
   exact WldQ.mk hR1
theorem say_p1 (b : Nat) (c : Cfg) (link : Int) (e0 e1 : End) (n0 n1 : List Msg) (m : WM) (l : List Frm) (v : Value) (z : Zc) (hR : WldB z e0 e1 n0 n1 m) (hv : Sl fRep z l v) (hl : l.length ≤ 1000) (hf : ∀ f ∈ l, frmOk f = true ∧ f.data.length ≤ 8) (h0 : n0.length ≤ 30) (h1 : n1.length ≤ 30) :
  Spec Tryz.prog 133 [.pointer (some ⟨b, 0, none⟩), .int .i64 1, v] z (wldP b c link e0 e1 n0 n1 m) fun _ z' A' => WldQ c (says ⟨c, [e0, e1], [n0, n1], link⟩ 1 l) b z' A' := by
 obtain ⟨A, kk, cs, rfl, hk, he, hr⟩ := hv
 (refine spec_enterP [10, 11, 22, 23, 32, 33, 40, 41, 50, 51] Tryz.func133 ic133_ok fr133_ok Tryz.ntmps133 rfl ?_; simp only [seval, go_sem, ic133, fr133, zipL, vals])
 refine vsI.atR 11 rfl fun hN => ?_
 have hN := hN (by omega)
 refine gO ?_
 refine loop_upd (ι := SayS) (n := 1) (fun s => z ≤ s.z ∧ s.i ≤ l.length ∧ says ⟨c, [e0, e1], [n0, n1], link⟩ 1 (l.take s.i) = ⟨c, [e0, e1], [s.n0, s.n1], s.link⟩ ∧ WldB s.z e0 e1 s.n0 s.n1 s.m ∧ s.n0.length ≤ 30 ∧ s.n1.length ≤ 30 ∧ IsAt s.m.N) (fun s => [(10, .c (.v (.int .i64 s.i)))])
  (fun s => wldK b c s.link e0 e1 s.n0 s.n1 s.m) (fun s => s.z) (fun s => l.length - s.i) ⟨0, n0, n1, link, m, z⟩ ⟨Zc.rfl' _, by simp, by simp [says], hR, h0, h1, hN⟩ (by (simp only [wrI, wrR, anyL, st, List.append_nil, List.nil_append, List.cons_append]); exact rfl) ?_ ?_
 ·exact lX
 ·rintro ⟨i, n0', n1', link', m', z1⟩ ⟨hz1, hi, hgl, hR1, hn0, hn1, hN⟩
  dsimp only at *
  refine gO ?_
  (with_reducible refine condI.split (fun hg => ?_) (fun hg => ?_) <;> (try simp only [hg]) <;> (try simp only [seval, go_sem]))
  ·have hi' : i < l.length := by simp at hg; omega
   obtain ⟨x, hx⟩ : ∃ x, l[i]? = some x := ⟨_, List.getElem?_eq_getElem hi'⟩
   obtain ⟨hf1, hf8⟩ := hf x (List.mem_of_getElem? hx)
   obtain ⟨c1, ⟨v, rfl, hb⟩, hr1⟩ := (he.mono hz1).at (hr.mono hz1) hx
   obtain ⟨Ax, kx, rfl, hkx, hBx, hrx⟩ := hb.form
   have hat : IsAt A := he.isAt hr (by decide) hi'
   refine gO ?_
   (refine ⟨⟨by omega, by omega, hat⟩, ?_⟩; (try simp only [seval, go_sem]))
   (refine ldF.agg _ rfl (by first | exact .inl hr1 | exact hr1) ?_; (try simp only [seval, go_sem]))
   refine gO ?_
   simp only [wr11]
   (refine callT.give 90 0 2001 rfl rfl (fun bb => ?_)); simp only [seval, go_sem, giveSt, subV, subC, subE, subL]
   refine wD ?_
   refine tT ?_; refine callW 91 (room0 bb c link' e0 e1 n0' n1' m' z1 (by omega)) rfl rfl rfl rfl ?_; rintro v2 z2 A2 hz2 ⟨rfl, rfl, rfl⟩; (try simp only [seval, go_sem])
   (refine vsI.tf (Tf.open' 91 [92, 10, 11, 22, 23, 32, 33, 40, 41, 50, 51] rfl rfl rfl) ?_); simp only [seval, go_sem, zipL]
   (refine vsI.take 92 0 2001 rfl rfl rfl ?_); simp only [seval, go_sem, takeSt, unV, vals]; refine gO ?_
   have hlen := hR1.n0.ok.len
   have hvl := netV_len hR1.n0.ok
   by_cases h30 : n0'.length < 30
   ·simp only [seval, go_sem, decide_eq_true h30]
    refine gO ?_
    (with_reducible refine joinV.id ?_; simp only [seval, go_sem])
    simp only [wr11]
    simp only [seval, go_sem]
    ((first | refine ⟨⟨by omega, hN⟩, ?_⟩ | refine ⟨hN, ?_⟩); (try simp only [seval, go_sem]))
    have hw3 : ∀ z3, z1 ≤ z3 → WldB z3 e0 e1 n0' n1' m' := fun z3 hz3 => hR1.mono hz3
    repeat' (first | (refine And.intro ?_ ?_ <;> (try simp only [seval, go_sem])) | (refine ldF.one _ (RdS.cell 11 rfl rfl) ?_; refine gO ?_))
    all_goals refine tT ?_; refine callO 95 (frmBytesO_i x _ z1 hb (by omega) hf1) rfl rfl rfl ?_; rintro v3 z3 A3 hz3 ⟨A5, rfl, rfl⟩; refine gO ?_
    repeat' (first | (refine And.intro ?_ ?_ <;> (try simp only [seval, go_sem])) | (refine ldF.one _ (RdS.cell 11 rfl rfl) ?_; refine gO ?_))
    all_goals refine aT ?_; (refine appM_newF 40 atyMs rfl rfl rfl rfl rfl rfl rfl (by simp [Value.oneCell']) (by omega) (fun A6 c6 hc6 hat6 => ?_)); refine gO ?_
    all_goals ((first | refine ⟨⟨by omega, hN⟩, ?_⟩ | refine ⟨hN, ?_⟩); (try simp only [seval, go_sem]))
    all_goals refine stoV_row 11 rfl rfl rfl rfl rfl rfl rfl (by simp) ?_
    all_goals simp only [seval, go_sem, putV]
    all_goals refine vsI.pk 41 [41, 95] ?_
    all_goals dsimp only
    all_goals refine vsI.tf (Tf.own 41 rfl rfl (fun w F h => starL_push h)) ?_
    all_goals dsimp only
    all_goals refine gO ?_
    all_goals have hR3 := hw3 z3 hz3
    all_goals refine ⟨⟨i + 1, n0' ++ [⟨false, frmBytes x⟩], n1', link', { m' with n0 := ⟨A6, c6, m'.n0.ms ++ [(A5, (frmBytes x).length)]⟩ }, z3⟩, ⟨Zc.trans' hz1 hz3, by dsimp only; omega, by dsimp only; rw [says_take hx, hgl, say1_y0 h30], ⟨hR3.e0, hR3.e1, hR3.n0.snoc hc6 (Nat.le_refl _) (frmBytes_bys hf1 hBx), hR3.n1⟩, by simp; omega, by simp; omega, hN⟩, by dsimp only; omega, ?_⟩
    all_goals simp only [wldK, wldE, netV_snoc _ _ _ _ _ hlen, netB_snoc _ _ _ _ _ hlen, List.length_append, List.length_singleton]
    all_goals exact lX
   ·simp only [seval, go_sem, decide_eq_false h30]
    refine gO ?_
    refine ⟨⟨i + 1, n0', n1', link', m', z1⟩, ⟨hz1, by dsimp only; omega, by dsimp only; rw [says_take hx, hgl, say1_n0 h30], hR1, hn0, hn1, hN⟩, by dsimp only; omega, ?_⟩
    exact lX
  ·have hil : i = l.length := by simp at hg; omega
   subst hil
   rw [List.take_length] at hgl
   refine gO ?_
   refine wF1 ?_
   rw [hgl]
   exact WldQ.mk hR1
set_option maxHeartbeats 1000000
theorem sayif_p0 (b : Nat) (c : Cfg) (link : Int) (e0 e1 : End) (n0 n1 : List Msg) (m : WM) (o : Option Frm) (x : Value) (z : Zc) (hR : WldB z e0 e1 n0 n1 m) (hx : By z (o.getD frm0).data x) (hf : ∀ f, o = some f → frmOk f = true ∧ f.data.length ≤ 8) (h0 : n0.length ≤ 30) (h1 : n1.length ≤ 30) :
  Spec Tryz.prog 136 [.pointer (some ⟨b, 0, none⟩), .int .i64 0, vFrm (o.getD frm0) x, .bool o.isSome] z (wldP b c link e0 e1 n0 n1 m) fun _ z' A' => WldQ c (sayO ⟨c, [e0, e1], [n0, n1], link⟩ 0 o) b z' A' := by
 obtain ⟨Ax, kx, rfl, hkx, hBx, hrx⟩ := hx.form
 (refine spec_enter1 Tryz.func136 ic136_ok fr136_ok Tryz.ntmps136 ?_; simp only [seval, go_sem, ic136, fr136])
 cases o with
 | none =>
  simp only [Option.isSome_none]
  refine gO ?_
  refine fQ ?_
  exact WldQ.mk hR
 | some f =>
  simp only [Option.isSome_some, Option.getD_some] at hx hkx hBx hrx ⊢
  refine gO ?_
  (first | refine callT.frz 1 rfl rfl (fun b1 z1 hz1 hr1 => ?_) | refine callM.frz 1 rfl rfl (fun b1 z1 hz1 hr1 => ?_)); dsimp only at hz1; simp only [seval, go_sem, Go.Proofs.YtnkhjnieidlknaaGreat.frz, subV, subC, subE, subL]
  refine tT ?_; refine callW 1000 (say_p0 b c link e0 e1 n0 n1 m [f] (.slice (some ⟨b1, 0, none⟩) 1 1) z1 (hR.mono hz1) ⟨_, _, _, rfl, Nat.le_refl _, Els.single (d := fRep) ⟨_, rfl, hx.mono hz1⟩, hr1⟩ (by simp) (fun g hg => by rw [List.mem_singleton.1 hg]; exact hf f rfl) h0 h1) rfl rfl rfl rfl ?_; rintro v z2 A2 hz2 h2; refine gO ?_
  refine fQ ?_
  exact h2
theorem sayif_p1 (b : Nat) (c : Cfg) (link : Int) (e0 e1 : End) (n0 n1 : List Msg) (m : WM) (o : Option Frm) (x : Value) (z : Zc) (hR : WldB z e0 e1 n0 n1 m) (hx : By z (o.getD frm0).data x) (hf : ∀ f, o = some f → frmOk f = true ∧ f.data.length ≤ 8) (h0 : n0.length ≤ 30) (h1 : n1.length ≤ 30) :
  Spec Tryz.prog 136 [.pointer (some ⟨b, 0, none⟩), .int .i64 1, vFrm (o.getD frm0) x, .bool o.isSome] z (wldP b c link e0 e1 n0 n1 m) fun _ z' A' => WldQ c (sayO ⟨c, [e0, e1], [n0, n1], link⟩ 1 o) b z' A' := by
 obtain ⟨Ax, kx, rfl, hkx, hBx, hrx⟩ := hx.form
 (refine spec_enter1 Tryz.func136 ic136_ok fr136_ok Tryz.ntmps136 ?_; simp only [seval, go_sem, ic136, fr136])
 cases o with
 | none =>
  simp only [Option.isSome_none]
  refine gO ?_
  refine fQ ?_
  exact WldQ.mk hR
 | some f =>
  simp only [Option.isSome_some, Option.getD_some] at hx hkx hBx hrx ⊢
  refine gO ?_
  (first | refine callT.frz 1 rfl rfl (fun b1 z1 hz1 hr1 => ?_) | refine callM.frz 1 rfl rfl (fun b1 z1 hz1 hr1 => ?_)); dsimp only at hz1; simp only [seval, go_sem, Go.Proofs.YtnkhjnieidlknaaGreat.frz, subV, subC, subE, subL]
  refine tT ?_; refine callW 1000 (say_p1 b c link e0 e1 n0 n1 m [f] (.slice (some ⟨b1, 0, none⟩) 1 1) z1 (hR.mono hz1) ⟨_, _, _, rfl, Nat.le_refl _, Els.single (d := fRep) ⟨_, rfl, hx.mono hz1⟩, hr1⟩ (by simp) (fun g hg => by rw [List.mem_singleton.1 hg]; exact hf f rfl) h0 h1) rfl rfl rfl rfl ?_; rintro v z2 A2 hz2 h2; refine gO ?_
  refine fQ ?_
  exact h2
set_option maxHeartbeats 2000000
theorem txtick_i (c : Cfg) (t : Tx) (ack : Int) (busy : Bool) (f q : Value) (z : Zc) (hI : TxI c t) (hf : Sl pRep z t.flight f) (hq : Sl pRep z t.queue q) (hk : 0 ≤ ack ∧ ack ≤ 7) :
  PSpec Tryz.prog 137 [vCfg c, vTx t f q, .int .i64 ack, .bool busy] z fun u z' => ∃ A a B b, u = .tuple #[vTx (txTick c t ack busy).1 (.slice A t.flight.length a) (.slice B t.queue.length b), vFrm ((txTick c t ack busy).2.getD frm0) (.slice none 0 0), .bool (txTick c t ack busy).2.isSome] ∧
   Sl pRep z' t.flight (.slice A t.flight.length a) ∧ Sl pRep z' t.queue (.slice B t.queue.length b) := by
 have hto := txok_i c t f q z hI hf hq
 have hw := hI.win
 have hcw := hI.cfg.win
 have hct := hI.cfg.tri
 have hq24 := hI.queue
 have htr := hI.tries
 have hp1 : ∀ p ∈ t.flight, p.data.length ≤ 1000000000 := fun p hp => by have := hI.flSmall p hp; omega
 have hp2 : ∀ p ∈ t.queue, p.data.length ≤ 1000000000 := fun p hp => by have := hI.quSmall p hp; omega
 obtain ⟨A, k, cs, rfl, hka, he, hr⟩ := hf
 obtain ⟨B, k2, cs2, rfl, hk2, he2, hr2⟩ := hq
 have w1 : IntKind.i64.wrap (t.tries + 1) = t.tries + 1 := wrap_in (by omega) (by omega)
 (refine pspec_enter Tryz.func137 ic137_ok fr137_ok Tryz.ntmps137 ?_; simp only [seval, go_sem, ic137, fr137])
 refine gO ?_
 refine tT ?_; refine callP (hto) rfl rfl ?_; rintro u z1 hz1 rfl; refine gO ?_
 refine tT ?_; refine callP (isnum ack z1) rfl rfl ?_; rintro _ _ - ⟨rfl, rfl⟩; refine gO ?_
 simp only [isNum_iff.2 hk]
 refine gO ?_
 refine tT ?_; refine callP (txcopy_i t _ _ z1 (Sl.mono hz1 ⟨A, k, cs, rfl, hka, he, hr⟩) (Sl.mono hz1 ⟨B, k2, cs2, rfl, hk2, he2, hr2⟩) (by omega) (by omega) hp1 hp2) rfl rfl ?_; rintro u z2 hz2 ⟨A2, B2, rfl, hf2, hq2⟩; refine gO ?_
 clear hto he he2 hr hr2 hp1 hp2
 (try simp only [seval, go_sem]); repeat' (first | (with_reducible refine vsI.id ?_; (try simp only [seval, go_sem])) | (with_reducible refine vcI_cond ?_; (try simp only [seval, go_sem])) | (with_reducible refine guardR.split (fun hg => ?_) (fun hg => ?_) <;> (try simp only [hg]) <;> simp only [seval, go_sem]) | (with_reducible refine condI.split (fun hg => ?_) (fun hg => ?_) <;> (try simp only [hg]) <;> (try simp only [seval, go_sem])) | (with_reducible refine callM.toT ?_) | (refine callP (gowait_i _ _) rfl rfl ?_; rintro _ _ - ⟨rfl, rfl⟩; (try simp only [seval, go_sem])))
 all_goals (first|refine fN ?_|exact fZ)
 all_goals refine ⟨A2, t.flight.length, B2, t.queue.length, ?_, hf2, hq2⟩
 all_goals first
  | (rw [txTick_none (by simp_all)]; simp_all [vTx, vFrm, frm0]; done)
  | (rw [txTick_end (by simp_all) (by simp_all)]; simp_all [vTx, vFrm, frm0]; done)
  | (rw [txTick_yes (by simp_all) (by simp_all)]; simp_all [vTx, vFrm, sayFrm]; done)
theorem rxbusy_i (r : Rx) (b : Bool) (q : Value) (z : Zc) (hI : RxI r) (hq : By z r.join.got q) :
  PSpec Tryz.prog 138 [vRx r q, .bool b] z fun v z' => ∃ A k D m d, v = .tuple #[vRx (rxBusy r b).1 (.slice A (rxBusy r b).1.join.got.length k), .slice D m d] ∧ By z' (rxBusy r b).1.join.got (.slice A (rxBusy r b).1.join.got.length k) ∧ Sl fRep z' (rxBusy r b).2 (.slice D m d) := by
 have hro := rxok_i r q z hI hq
 have hj := hI.join.le
 obtain ⟨A, k, rfl, hka, hB, hr⟩ := hq.form
 obtain ⟨expect, count, ⟨jl, got⟩, again, busy, dead⟩ := r
 dsimp only at *
 (refine pspec_enter Tryz.func138 ic138_ok fr138_ok Tryz.ntmps138 ?_; simp only [seval, go_sem, ic138, fr138])
 refine gO ?_
 refine tT ?_; refine callP (hro) rfl rfl ?_; rintro _ _ - ⟨rfl, rfl⟩; refine gO ?_
 refine tT ?_; refine callP (rxcopy_i ⟨expect, count, ⟨jl, got⟩, again, busy, dead⟩ _ z hq (by show got.length ≤ _; omega)) rfl rfl ?_; rintro v z2 hz2 ⟨A3, rfl, h3⟩; refine gO ?_
 dsimp only at h3
 have hsame : ∀ busy b dead, (busy = b ∨ dead = true) → rxBusy ⟨expect, count, ⟨jl, got⟩, again, busy, dead⟩ b = (⟨expect, count, ⟨jl, got⟩, again, busy, dead⟩, []) := fun busy b dead h => by unfold rxBusy; rw [if_pos h]
 have hturn : ∀ busy b, busy ≠ b → rxBusy ⟨expect, count, ⟨jl, got⟩, again, busy, false⟩ b = (⟨expect, count, ⟨jl, got⟩, false, b, false⟩, [sayFrm expect false false (goWait b)]) := fun busy b h => by unfold rxBusy; rw [if_neg (by simp [h])]
 by_cases he : busy = b
 ·have hb : (busy == b) = true := by simp [he]
  simp only [hb]
  refine gO ?_
  (first|refine fN ?_|exact fZ)
  rw [hsame busy b dead (.inl he)]
  exact ⟨_, _, _, _, _, rfl, h3, Sl.nil _ _ _⟩
 ·have hb : (busy == b) = false := by simp [he]
  simp only [hb]
  cases dead with
  | true =>
   refine gO ?_
   (first|refine fN ?_|exact fZ)
   rw [hsame busy b true (.inr rfl)]
   exact ⟨_, _, _, _, _, rfl, h3, Sl.nil _ _ _⟩
  | false =>
   rw [hturn busy b he]
   refine gO ?_
   (with_reducible refine joinV.id ?_; simp only [seval, go_sem])
   refine tT ?_; refine callP (gowait_i b z2) rfl rfl ?_; rintro _ _ - ⟨rfl, rfl⟩; refine gO ?_
   refine tT ?_; refine callP (say_i ⟨expect, count, ⟨jl, got⟩, false, b, false⟩ A3 got.length got.length (goWait b) false z2) rfl rfl ?_; rintro _ _ - ⟨rfl, rfl⟩; refine gO ?_
   repeat' (first | (refine And.intro ?_ ?_ <;> (try simp only [seval, go_sem])))
   all_goals refine gO ?_
   all_goals (refine FinV.frz 3 rfl rfl (fun b4 z4 hz4 hr4 => ?_)); dsimp only at hz4; simp only [seval, go_sem, Go.Proofs.YtnkhjnieidlknaaGreat.frz, subV, subC, subE, subL]
   all_goals (first|refine fN ?_|exact fZ)
   all_goals exact ⟨_, _, _, _, _, rfl, h3.mono hz4, ⟨_, _, _, rfl, Nat.le_refl _, Els.single (d := fRep) ⟨_, rfl, Sl.nil _ _ _⟩, hr4⟩⟩
end Go.Proofs.YtnkhjnieidlknaaGreat
