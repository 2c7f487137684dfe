/- strconv.Itoa, laid by hand. -/
import Derived.Test.YtohmnedenhngpaaDoorProg
import Derived.Shelf.Strconv.Itoa3
import Derived.KernelRfl
set_option linter.unusedVariables false
set_option linter.unusedSimpArgs false
namespace Go.Proofs.YtohmnedenhngpaaDoor
open Go.Shelf
def itoaRen : Ren where
  f := fun n => match n with | 171 => 22 | 243 => 37 | 246 => 47 | 283 => 58 | 284 => 59 | 285 => 60 | 286 => 61 | 129 => 72 | 317 => 71 | 318 => 73 | 319 => 74 | 320 => 75 | 337 => 82 | 338 => 83 | n => n
  t := fun n => match n with | 3 => 3 | 9 => 9 | 2 => 2 | 4 => 4 | 171 => 75 | 0 => 0 | 53 => 76 | 37 => 22 | 5 => 5 | 173 => 79 | 212 => 91 | 51 => 92 | 20 => 20 | 213 => 93 | 46 => 59 | 232 => 107 | 233 => 108 | n => n
  g := fun n => match n with | 17 => 3 | 18 => 7 | 19 => 8 | n => n
set_option maxRecDepth 100000 in
theorem itoaLays : Lays.n171 Tryd.prog itoaRen := by constructor <;> first | kernel_rfl | (intro _w; kernel_rfl) | (intro _w; rfl)
set_option maxRecDepth 100000 in
theorem itoaLaysM : LaysM.n171 Tryd.prog itoaRen := by constructor <;> first | exact itoaLays | kernel_rfl | (intro _w; kernel_rfl) | (intro _w; rfl)
theorem strconv_Itoa (n : Int) (h0 : -9223372036854775808 ≤ n) (h1 : n ≤ 9223372036854775807) (w : World) (htab : Lib.TabIs Tryd.prog w "internal/strconv.uint64pow10" .u64 Lib.pow10Tab) :
    Calls Tryd.prog 22 #[.int .i64 n] w fun e w' => e = .returned (.string ⟨(Lib.itoa n).toArray⟩) ∧ ∃ k os, w' = Sort.grow (w.drewN k) os := Any.strconv_Itoa itoaLaysM n h0 h1 w htab
theorem strconv_Itoa_small (i : Nat) (hi : i < 100) (w : World) :
    Calls Tryd.prog 22 #[.int .i64 i] w fun e w' => e = .returned (.string ⟨(Lib.decDigits i).toArray⟩) ∧ w' = w := Any.strconv_Itoa_small itoaLays i hi w
end Go.Proofs.YtohmnedenhngpaaDoor
