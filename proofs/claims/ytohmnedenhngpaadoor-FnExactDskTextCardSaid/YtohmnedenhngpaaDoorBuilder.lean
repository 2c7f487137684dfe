/- What strings.Builder's WriteByte and String do, laid at this seat's program: the library's contracts at this numbering. -/
import Derived.Test.YtohmnedenhngpaaDoorProg
import Derived.Shelf.Strings.BuilderK
import Derived.Shelf.Strings.BuilderF
import Derived.KernelRfl
namespace Go.Proofs.YtohmnedenhngpaaDoor
open Go.Shelf Go.RowKit
/-- The numbers of this seat. -/
def bRen : Ren where
  f := fun n => match n with | 167 => 38 | 169 => 39 | 240 => 48 | 276 => 62 | _ => 0
  t := fun n => match n with | 0 => 0 | 3 => 3 | 4 => 4 | 5 => 5 | 9 => 9 | 20 => 20 | 37 => 22 | 70 => 55 | 72 => 57 | 75 => 51 | 80 => 60 | 127 => 66 | 164 => 81 | _ => 0
  g := fun n => n
theorem bLays167 : Lays.n167 Tryd.prog bRen := by constructor <;> first | kernel_rfl | (intro _w; kernel_rfl) | (intro _w; rfl)
theorem bLays169 : Lays.n169 Tryd.prog bRen := by constructor <;> first | kernel_rfl | (intro _w; kernel_rfl) | (intro _w; rfl)
theorem bExtra : Builder.Extra Tryd.prog bRen := { sizeBuilder := by kernel_rfl, liesBuilder := by kernel_rfl, t5 := by kernel_rfl, a5 := fun _ => by kernel_rfl, z5 := fun _ => by kernel_rfl, v5 := fun _ => by kernel_rfl, infoByte := by kernel_rfl, cellsByte := by kernel_rfl, sizeByte := by kernel_rfl, neB5 := by decide }
theorem bWriteByte (B b : Nat) (bs : List Value) (c : Int) (w : World) (h : Lib.IsBuilderF 57 5 B b bs w) (hlen : bs.length + 1 ≤ 140737488355328) (hBw : B ≤ w.heap.size) :
    Calls Tryd.prog 38 #[.pointer (some ⟨b, 0, none⟩), .int .u8 c] w fun e w' => e = .returned .nilIface ∧ (Lib.BuilderAtF 57 5 B b (.pointer (some ⟨b, 0, none⟩)) (bs ++ [.int .u8 c]) w' ∧ Below B w w' ∧ Lib.OthersKept 5 (some b) w w') :=
  Any.Builder_WriteByte_k bLays167 bExtra B b bs c w h hlen hBw
theorem bString (B b : Nat) (l : List UInt8) (w : World) (h : Lib.IsBuilderF 57 5 B b (Lib.byteCells l) w) (hBw : B ≤ w.heap.size) :
    Calls Tryd.prog 39 #[.pointer (some ⟨b, 0, none⟩)] w fun e w' => e = .returned (.string ⟨l.toArray⟩) ∧ (Lib.IsBuilderF 57 5 B b (Lib.byteCells l) w' ∧ Below B w w') :=
  Any.Builder_String_any_f bLays169 bExtra B b l w h hBw
end Go.Proofs.YtohmnedenhngpaaDoor
