/-
  No cell of these rows narrows 'for every input' (looked for: loops, veiled, ifaces, maps, wideKeys, modest, calm, conditions, laid).
  DERIVED. THE GIVEN ROWS OF THIS SEAT. 4 by the template 'for every input the law returns true; each argument reads behind the call as it read before'; 0 by the template 'total and deterministic' (their statements: YtpjaidjnamngaaaGreatTotals.lean).
  GIVEN WITH THE SEED: the statements are not yours to turn. If you find one false, say at which input.
  Laid BY PROGRAM, IN A SANDBOX (cutbox-rows.mjs): the forced cells as the released guide's own fill.sh prints them over the translation a74db94f556c26be… (all of the seat's roots in one cut). By AI agents, Wed Nov 11 2026. No macro, syntax, notation, axiom, sorry.
-/
import Derived.Test.YtpjaidjnamngaaaGreatChecked
import GoSem.Claim
import GoSem.ClaimJoined
import GoSem.ClaimMapViews
import Derived.JoinedTies
import Derived.KernelRfl
namespace Go.Proofs.YtpjaidjnamngaaaGreat
/- THE CELL 'sum', in the pinned program and in every row, IS THE sha256 OF THE DUMP (.gsa) THAT YtpjaidjnamngaaaGreatProg.lean LOADS. Nothing in Lean hashes anything: it is a label: what it is worth is what the hold of that sum in a sandbox is worth. -/
noncomputable def Tryz.pinned : Pinned := { name := "ytpjaidjnamngaaagreat", sum := "a74db94f556c26bed1f3afbe92b601c03956fe0a68e546192d1df8b5870b5727", checked := Tryz.checked }
namespace Rows
def none {H : Type} : Left H := { results := [], args := [] }

/-- 'laws.FnCrdLine': WHATEVER THE INPUT: true; the input reads as it did. -/
def fnCrdLineSpec : ChangeSpec := { name := "fnCrdLine", fn := fun _ => fun
  | [d] => { results := [.lit (.bool true)], args := [d] }
  | _ => none }
def fnCrdLineRow : OpenClaim := { program := "ytpjaidjnamngaaagreat", sum := "a74db94f556c26bed1f3afbe92b601c03956fe0a68e546192d1df8b5870b5727", func := "loop.example/linkboy/laws.FnCrdLine", spec := "fnCrdLine", unfollowed := true, recurses := true, apart := false }
def FnCrdLineSaid : Prop := fnCrdLineRow.holds Tryz.pinned (OpenSpec.ofChange fnCrdLineSpec)

/-- ITS FALSE NEIGHBOUR: 'it returns false'. Refute it at one input. -/
def fnCrdLineWrong : ChangeSpec := { name := "fnCrdLine", fn := fun _ => fun
  | [d] => { results := [.lit (.bool false)], args := [d] }
  | _ => none }
def FnCrdLineWrongFalsely : Prop := fnCrdLineRow.holds Tryz.pinned (OpenSpec.ofChange fnCrdLineWrong)

/-- 'laws.FnRxLine': WHATEVER THE INPUT: true; the input reads as it did. -/
def fnRxLineSpec : ChangeSpec := { name := "fnRxLine", fn := fun _ => fun
  | [d] => { results := [.lit (.bool true)], args := [d] }
  | _ => none }
def fnRxLineRow : OpenClaim := { program := "ytpjaidjnamngaaagreat", sum := "a74db94f556c26bed1f3afbe92b601c03956fe0a68e546192d1df8b5870b5727", func := "loop.example/linkboy/laws.FnRxLine", spec := "fnRxLine", unfollowed := true, recurses := true, apart := false }
def FnRxLineSaid : Prop := fnRxLineRow.holds Tryz.pinned (OpenSpec.ofChange fnRxLineSpec)

/-- ITS FALSE NEIGHBOUR: 'it returns false'. Refute it at one input. -/
def fnRxLineWrong : ChangeSpec := { name := "fnRxLine", fn := fun _ => fun
  | [d] => { results := [.lit (.bool false)], args := [d] }
  | _ => none }
def FnRxLineWrongFalsely : Prop := fnRxLineRow.holds Tryz.pinned (OpenSpec.ofChange fnRxLineWrong)

/-- 'laws.FnCrdMost': WHATEVER THE INPUT: true; the input reads as it did. -/
def fnCrdMostSpec : ChangeSpec := { name := "fnCrdMost", fn := fun _ => fun
  | [d] => { results := [.lit (.bool true)], args := [d] }
  | _ => none }
def fnCrdMostRow : OpenClaim := { program := "ytpjaidjnamngaaagreat", sum := "a74db94f556c26bed1f3afbe92b601c03956fe0a68e546192d1df8b5870b5727", func := "loop.example/linkboy/laws.FnCrdMost", spec := "fnCrdMost", unfollowed := true, recurses := true, apart := false }
def FnCrdMostSaid : Prop := fnCrdMostRow.holds Tryz.pinned (OpenSpec.ofChange fnCrdMostSpec)

/-- ITS FALSE NEIGHBOUR: 'it returns false'. Refute it at one input. -/
def fnCrdMostWrong : ChangeSpec := { name := "fnCrdMost", fn := fun _ => fun
  | [d] => { results := [.lit (.bool false)], args := [d] }
  | _ => none }
def FnCrdMostWrongFalsely : Prop := fnCrdMostRow.holds Tryz.pinned (OpenSpec.ofChange fnCrdMostWrong)

/-- 'laws.FnWldRoom': WHATEVER THE INPUT: true; the input reads as it did. -/
def fnWldRoomSpec : ChangeSpec := { name := "fnWldRoom", fn := fun _ => fun
  | [d] => { results := [.lit (.bool true)], args := [d] }
  | _ => none }
def fnWldRoomRow : OpenClaim := { program := "ytpjaidjnamngaaagreat", sum := "a74db94f556c26bed1f3afbe92b601c03956fe0a68e546192d1df8b5870b5727", func := "loop.example/linkboy/laws.FnWldRoom", spec := "fnWldRoom", unfollowed := true, recurses := true, apart := false }
def FnWldRoomSaid : Prop := fnWldRoomRow.holds Tryz.pinned (OpenSpec.ofChange fnWldRoomSpec)

/-- ITS FALSE NEIGHBOUR: 'it returns false'. Refute it at one input. -/
def fnWldRoomWrong : ChangeSpec := { name := "fnWldRoom", fn := fun _ => fun
  | [d] => { results := [.lit (.bool false)], args := [d] }
  | _ => none }
def FnWldRoomWrongFalsely : Prop := fnWldRoomRow.holds Tryz.pinned (OpenSpec.ofChange fnWldRoomWrong)

/- THE SECOND FORM. 'bulk': how many values and letters a reading holds, each counted each time it is reached (what is shared counts as often as it is met; a slice's spare places count too). A statement '..UptoSaid' is the law's where the arguments, and the package variables that the reading takes, are together of bulk at most 1048576: NARROWER than '..Said'. Prove '..Said' where nothing that the law and all that it calls make is longer than what came in: it says more and counts as full. Else prove '..UptoSaid'. A law counts once. -/
mutual
def uptoBulk {H : Type} : DataW H → Nat
  | .lit (.string bytes) => bytes.length + 1
  | .lit _ => 1
  | .nil => 1
  | .ptr d => uptoBulk d + 1
  | .slice elems spare => uptoBulkAll elems + uptoBulkAll spare + 1
  | .agg parts => uptoBulkAll parts + 1
  | .iface _ d => uptoBulk d + 1
  | .map entries => uptoBulkEntries entries + 1
  | .held _ => 1
def uptoBulkAll {H : Type} : List (DataW H) → Nat
  | [] => 0
  | d :: r => uptoBulk d + uptoBulkAll r
def uptoBulkEntries {H : Type} : List (Lit × DataW H) → Nat
  | [] => 0
  | x :: r => uptoBulkEntry x + uptoBulkEntries r
def uptoBulkEntry {H : Type} : Lit × DataW H → Nat
  | (.string bytes, d) => bytes.length + uptoBulk d + 1
  | (_, d) => uptoBulk d + 1
 end
def uptoSmall : (H : Type) → List (DataW H) → Bool := fun _ ds => decide (uptoBulkAll ds ≤ 1048576)
def OpenSpec.upto (s : _root_.Go.ChangeSpec) : _root_.Go.OpenSpec := { _root_.Go.OpenSpec.ofChange s with cond := some uptoSmall }

/-- 'laws.FnCrdLine', WHERE WHAT IT READS IS OF BULK AT MOST 1048576: true; the input reads as it did. -/
def fnCrdLineUptoRow : OpenClaim := { program := "ytpjaidjnamngaaagreat", sum := "a74db94f556c26bed1f3afbe92b601c03956fe0a68e546192d1df8b5870b5727", func := "loop.example/linkboy/laws.FnCrdLine", spec := "fnCrdLine", unfollowed := true, recurses := true, apart := false, narrowed := true }
def FnCrdLineUptoSaid : Prop := fnCrdLineUptoRow.holds Tryz.pinned (OpenSpec.upto fnCrdLineSpec)

/-- 'laws.FnRxLine', WHERE WHAT IT READS IS OF BULK AT MOST 1048576: true; the input reads as it did. -/
def fnRxLineUptoRow : OpenClaim := { program := "ytpjaidjnamngaaagreat", sum := "a74db94f556c26bed1f3afbe92b601c03956fe0a68e546192d1df8b5870b5727", func := "loop.example/linkboy/laws.FnRxLine", spec := "fnRxLine", unfollowed := true, recurses := true, apart := false, narrowed := true }
def FnRxLineUptoSaid : Prop := fnRxLineUptoRow.holds Tryz.pinned (OpenSpec.upto fnRxLineSpec)

/-- 'laws.FnCrdMost', WHERE WHAT IT READS IS OF BULK AT MOST 1048576: true; the input reads as it did. -/
def fnCrdMostUptoRow : OpenClaim := { program := "ytpjaidjnamngaaagreat", sum := "a74db94f556c26bed1f3afbe92b601c03956fe0a68e546192d1df8b5870b5727", func := "loop.example/linkboy/laws.FnCrdMost", spec := "fnCrdMost", unfollowed := true, recurses := true, apart := false, narrowed := true }
def FnCrdMostUptoSaid : Prop := fnCrdMostUptoRow.holds Tryz.pinned (OpenSpec.upto fnCrdMostSpec)

/-- 'laws.FnWldRoom', WHERE WHAT IT READS IS OF BULK AT MOST 1048576: true; the input reads as it did. -/
def fnWldRoomUptoRow : OpenClaim := { program := "ytpjaidjnamngaaagreat", sum := "a74db94f556c26bed1f3afbe92b601c03956fe0a68e546192d1df8b5870b5727", func := "loop.example/linkboy/laws.FnWldRoom", spec := "fnWldRoom", unfollowed := true, recurses := true, apart := false, narrowed := true }
def FnWldRoomUptoSaid : Prop := fnWldRoomUptoRow.holds Tryz.pinned (OpenSpec.upto fnWldRoomSpec)

end Rows
end Go.Proofs.YtpjaidjnamngaaaGreat
