/-
  No cell of these rows narrows 'for every input' (looked for: loops, veiled, ifaces, maps, wideKeys, modest, calm, conditions, laid).
  DERIVED. THE GIVEN ROWS OF THIS SEAT. 6 by the template 'for every input the law returns true; each argument reads behind the call as it read before'; 0 by the template 'total and deterministic' (their statements: YtnkhjnieidlknaaGreatTotals.lean).
  GIVEN WITH THE SEED: the statements are not yours to turn. If you find one false, say at which input.
  Laid BY PROGRAM, IN A SANDBOX (cutbox-rows.mjs): the forced cells as the released guide's own fill.sh prints them over the translation ff0fca379db6d4aa… (all of the seat's roots in one cut). By AI agents, Wed Nov 11 2026. No macro, syntax, notation, axiom, sorry.
-/
import Derived.Test.YtnkhjnieidlknaaGreatChecked
import GoSem.Claim
import GoSem.ClaimJoined
import GoSem.ClaimMapViews
import Derived.JoinedTies
import Derived.KernelRfl
namespace Go.Proofs.YtnkhjnieidlknaaGreat
/- THE CELL 'sum', in the pinned program and in every row, IS THE sha256 OF THE DUMP (.gsa) THAT YtnkhjnieidlknaaGreatProg.lean LOADS. Nothing in Lean hashes anything: it is a label: what it is worth is what the hold of that sum in a sandbox is worth. -/
noncomputable def Tryz.pinned : Pinned := { name := "ytnkhjnieidlknaagreat", sum := "ff0fca379db6d4aa3f9f93d25544f7b74ea68efdae83330120307615ff683adf", checked := Tryz.checked }
namespace Rows
def none {H : Type} : Left H := { results := [], args := [] }

/-- 'laws.FnNumAcks': WHATEVER THE INPUT: true; the input reads as it did. -/
def fnNumAcksSpec : ChangeSpec := { name := "fnNumAcks", fn := fun _ => fun
  | [d] => { results := [.lit (.bool true)], args := [d] }
  | _ => none }
def fnNumAcksRow : OpenClaim := { program := "ytnkhjnieidlknaagreat", sum := "ff0fca379db6d4aa3f9f93d25544f7b74ea68efdae83330120307615ff683adf", func := "loop.example/linkboy/laws.FnNumAcks", spec := "fnNumAcks", unfollowed := true, recurses := true, apart := false }
def FnNumAcksSaid : Prop := fnNumAcksRow.holds Tryz.pinned (OpenSpec.ofChange fnNumAcksSpec)

/-- ITS FALSE NEIGHBOUR: 'it returns false'. Refute it at one input. -/
def fnNumAcksWrong : ChangeSpec := { name := "fnNumAcks", fn := fun _ => fun
  | [d] => { results := [.lit (.bool false)], args := [d] }
  | _ => none }
def FnNumAcksWrongFalsely : Prop := fnNumAcksRow.holds Tryz.pinned (OpenSpec.ofChange fnNumAcksWrong)

/-- 'laws.FnNumLast': WHATEVER THE INPUT: true; the input reads as it did. -/
def fnNumLastSpec : ChangeSpec := { name := "fnNumLast", fn := fun _ => fun
  | [d] => { results := [.lit (.bool true)], args := [d] }
  | _ => none }
def fnNumLastRow : OpenClaim := { program := "ytnkhjnieidlknaagreat", sum := "ff0fca379db6d4aa3f9f93d25544f7b74ea68efdae83330120307615ff683adf", func := "loop.example/linkboy/laws.FnNumLast", spec := "fnNumLast", unfollowed := true, recurses := true, apart := false }
def FnNumLastSaid : Prop := fnNumLastRow.holds Tryz.pinned (OpenSpec.ofChange fnNumLastSpec)

/-- ITS FALSE NEIGHBOUR: 'it returns false'. Refute it at one input. -/
def fnNumLastWrong : ChangeSpec := { name := "fnNumLast", fn := fun _ => fun
  | [d] => { results := [.lit (.bool false)], args := [d] }
  | _ => none }
def FnNumLastWrongFalsely : Prop := fnNumLastRow.holds Tryz.pinned (OpenSpec.ofChange fnNumLastWrong)

/-- 'laws.FnNumPrefix': WHATEVER THE INPUT: true; the input reads as it did. -/
def fnNumPrefixSpec : ChangeSpec := { name := "fnNumPrefix", fn := fun _ => fun
  | [d] => { results := [.lit (.bool true)], args := [d] }
  | _ => none }
def fnNumPrefixRow : OpenClaim := { program := "ytnkhjnieidlknaagreat", sum := "ff0fca379db6d4aa3f9f93d25544f7b74ea68efdae83330120307615ff683adf", func := "loop.example/linkboy/laws.FnNumPrefix", spec := "fnNumPrefix", unfollowed := true, recurses := true, apart := false }
def FnNumPrefixSaid : Prop := fnNumPrefixRow.holds Tryz.pinned (OpenSpec.ofChange fnNumPrefixSpec)

/-- ITS FALSE NEIGHBOUR: 'it returns false'. Refute it at one input. -/
def fnNumPrefixWrong : ChangeSpec := { name := "fnNumPrefix", fn := fun _ => fun
  | [d] => { results := [.lit (.bool false)], args := [d] }
  | _ => none }
def FnNumPrefixWrongFalsely : Prop := fnNumPrefixRow.holds Tryz.pinned (OpenSpec.ofChange fnNumPrefixWrong)

/-- 'laws.FnCrdPrefix': WHATEVER THE INPUT: true; the input reads as it did. -/
def fnCrdPrefixSpec : ChangeSpec := { name := "fnCrdPrefix", fn := fun _ => fun
  | [d] => { results := [.lit (.bool true)], args := [d] }
  | _ => none }
def fnCrdPrefixRow : OpenClaim := { program := "ytnkhjnieidlknaagreat", sum := "ff0fca379db6d4aa3f9f93d25544f7b74ea68efdae83330120307615ff683adf", func := "loop.example/linkboy/laws.FnCrdPrefix", spec := "fnCrdPrefix", unfollowed := true, recurses := true, apart := false }
def FnCrdPrefixSaid : Prop := fnCrdPrefixRow.holds Tryz.pinned (OpenSpec.ofChange fnCrdPrefixSpec)

/-- ITS FALSE NEIGHBOUR: 'it returns false'. Refute it at one input. -/
def fnCrdPrefixWrong : ChangeSpec := { name := "fnCrdPrefix", fn := fun _ => fun
  | [d] => { results := [.lit (.bool false)], args := [d] }
  | _ => none }
def FnCrdPrefixWrongFalsely : Prop := fnCrdPrefixRow.holds Tryz.pinned (OpenSpec.ofChange fnCrdPrefixWrong)

/-- 'laws.FnCrdComes': WHATEVER THE INPUT: true; the input reads as it did. -/
def fnCrdComesSpec : ChangeSpec := { name := "fnCrdComes", fn := fun _ => fun
  | [d] => { results := [.lit (.bool true)], args := [d] }
  | _ => none }
def fnCrdComesRow : OpenClaim := { program := "ytnkhjnieidlknaagreat", sum := "ff0fca379db6d4aa3f9f93d25544f7b74ea68efdae83330120307615ff683adf", func := "loop.example/linkboy/laws.FnCrdComes", spec := "fnCrdComes", unfollowed := true, recurses := true, apart := false }
def FnCrdComesSaid : Prop := fnCrdComesRow.holds Tryz.pinned (OpenSpec.ofChange fnCrdComesSpec)

/-- ITS FALSE NEIGHBOUR: 'it returns false'. Refute it at one input. -/
def fnCrdComesWrong : ChangeSpec := { name := "fnCrdComes", fn := fun _ => fun
  | [d] => { results := [.lit (.bool false)], args := [d] }
  | _ => none }
def FnCrdComesWrongFalsely : Prop := fnCrdComesRow.holds Tryz.pinned (OpenSpec.ofChange fnCrdComesWrong)

/-- 'laws.FnCrdBusy': WHATEVER THE INPUT: true; the input reads as it did. -/
def fnCrdBusySpec : ChangeSpec := { name := "fnCrdBusy", fn := fun _ => fun
  | [d] => { results := [.lit (.bool true)], args := [d] }
  | _ => none }
def fnCrdBusyRow : OpenClaim := { program := "ytnkhjnieidlknaagreat", sum := "ff0fca379db6d4aa3f9f93d25544f7b74ea68efdae83330120307615ff683adf", func := "loop.example/linkboy/laws.FnCrdBusy", spec := "fnCrdBusy", unfollowed := true, recurses := true, apart := false }
def FnCrdBusySaid : Prop := fnCrdBusyRow.holds Tryz.pinned (OpenSpec.ofChange fnCrdBusySpec)

/-- ITS FALSE NEIGHBOUR: 'it returns false'. Refute it at one input. -/
def fnCrdBusyWrong : ChangeSpec := { name := "fnCrdBusy", fn := fun _ => fun
  | [d] => { results := [.lit (.bool false)], args := [d] }
  | _ => none }
def FnCrdBusyWrongFalsely : Prop := fnCrdBusyRow.holds Tryz.pinned (OpenSpec.ofChange fnCrdBusyWrong)

/- THE SECOND FORM. 'bulk': how many values and letters a reading holds, each counted each time it is reached (what is shared counts as often as it is met; a slice's spare places count too). A statement '..UptoSaid' is the law's where the arguments, and the package variables that the reading takes, are together of bulk at most 1048576: NARROWER than '..Said'. Prove '..Said' where nothing that the law and all that it calls make is longer than what came in: it says more and counts as full. Else prove '..UptoSaid'. A law counts once. -/
mutual
def uptoBulk {H : Type} : DataW H → Nat
  | .lit (.string bytes) => bytes.length + 1
  | .lit _ => 1
  | .nil => 1
  | .ptr d => uptoBulk d + 1
  | .slice elems spare => uptoBulkAll elems + uptoBulkAll spare + 1
  | .agg parts => uptoBulkAll parts + 1
  | .iface _ d => uptoBulk d + 1
  | .map entries => uptoBulkEntries entries + 1
  | .held _ => 1
def uptoBulkAll {H : Type} : List (DataW H) → Nat
  | [] => 0
  | d :: r => uptoBulk d + uptoBulkAll r
def uptoBulkEntries {H : Type} : List (Lit × DataW H) → Nat
  | [] => 0
  | x :: r => uptoBulkEntry x + uptoBulkEntries r
def uptoBulkEntry {H : Type} : Lit × DataW H → Nat
  | (.string bytes, d) => bytes.length + uptoBulk d + 1
  | (_, d) => uptoBulk d + 1
 end
def uptoSmall : (H : Type) → List (DataW H) → Bool := fun _ ds => decide (uptoBulkAll ds ≤ 1048576)
def OpenSpec.upto (s : _root_.Go.ChangeSpec) : _root_.Go.OpenSpec := { _root_.Go.OpenSpec.ofChange s with cond := some uptoSmall }

/-- 'laws.FnNumAcks', WHERE WHAT IT READS IS OF BULK AT MOST 1048576: true; the input reads as it did. -/
def fnNumAcksUptoRow : OpenClaim := { program := "ytnkhjnieidlknaagreat", sum := "ff0fca379db6d4aa3f9f93d25544f7b74ea68efdae83330120307615ff683adf", func := "loop.example/linkboy/laws.FnNumAcks", spec := "fnNumAcks", unfollowed := true, recurses := true, apart := false, narrowed := true }
def FnNumAcksUptoSaid : Prop := fnNumAcksUptoRow.holds Tryz.pinned (OpenSpec.upto fnNumAcksSpec)

/-- 'laws.FnNumLast', WHERE WHAT IT READS IS OF BULK AT MOST 1048576: true; the input reads as it did. -/
def fnNumLastUptoRow : OpenClaim := { program := "ytnkhjnieidlknaagreat", sum := "ff0fca379db6d4aa3f9f93d25544f7b74ea68efdae83330120307615ff683adf", func := "loop.example/linkboy/laws.FnNumLast", spec := "fnNumLast", unfollowed := true, recurses := true, apart := false, narrowed := true }
def FnNumLastUptoSaid : Prop := fnNumLastUptoRow.holds Tryz.pinned (OpenSpec.upto fnNumLastSpec)

/-- 'laws.FnNumPrefix', WHERE WHAT IT READS IS OF BULK AT MOST 1048576: true; the input reads as it did. -/
def fnNumPrefixUptoRow : OpenClaim := { program := "ytnkhjnieidlknaagreat", sum := "ff0fca379db6d4aa3f9f93d25544f7b74ea68efdae83330120307615ff683adf", func := "loop.example/linkboy/laws.FnNumPrefix", spec := "fnNumPrefix", unfollowed := true, recurses := true, apart := false, narrowed := true }
def FnNumPrefixUptoSaid : Prop := fnNumPrefixUptoRow.holds Tryz.pinned (OpenSpec.upto fnNumPrefixSpec)

/-- 'laws.FnCrdPrefix', WHERE WHAT IT READS IS OF BULK AT MOST 1048576: true; the input reads as it did. -/
def fnCrdPrefixUptoRow : OpenClaim := { program := "ytnkhjnieidlknaagreat", sum := "ff0fca379db6d4aa3f9f93d25544f7b74ea68efdae83330120307615ff683adf", func := "loop.example/linkboy/laws.FnCrdPrefix", spec := "fnCrdPrefix", unfollowed := true, recurses := true, apart := false, narrowed := true }
def FnCrdPrefixUptoSaid : Prop := fnCrdPrefixUptoRow.holds Tryz.pinned (OpenSpec.upto fnCrdPrefixSpec)

/-- 'laws.FnCrdComes', WHERE WHAT IT READS IS OF BULK AT MOST 1048576: true; the input reads as it did. -/
def fnCrdComesUptoRow : OpenClaim := { program := "ytnkhjnieidlknaagreat", sum := "ff0fca379db6d4aa3f9f93d25544f7b74ea68efdae83330120307615ff683adf", func := "loop.example/linkboy/laws.FnCrdComes", spec := "fnCrdComes", unfollowed := true, recurses := true, apart := false, narrowed := true }
def FnCrdComesUptoSaid : Prop := fnCrdComesUptoRow.holds Tryz.pinned (OpenSpec.upto fnCrdComesSpec)

/-- 'laws.FnCrdBusy', WHERE WHAT IT READS IS OF BULK AT MOST 1048576: true; the input reads as it did. -/
def fnCrdBusyUptoRow : OpenClaim := { program := "ytnkhjnieidlknaagreat", sum := "ff0fca379db6d4aa3f9f93d25544f7b74ea68efdae83330120307615ff683adf", func := "loop.example/linkboy/laws.FnCrdBusy", spec := "fnCrdBusy", unfollowed := true, recurses := true, apart := false, narrowed := true }
def FnCrdBusyUptoSaid : Prop := fnCrdBusyUptoRow.holds Tryz.pinned (OpenSpec.upto fnCrdBusySpec)

end Rows
end Go.Proofs.YtnkhjnieidlknaaGreat
