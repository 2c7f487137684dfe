/-
  No cell of these rows narrows 'for every input' (looked for: loops, veiled, ifaces, maps, wideKeys, modest, calm, conditions, laid).
  DERIVED. THE GIVEN ROWS OF THIS SEAT. 6 by the template 'for every input the law returns true; each argument reads behind the call as it read before'; 0 by the template 'total and deterministic' (their statements: YtpblmlaahapohaaGreatTotals.lean).
  GIVEN WITH THE SEED: the statements are not yours to turn. If you find one false, say at which input.
  Laid BY PROGRAM, IN A SANDBOX (cutbox-rows.mjs): the forced cells as the released guide's own fill.sh prints them over the translation beca24ed9ced8aec… (all of the seat's roots in one cut). By AI agents, Wed Nov 11 2026. No macro, syntax, notation, axiom, sorry.
-/
import Derived.Test.YtpblmlaahapohaaGreatChecked
import GoSem.Claim
import GoSem.ClaimJoined
import GoSem.ClaimMapViews
import Derived.JoinedTies
import Derived.KernelRfl
namespace Go.Proofs.YtpblmlaahapohaaGreat
/- THE CELL 'sum', in the pinned program and in every row, IS THE sha256 OF THE DUMP (.gsa) THAT YtpblmlaahapohaaGreatProg.lean LOADS. Nothing in Lean hashes anything: it is a label: what it is worth is what the hold of that sum in a sandbox is worth. -/
noncomputable def Tryz.pinned : Pinned := { name := "ytpblmlaahapohaagreat", sum := "beca24ed9ced8aec7ab2e629aee26b278c1eaac56266fa9aaf104ee924c7bee0", checked := Tryz.checked }
namespace Rows
def none {H : Type} : Left H := { results := [], args := [] }

/-- 'laws.FnCrdEnd': WHATEVER THE INPUT: true; the input reads as it did. -/
def fnCrdEndSpec : ChangeSpec := { name := "fnCrdEnd", fn := fun _ => fun
  | [d] => { results := [.lit (.bool true)], args := [d] }
  | _ => none }
def fnCrdEndRow : OpenClaim := { program := "ytpblmlaahapohaagreat", sum := "beca24ed9ced8aec7ab2e629aee26b278c1eaac56266fa9aaf104ee924c7bee0", func := "loop.example/linkboy/laws.FnCrdEnd", spec := "fnCrdEnd", unfollowed := true, recurses := true, apart := false }
def FnCrdEndSaid : Prop := fnCrdEndRow.holds Tryz.pinned (OpenSpec.ofChange fnCrdEndSpec)

/-- ITS FALSE NEIGHBOUR: 'it returns false'. Refute it at one input. -/
def fnCrdEndWrong : ChangeSpec := { name := "fnCrdEnd", fn := fun _ => fun
  | [d] => { results := [.lit (.bool false)], args := [d] }
  | _ => none }
def FnCrdEndWrongFalsely : Prop := fnCrdEndRow.holds Tryz.pinned (OpenSpec.ofChange fnCrdEndWrong)

/-- 'laws.FnCrdWay': WHATEVER THE INPUT: true; the input reads as it did. -/
def fnCrdWaySpec : ChangeSpec := { name := "fnCrdWay", fn := fun _ => fun
  | [d] => { results := [.lit (.bool true)], args := [d] }
  | _ => none }
def fnCrdWayRow : OpenClaim := { program := "ytpblmlaahapohaagreat", sum := "beca24ed9ced8aec7ab2e629aee26b278c1eaac56266fa9aaf104ee924c7bee0", func := "loop.example/linkboy/laws.FnCrdWay", spec := "fnCrdWay", unfollowed := true, recurses := true, apart := false }
def FnCrdWaySaid : Prop := fnCrdWayRow.holds Tryz.pinned (OpenSpec.ofChange fnCrdWaySpec)

/-- ITS FALSE NEIGHBOUR: 'it returns false'. Refute it at one input. -/
def fnCrdWayWrong : ChangeSpec := { name := "fnCrdWay", fn := fun _ => fun
  | [d] => { results := [.lit (.bool false)], args := [d] }
  | _ => none }
def FnCrdWayWrongFalsely : Prop := fnCrdWayRow.holds Tryz.pinned (OpenSpec.ofChange fnCrdWayWrong)

/-- 'laws.FnNumCount': WHATEVER THE INPUT: true; the input reads as it did. -/
def fnNumCountSpec : ChangeSpec := { name := "fnNumCount", fn := fun _ => fun
  | [d] => { results := [.lit (.bool true)], args := [d] }
  | _ => none }
def fnNumCountRow : OpenClaim := { program := "ytpblmlaahapohaagreat", sum := "beca24ed9ced8aec7ab2e629aee26b278c1eaac56266fa9aaf104ee924c7bee0", func := "loop.example/linkboy/laws.FnNumCount", spec := "fnNumCount", unfollowed := true, recurses := true, apart := false }
def FnNumCountSaid : Prop := fnNumCountRow.holds Tryz.pinned (OpenSpec.ofChange fnNumCountSpec)

/-- ITS FALSE NEIGHBOUR: 'it returns false'. Refute it at one input. -/
def fnNumCountWrong : ChangeSpec := { name := "fnNumCount", fn := fun _ => fun
  | [d] => { results := [.lit (.bool false)], args := [d] }
  | _ => none }
def FnNumCountWrongFalsely : Prop := fnNumCountRow.holds Tryz.pinned (OpenSpec.ofChange fnNumCountWrong)

/-- 'laws.FnNumDead': WHATEVER THE INPUT: true; the input reads as it did. -/
def fnNumDeadSpec : ChangeSpec := { name := "fnNumDead", fn := fun _ => fun
  | [d] => { results := [.lit (.bool true)], args := [d] }
  | _ => none }
def fnNumDeadRow : OpenClaim := { program := "ytpblmlaahapohaagreat", sum := "beca24ed9ced8aec7ab2e629aee26b278c1eaac56266fa9aaf104ee924c7bee0", func := "loop.example/linkboy/laws.FnNumDead", spec := "fnNumDead", unfollowed := true, recurses := true, apart := false }
def FnNumDeadSaid : Prop := fnNumDeadRow.holds Tryz.pinned (OpenSpec.ofChange fnNumDeadSpec)

/-- ITS FALSE NEIGHBOUR: 'it returns false'. Refute it at one input. -/
def fnNumDeadWrong : ChangeSpec := { name := "fnNumDead", fn := fun _ => fun
  | [d] => { results := [.lit (.bool false)], args := [d] }
  | _ => none }
def FnNumDeadWrongFalsely : Prop := fnNumDeadRow.holds Tryz.pinned (OpenSpec.ofChange fnNumDeadWrong)

/-- 'laws.FnNumQuiet': WHATEVER THE INPUT: true; the input reads as it did. -/
def fnNumQuietSpec : ChangeSpec := { name := "fnNumQuiet", fn := fun _ => fun
  | [d] => { results := [.lit (.bool true)], args := [d] }
  | _ => none }
def fnNumQuietRow : OpenClaim := { program := "ytpblmlaahapohaagreat", sum := "beca24ed9ced8aec7ab2e629aee26b278c1eaac56266fa9aaf104ee924c7bee0", func := "loop.example/linkboy/laws.FnNumQuiet", spec := "fnNumQuiet", unfollowed := true, recurses := true, apart := false }
def FnNumQuietSaid : Prop := fnNumQuietRow.holds Tryz.pinned (OpenSpec.ofChange fnNumQuietSpec)

/-- ITS FALSE NEIGHBOUR: 'it returns false'. Refute it at one input. -/
def fnNumQuietWrong : ChangeSpec := { name := "fnNumQuiet", fn := fun _ => fun
  | [d] => { results := [.lit (.bool false)], args := [d] }
  | _ => none }
def FnNumQuietWrongFalsely : Prop := fnNumQuietRow.holds Tryz.pinned (OpenSpec.ofChange fnNumQuietWrong)

/-- 'laws.FnWldBusy': WHATEVER THE INPUT: true; the input reads as it did. -/
def fnWldBusySpec : ChangeSpec := { name := "fnWldBusy", fn := fun _ => fun
  | [d] => { results := [.lit (.bool true)], args := [d] }
  | _ => none }
def fnWldBusyRow : OpenClaim := { program := "ytpblmlaahapohaagreat", sum := "beca24ed9ced8aec7ab2e629aee26b278c1eaac56266fa9aaf104ee924c7bee0", func := "loop.example/linkboy/laws.FnWldBusy", spec := "fnWldBusy", unfollowed := true, recurses := true, apart := false }
def FnWldBusySaid : Prop := fnWldBusyRow.holds Tryz.pinned (OpenSpec.ofChange fnWldBusySpec)

/-- ITS FALSE NEIGHBOUR: 'it returns false'. Refute it at one input. -/
def fnWldBusyWrong : ChangeSpec := { name := "fnWldBusy", fn := fun _ => fun
  | [d] => { results := [.lit (.bool false)], args := [d] }
  | _ => none }
def FnWldBusyWrongFalsely : Prop := fnWldBusyRow.holds Tryz.pinned (OpenSpec.ofChange fnWldBusyWrong)

/- THE SECOND FORM. 'bulk': how many values and letters a reading holds, each counted each time it is reached (what is shared counts as often as it is met; a slice's spare places count too). A statement '..UptoSaid' is the law's where the arguments, and the package variables that the reading takes, are together of bulk at most 1048576: NARROWER than '..Said'. Prove '..Said' where nothing that the law and all that it calls make is longer than what came in: it says more and counts as full. Else prove '..UptoSaid'. A law counts once. -/
mutual
def uptoBulk {H : Type} : DataW H → Nat
  | .lit (.string bytes) => bytes.length + 1
  | .lit _ => 1
  | .nil => 1
  | .ptr d => uptoBulk d + 1
  | .slice elems spare => uptoBulkAll elems + uptoBulkAll spare + 1
  | .agg parts => uptoBulkAll parts + 1
  | .iface _ d => uptoBulk d + 1
  | .map entries => uptoBulkEntries entries + 1
  | .held _ => 1
def uptoBulkAll {H : Type} : List (DataW H) → Nat
  | [] => 0
  | d :: r => uptoBulk d + uptoBulkAll r
def uptoBulkEntries {H : Type} : List (Lit × DataW H) → Nat
  | [] => 0
  | x :: r => uptoBulkEntry x + uptoBulkEntries r
def uptoBulkEntry {H : Type} : Lit × DataW H → Nat
  | (.string bytes, d) => bytes.length + uptoBulk d + 1
  | (_, d) => uptoBulk d + 1
 end
def uptoSmall : (H : Type) → List (DataW H) → Bool := fun _ ds => decide (uptoBulkAll ds ≤ 1048576)
def OpenSpec.upto (s : _root_.Go.ChangeSpec) : _root_.Go.OpenSpec := { _root_.Go.OpenSpec.ofChange s with cond := some uptoSmall }

/-- 'laws.FnCrdEnd', WHERE WHAT IT READS IS OF BULK AT MOST 1048576: true; the input reads as it did. -/
def fnCrdEndUptoRow : OpenClaim := { program := "ytpblmlaahapohaagreat", sum := "beca24ed9ced8aec7ab2e629aee26b278c1eaac56266fa9aaf104ee924c7bee0", func := "loop.example/linkboy/laws.FnCrdEnd", spec := "fnCrdEnd", unfollowed := true, recurses := true, apart := false, narrowed := true }
def FnCrdEndUptoSaid : Prop := fnCrdEndUptoRow.holds Tryz.pinned (OpenSpec.upto fnCrdEndSpec)

/-- 'laws.FnCrdWay', WHERE WHAT IT READS IS OF BULK AT MOST 1048576: true; the input reads as it did. -/
def fnCrdWayUptoRow : OpenClaim := { program := "ytpblmlaahapohaagreat", sum := "beca24ed9ced8aec7ab2e629aee26b278c1eaac56266fa9aaf104ee924c7bee0", func := "loop.example/linkboy/laws.FnCrdWay", spec := "fnCrdWay", unfollowed := true, recurses := true, apart := false, narrowed := true }
def FnCrdWayUptoSaid : Prop := fnCrdWayUptoRow.holds Tryz.pinned (OpenSpec.upto fnCrdWaySpec)

/-- 'laws.FnNumCount', WHERE WHAT IT READS IS OF BULK AT MOST 1048576: true; the input reads as it did. -/
def fnNumCountUptoRow : OpenClaim := { program := "ytpblmlaahapohaagreat", sum := "beca24ed9ced8aec7ab2e629aee26b278c1eaac56266fa9aaf104ee924c7bee0", func := "loop.example/linkboy/laws.FnNumCount", spec := "fnNumCount", unfollowed := true, recurses := true, apart := false, narrowed := true }
def FnNumCountUptoSaid : Prop := fnNumCountUptoRow.holds Tryz.pinned (OpenSpec.upto fnNumCountSpec)

/-- 'laws.FnNumDead', WHERE WHAT IT READS IS OF BULK AT MOST 1048576: true; the input reads as it did. -/
def fnNumDeadUptoRow : OpenClaim := { program := "ytpblmlaahapohaagreat", sum := "beca24ed9ced8aec7ab2e629aee26b278c1eaac56266fa9aaf104ee924c7bee0", func := "loop.example/linkboy/laws.FnNumDead", spec := "fnNumDead", unfollowed := true, recurses := true, apart := false, narrowed := true }
def FnNumDeadUptoSaid : Prop := fnNumDeadUptoRow.holds Tryz.pinned (OpenSpec.upto fnNumDeadSpec)

/-- 'laws.FnNumQuiet', WHERE WHAT IT READS IS OF BULK AT MOST 1048576: true; the input reads as it did. -/
def fnNumQuietUptoRow : OpenClaim := { program := "ytpblmlaahapohaagreat", sum := "beca24ed9ced8aec7ab2e629aee26b278c1eaac56266fa9aaf104ee924c7bee0", func := "loop.example/linkboy/laws.FnNumQuiet", spec := "fnNumQuiet", unfollowed := true, recurses := true, apart := false, narrowed := true }
def FnNumQuietUptoSaid : Prop := fnNumQuietUptoRow.holds Tryz.pinned (OpenSpec.upto fnNumQuietSpec)

/-- 'laws.FnWldBusy', WHERE WHAT IT READS IS OF BULK AT MOST 1048576: true; the input reads as it did. -/
def fnWldBusyUptoRow : OpenClaim := { program := "ytpblmlaahapohaagreat", sum := "beca24ed9ced8aec7ab2e629aee26b278c1eaac56266fa9aaf104ee924c7bee0", func := "loop.example/linkboy/laws.FnWldBusy", spec := "fnWldBusy", unfollowed := true, recurses := true, apart := false, narrowed := true }
def FnWldBusyUptoSaid : Prop := fnWldBusyUptoRow.holds Tryz.pinned (OpenSpec.upto fnWldBusySpec)

end Rows
end Go.Proofs.YtpblmlaahapohaaGreat
