/-
  No cell of these rows narrows 'for every input' (looked for: loops, veiled, ifaces, maps, wideKeys, modest, calm, conditions, laid).
  DERIVED. THE GIVEN ROWS OF THIS SEAT. 12 by the template 'for every input the law returns true; each argument reads behind the call as it read before'; 0 by the template 'total and deterministic' (their statements: YtllafcmkppmdgaaGreatTotals.lean).
  GIVEN WITH THE SEED: the statements are not yours to turn. If you find one false, say at which input.
  Laid BY PROGRAM, IN A SANDBOX (cutbox-rows.mjs): the forced cells as the released guide's own fill.sh prints them over the translation a0fb46cdb178bffd… (all of the seat's roots in one cut). By AI agents, Wed Nov 11 2026. No macro, syntax, notation, axiom, sorry.
-/
import Derived.Test.YtllafcmkppmdgaaGreatChecked
import GoSem.Claim
import GoSem.ClaimJoined
import GoSem.ClaimMapViews
import Derived.JoinedTies
import Derived.KernelRfl
namespace Go.Proofs.YtllafcmkppmdgaaGreat
/- THE CELL 'sum', in the pinned program and in every row, IS THE sha256 OF THE DUMP (.gsa) THAT YtllafcmkppmdgaaGreatProg.lean LOADS. Nothing in Lean hashes anything: it is a label: what it is worth is what the hold of that sum in a sandbox is worth. -/
noncomputable def Tryz.pinned : Pinned := { name := "ytllafcmkppmdgaagreat", sum := "a0fb46cdb178bffdc175632511fcc108aac87ad1494cc06897b03d0a582726db", checked := Tryz.checked }
namespace Rows
def none {H : Type} : Left H := { results := [], args := [] }

/-- 'laws.FnCrdMost': WHATEVER THE INPUT: true; the input reads as it did. -/
def fnCrdMostSpec : ChangeSpec := { name := "fnCrdMost", fn := fun _ => fun
  | [d] => { results := [.lit (.bool true)], args := [d] }
  | _ => none }
def fnCrdMostRow : OpenClaim := { program := "ytllafcmkppmdgaagreat", sum := "a0fb46cdb178bffdc175632511fcc108aac87ad1494cc06897b03d0a582726db", func := "loop.example/linkboy/laws.FnCrdMost", spec := "fnCrdMost", unfollowed := true, recurses := true, apart := false }
def FnCrdMostSaid : Prop := fnCrdMostRow.holds Tryz.pinned (OpenSpec.ofChange fnCrdMostSpec)

/-- ITS FALSE NEIGHBOUR: 'it returns false'. Refute it at one input. -/
def fnCrdMostWrong : ChangeSpec := { name := "fnCrdMost", fn := fun _ => fun
  | [d] => { results := [.lit (.bool false)], args := [d] }
  | _ => none }
def FnCrdMostWrongFalsely : Prop := fnCrdMostRow.holds Tryz.pinned (OpenSpec.ofChange fnCrdMostWrong)

/-- 'laws.FnNumTries': WHATEVER THE INPUT: true; the input reads as it did. -/
def fnNumTriesSpec : ChangeSpec := { name := "fnNumTries", fn := fun _ => fun
  | [d] => { results := [.lit (.bool true)], args := [d] }
  | _ => none }
def fnNumTriesRow : OpenClaim := { program := "ytllafcmkppmdgaagreat", sum := "a0fb46cdb178bffdc175632511fcc108aac87ad1494cc06897b03d0a582726db", func := "loop.example/linkboy/laws.FnNumTries", spec := "fnNumTries", unfollowed := true, recurses := true, apart := false }
def FnNumTriesSaid : Prop := fnNumTriesRow.holds Tryz.pinned (OpenSpec.ofChange fnNumTriesSpec)

/-- ITS FALSE NEIGHBOUR: 'it returns false'. Refute it at one input. -/
def fnNumTriesWrong : ChangeSpec := { name := "fnNumTries", fn := fun _ => fun
  | [d] => { results := [.lit (.bool false)], args := [d] }
  | _ => none }
def FnNumTriesWrongFalsely : Prop := fnNumTriesRow.holds Tryz.pinned (OpenSpec.ofChange fnNumTriesWrong)

/-- 'laws.FnWldRoom': WHATEVER THE INPUT: true; the input reads as it did. -/
def fnWldRoomSpec : ChangeSpec := { name := "fnWldRoom", fn := fun _ => fun
  | [d] => { results := [.lit (.bool true)], args := [d] }
  | _ => none }
def fnWldRoomRow : OpenClaim := { program := "ytllafcmkppmdgaagreat", sum := "a0fb46cdb178bffdc175632511fcc108aac87ad1494cc06897b03d0a582726db", func := "loop.example/linkboy/laws.FnWldRoom", spec := "fnWldRoom", unfollowed := true, recurses := true, apart := false }
def FnWldRoomSaid : Prop := fnWldRoomRow.holds Tryz.pinned (OpenSpec.ofChange fnWldRoomSpec)

/-- ITS FALSE NEIGHBOUR: 'it returns false'. Refute it at one input. -/
def fnWldRoomWrong : ChangeSpec := { name := "fnWldRoom", fn := fun _ => fun
  | [d] => { results := [.lit (.bool false)], args := [d] }
  | _ => none }
def FnWldRoomWrongFalsely : Prop := fnWldRoomRow.holds Tryz.pinned (OpenSpec.ofChange fnWldRoomWrong)

/-- 'laws.FnNumLong': WHATEVER THE INPUT: true; the input reads as it did. -/
def fnNumLongSpec : ChangeSpec := { name := "fnNumLong", fn := fun _ => fun
  | [d] => { results := [.lit (.bool true)], args := [d] }
  | _ => none }
def fnNumLongRow : OpenClaim := { program := "ytllafcmkppmdgaagreat", sum := "a0fb46cdb178bffdc175632511fcc108aac87ad1494cc06897b03d0a582726db", func := "loop.example/linkboy/laws.FnNumLong", spec := "fnNumLong", unfollowed := true, recurses := true, apart := false }
def FnNumLongSaid : Prop := fnNumLongRow.holds Tryz.pinned (OpenSpec.ofChange fnNumLongSpec)

/-- ITS FALSE NEIGHBOUR: 'it returns false'. Refute it at one input. -/
def fnNumLongWrong : ChangeSpec := { name := "fnNumLong", fn := fun _ => fun
  | [d] => { results := [.lit (.bool false)], args := [d] }
  | _ => none }
def FnNumLongWrongFalsely : Prop := fnNumLongRow.holds Tryz.pinned (OpenSpec.ofChange fnNumLongWrong)

/-- 'laws.FnWldGrows': WHATEVER THE INPUT: true; the input reads as it did. -/
def fnWldGrowsSpec : ChangeSpec := { name := "fnWldGrows", fn := fun _ => fun
  | [d] => { results := [.lit (.bool true)], args := [d] }
  | _ => none }
def fnWldGrowsRow : OpenClaim := { program := "ytllafcmkppmdgaagreat", sum := "a0fb46cdb178bffdc175632511fcc108aac87ad1494cc06897b03d0a582726db", func := "loop.example/linkboy/laws.FnWldGrows", spec := "fnWldGrows", unfollowed := true, recurses := true, apart := false }
def FnWldGrowsSaid : Prop := fnWldGrowsRow.holds Tryz.pinned (OpenSpec.ofChange fnWldGrowsSpec)

/-- ITS FALSE NEIGHBOUR: 'it returns false'. Refute it at one input. -/
def fnWldGrowsWrong : ChangeSpec := { name := "fnWldGrows", fn := fun _ => fun
  | [d] => { results := [.lit (.bool false)], args := [d] }
  | _ => none }
def FnWldGrowsWrongFalsely : Prop := fnWldGrowsRow.holds Tryz.pinned (OpenSpec.ofChange fnWldGrowsWrong)

/-- 'laws.FnWldEnd': WHATEVER THE INPUT: true; the input reads as it did. -/
def fnWldEndSpec : ChangeSpec := { name := "fnWldEnd", fn := fun _ => fun
  | [d] => { results := [.lit (.bool true)], args := [d] }
  | _ => none }
def fnWldEndRow : OpenClaim := { program := "ytllafcmkppmdgaagreat", sum := "a0fb46cdb178bffdc175632511fcc108aac87ad1494cc06897b03d0a582726db", func := "loop.example/linkboy/laws.FnWldEnd", spec := "fnWldEnd", unfollowed := true, recurses := true, apart := false }
def FnWldEndSaid : Prop := fnWldEndRow.holds Tryz.pinned (OpenSpec.ofChange fnWldEndSpec)

/-- ITS FALSE NEIGHBOUR: 'it returns false'. Refute it at one input. -/
def fnWldEndWrong : ChangeSpec := { name := "fnWldEnd", fn := fun _ => fun
  | [d] => { results := [.lit (.bool false)], args := [d] }
  | _ => none }
def FnWldEndWrongFalsely : Prop := fnWldEndRow.holds Tryz.pinned (OpenSpec.ofChange fnWldEndWrong)

/-- 'laws.FnWldMode': WHATEVER THE INPUT: true; the input reads as it did. -/
def fnWldModeSpec : ChangeSpec := { name := "fnWldMode", fn := fun _ => fun
  | [d] => { results := [.lit (.bool true)], args := [d] }
  | _ => none }
def fnWldModeRow : OpenClaim := { program := "ytllafcmkppmdgaagreat", sum := "a0fb46cdb178bffdc175632511fcc108aac87ad1494cc06897b03d0a582726db", func := "loop.example/linkboy/laws.FnWldMode", spec := "fnWldMode", unfollowed := true, recurses := true, apart := false }
def FnWldModeSaid : Prop := fnWldModeRow.holds Tryz.pinned (OpenSpec.ofChange fnWldModeSpec)

/-- ITS FALSE NEIGHBOUR: 'it returns false'. Refute it at one input. -/
def fnWldModeWrong : ChangeSpec := { name := "fnWldMode", fn := fun _ => fun
  | [d] => { results := [.lit (.bool false)], args := [d] }
  | _ => none }
def FnWldModeWrongFalsely : Prop := fnWldModeRow.holds Tryz.pinned (OpenSpec.ofChange fnWldModeWrong)

/-- 'laws.FnWldApart': WHATEVER THE INPUT: true; the input reads as it did. -/
def fnWldApartSpec : ChangeSpec := { name := "fnWldApart", fn := fun _ => fun
  | [d] => { results := [.lit (.bool true)], args := [d] }
  | _ => none }
def fnWldApartRow : OpenClaim := { program := "ytllafcmkppmdgaagreat", sum := "a0fb46cdb178bffdc175632511fcc108aac87ad1494cc06897b03d0a582726db", func := "loop.example/linkboy/laws.FnWldApart", spec := "fnWldApart", unfollowed := true, recurses := true, apart := false }
def FnWldApartSaid : Prop := fnWldApartRow.holds Tryz.pinned (OpenSpec.ofChange fnWldApartSpec)

/-- ITS FALSE NEIGHBOUR: 'it returns false'. Refute it at one input. -/
def fnWldApartWrong : ChangeSpec := { name := "fnWldApart", fn := fun _ => fun
  | [d] => { results := [.lit (.bool false)], args := [d] }
  | _ => none }
def FnWldApartWrongFalsely : Prop := fnWldApartRow.holds Tryz.pinned (OpenSpec.ofChange fnWldApartWrong)

/-- 'laws.FnWldLose': WHATEVER THE INPUT: true; the input reads as it did. -/
def fnWldLoseSpec : ChangeSpec := { name := "fnWldLose", fn := fun _ => fun
  | [d] => { results := [.lit (.bool true)], args := [d] }
  | _ => none }
def fnWldLoseRow : OpenClaim := { program := "ytllafcmkppmdgaagreat", sum := "a0fb46cdb178bffdc175632511fcc108aac87ad1494cc06897b03d0a582726db", func := "loop.example/linkboy/laws.FnWldLose", spec := "fnWldLose", unfollowed := true, recurses := true, apart := false }
def FnWldLoseSaid : Prop := fnWldLoseRow.holds Tryz.pinned (OpenSpec.ofChange fnWldLoseSpec)

/-- ITS FALSE NEIGHBOUR: 'it returns false'. Refute it at one input. -/
def fnWldLoseWrong : ChangeSpec := { name := "fnWldLose", fn := fun _ => fun
  | [d] => { results := [.lit (.bool false)], args := [d] }
  | _ => none }
def FnWldLoseWrongFalsely : Prop := fnWldLoseRow.holds Tryz.pinned (OpenSpec.ofChange fnWldLoseWrong)

/-- 'laws.FnWldNoise': WHATEVER THE INPUT: true; the input reads as it did. -/
def fnWldNoiseSpec : ChangeSpec := { name := "fnWldNoise", fn := fun _ => fun
  | [d1, d2] => { results := [.lit (.bool true)], args := [d1, d2] }
  | _ => none }
def fnWldNoiseRow : OpenClaim := { program := "ytllafcmkppmdgaagreat", sum := "a0fb46cdb178bffdc175632511fcc108aac87ad1494cc06897b03d0a582726db", func := "loop.example/linkboy/laws.FnWldNoise", spec := "fnWldNoise", unfollowed := true, recurses := true, apart := false }
def FnWldNoiseSaid : Prop := fnWldNoiseRow.holds Tryz.pinned (OpenSpec.ofChange fnWldNoiseSpec)

/-- ITS FALSE NEIGHBOUR: 'it returns false'. Refute it at one input. -/
def fnWldNoiseWrong : ChangeSpec := { name := "fnWldNoise", fn := fun _ => fun
  | [d1, d2] => { results := [.lit (.bool false)], args := [d1, d2] }
  | _ => none }
def FnWldNoiseWrongFalsely : Prop := fnWldNoiseRow.holds Tryz.pinned (OpenSpec.ofChange fnWldNoiseWrong)

/-- 'laws.FnWldBent': WHATEVER THE INPUT: true; the input reads as it did. -/
def fnWldBentSpec : ChangeSpec := { name := "fnWldBent", fn := fun _ => fun
  | [d] => { results := [.lit (.bool true)], args := [d] }
  | _ => none }
def fnWldBentRow : OpenClaim := { program := "ytllafcmkppmdgaagreat", sum := "a0fb46cdb178bffdc175632511fcc108aac87ad1494cc06897b03d0a582726db", func := "loop.example/linkboy/laws.FnWldBent", spec := "fnWldBent", unfollowed := true, recurses := true, apart := false }
def FnWldBentSaid : Prop := fnWldBentRow.holds Tryz.pinned (OpenSpec.ofChange fnWldBentSpec)

/-- ITS FALSE NEIGHBOUR: 'it returns false'. Refute it at one input. -/
def fnWldBentWrong : ChangeSpec := { name := "fnWldBent", fn := fun _ => fun
  | [d] => { results := [.lit (.bool false)], args := [d] }
  | _ => none }
def FnWldBentWrongFalsely : Prop := fnWldBentRow.holds Tryz.pinned (OpenSpec.ofChange fnWldBentWrong)

/-- 'laws.FnWldMove': WHATEVER THE INPUT: true; the input reads as it did. -/
def fnWldMoveSpec : ChangeSpec := { name := "fnWldMove", fn := fun _ => fun
  | [d] => { results := [.lit (.bool true)], args := [d] }
  | _ => none }
def fnWldMoveRow : OpenClaim := { program := "ytllafcmkppmdgaagreat", sum := "a0fb46cdb178bffdc175632511fcc108aac87ad1494cc06897b03d0a582726db", func := "loop.example/linkboy/laws.FnWldMove", spec := "fnWldMove", unfollowed := true, recurses := true, apart := false }
def FnWldMoveSaid : Prop := fnWldMoveRow.holds Tryz.pinned (OpenSpec.ofChange fnWldMoveSpec)

/-- ITS FALSE NEIGHBOUR: 'it returns false'. Refute it at one input. -/
def fnWldMoveWrong : ChangeSpec := { name := "fnWldMove", fn := fun _ => fun
  | [d] => { results := [.lit (.bool false)], args := [d] }
  | _ => none }
def FnWldMoveWrongFalsely : Prop := fnWldMoveRow.holds Tryz.pinned (OpenSpec.ofChange fnWldMoveWrong)

/- THE SECOND FORM. 'bulk': how many values and letters a reading holds, each counted each time it is reached (what is shared counts as often as it is met; a slice's spare places count too). A statement '..UptoSaid' is the law's where the arguments, and the package variables that the reading takes, are together of bulk at most 1048576: NARROWER than '..Said'. Prove '..Said' where nothing that the law and all that it calls make is longer than what came in: it says more and counts as full. Else prove '..UptoSaid'. A law counts once. -/
mutual
def uptoBulk {H : Type} : DataW H → Nat
  | .lit (.string bytes) => bytes.length + 1
  | .lit _ => 1
  | .nil => 1
  | .ptr d => uptoBulk d + 1
  | .slice elems spare => uptoBulkAll elems + uptoBulkAll spare + 1
  | .agg parts => uptoBulkAll parts + 1
  | .iface _ d => uptoBulk d + 1
  | .map entries => uptoBulkEntries entries + 1
  | .held _ => 1
def uptoBulkAll {H : Type} : List (DataW H) → Nat
  | [] => 0
  | d :: r => uptoBulk d + uptoBulkAll r
def uptoBulkEntries {H : Type} : List (Lit × DataW H) → Nat
  | [] => 0
  | x :: r => uptoBulkEntry x + uptoBulkEntries r
def uptoBulkEntry {H : Type} : Lit × DataW H → Nat
  | (.string bytes, d) => bytes.length + uptoBulk d + 1
  | (_, d) => uptoBulk d + 1
 end
def uptoSmall : (H : Type) → List (DataW H) → Bool := fun _ ds => decide (uptoBulkAll ds ≤ 1048576)
def OpenSpec.upto (s : _root_.Go.ChangeSpec) : _root_.Go.OpenSpec := { _root_.Go.OpenSpec.ofChange s with cond := some uptoSmall }

/-- 'laws.FnCrdMost', WHERE WHAT IT READS IS OF BULK AT MOST 1048576: true; the input reads as it did. -/
def fnCrdMostUptoRow : OpenClaim := { program := "ytllafcmkppmdgaagreat", sum := "a0fb46cdb178bffdc175632511fcc108aac87ad1494cc06897b03d0a582726db", func := "loop.example/linkboy/laws.FnCrdMost", spec := "fnCrdMost", unfollowed := true, recurses := true, apart := false, narrowed := true }
def FnCrdMostUptoSaid : Prop := fnCrdMostUptoRow.holds Tryz.pinned (OpenSpec.upto fnCrdMostSpec)

/-- 'laws.FnNumTries', WHERE WHAT IT READS IS OF BULK AT MOST 1048576: true; the input reads as it did. -/
def fnNumTriesUptoRow : OpenClaim := { program := "ytllafcmkppmdgaagreat", sum := "a0fb46cdb178bffdc175632511fcc108aac87ad1494cc06897b03d0a582726db", func := "loop.example/linkboy/laws.FnNumTries", spec := "fnNumTries", unfollowed := true, recurses := true, apart := false, narrowed := true }
def FnNumTriesUptoSaid : Prop := fnNumTriesUptoRow.holds Tryz.pinned (OpenSpec.upto fnNumTriesSpec)

/-- 'laws.FnWldRoom', WHERE WHAT IT READS IS OF BULK AT MOST 1048576: true; the input reads as it did. -/
def fnWldRoomUptoRow : OpenClaim := { program := "ytllafcmkppmdgaagreat", sum := "a0fb46cdb178bffdc175632511fcc108aac87ad1494cc06897b03d0a582726db", func := "loop.example/linkboy/laws.FnWldRoom", spec := "fnWldRoom", unfollowed := true, recurses := true, apart := false, narrowed := true }
def FnWldRoomUptoSaid : Prop := fnWldRoomUptoRow.holds Tryz.pinned (OpenSpec.upto fnWldRoomSpec)

/-- 'laws.FnNumLong', WHERE WHAT IT READS IS OF BULK AT MOST 1048576: true; the input reads as it did. -/
def fnNumLongUptoRow : OpenClaim := { program := "ytllafcmkppmdgaagreat", sum := "a0fb46cdb178bffdc175632511fcc108aac87ad1494cc06897b03d0a582726db", func := "loop.example/linkboy/laws.FnNumLong", spec := "fnNumLong", unfollowed := true, recurses := true, apart := false, narrowed := true }
def FnNumLongUptoSaid : Prop := fnNumLongUptoRow.holds Tryz.pinned (OpenSpec.upto fnNumLongSpec)

/-- 'laws.FnWldGrows', WHERE WHAT IT READS IS OF BULK AT MOST 1048576: true; the input reads as it did. -/
def fnWldGrowsUptoRow : OpenClaim := { program := "ytllafcmkppmdgaagreat", sum := "a0fb46cdb178bffdc175632511fcc108aac87ad1494cc06897b03d0a582726db", func := "loop.example/linkboy/laws.FnWldGrows", spec := "fnWldGrows", unfollowed := true, recurses := true, apart := false, narrowed := true }
def FnWldGrowsUptoSaid : Prop := fnWldGrowsUptoRow.holds Tryz.pinned (OpenSpec.upto fnWldGrowsSpec)

/-- 'laws.FnWldEnd', WHERE WHAT IT READS IS OF BULK AT MOST 1048576: true; the input reads as it did. -/
def fnWldEndUptoRow : OpenClaim := { program := "ytllafcmkppmdgaagreat", sum := "a0fb46cdb178bffdc175632511fcc108aac87ad1494cc06897b03d0a582726db", func := "loop.example/linkboy/laws.FnWldEnd", spec := "fnWldEnd", unfollowed := true, recurses := true, apart := false, narrowed := true }
def FnWldEndUptoSaid : Prop := fnWldEndUptoRow.holds Tryz.pinned (OpenSpec.upto fnWldEndSpec)

/-- 'laws.FnWldMode', WHERE WHAT IT READS IS OF BULK AT MOST 1048576: true; the input reads as it did. -/
def fnWldModeUptoRow : OpenClaim := { program := "ytllafcmkppmdgaagreat", sum := "a0fb46cdb178bffdc175632511fcc108aac87ad1494cc06897b03d0a582726db", func := "loop.example/linkboy/laws.FnWldMode", spec := "fnWldMode", unfollowed := true, recurses := true, apart := false, narrowed := true }
def FnWldModeUptoSaid : Prop := fnWldModeUptoRow.holds Tryz.pinned (OpenSpec.upto fnWldModeSpec)

/-- 'laws.FnWldApart', WHERE WHAT IT READS IS OF BULK AT MOST 1048576: true; the input reads as it did. -/
def fnWldApartUptoRow : OpenClaim := { program := "ytllafcmkppmdgaagreat", sum := "a0fb46cdb178bffdc175632511fcc108aac87ad1494cc06897b03d0a582726db", func := "loop.example/linkboy/laws.FnWldApart", spec := "fnWldApart", unfollowed := true, recurses := true, apart := false, narrowed := true }
def FnWldApartUptoSaid : Prop := fnWldApartUptoRow.holds Tryz.pinned (OpenSpec.upto fnWldApartSpec)

/-- 'laws.FnWldLose', WHERE WHAT IT READS IS OF BULK AT MOST 1048576: true; the input reads as it did. -/
def fnWldLoseUptoRow : OpenClaim := { program := "ytllafcmkppmdgaagreat", sum := "a0fb46cdb178bffdc175632511fcc108aac87ad1494cc06897b03d0a582726db", func := "loop.example/linkboy/laws.FnWldLose", spec := "fnWldLose", unfollowed := true, recurses := true, apart := false, narrowed := true }
def FnWldLoseUptoSaid : Prop := fnWldLoseUptoRow.holds Tryz.pinned (OpenSpec.upto fnWldLoseSpec)

/-- 'laws.FnWldNoise', WHERE WHAT IT READS IS OF BULK AT MOST 1048576: true; the input reads as it did. -/
def fnWldNoiseUptoRow : OpenClaim := { program := "ytllafcmkppmdgaagreat", sum := "a0fb46cdb178bffdc175632511fcc108aac87ad1494cc06897b03d0a582726db", func := "loop.example/linkboy/laws.FnWldNoise", spec := "fnWldNoise", unfollowed := true, recurses := true, apart := false, narrowed := true }
def FnWldNoiseUptoSaid : Prop := fnWldNoiseUptoRow.holds Tryz.pinned (OpenSpec.upto fnWldNoiseSpec)

/-- 'laws.FnWldBent', WHERE WHAT IT READS IS OF BULK AT MOST 1048576: true; the input reads as it did. -/
def fnWldBentUptoRow : OpenClaim := { program := "ytllafcmkppmdgaagreat", sum := "a0fb46cdb178bffdc175632511fcc108aac87ad1494cc06897b03d0a582726db", func := "loop.example/linkboy/laws.FnWldBent", spec := "fnWldBent", unfollowed := true, recurses := true, apart := false, narrowed := true }
def FnWldBentUptoSaid : Prop := fnWldBentUptoRow.holds Tryz.pinned (OpenSpec.upto fnWldBentSpec)

/-- 'laws.FnWldMove', WHERE WHAT IT READS IS OF BULK AT MOST 1048576: true; the input reads as it did. -/
def fnWldMoveUptoRow : OpenClaim := { program := "ytllafcmkppmdgaagreat", sum := "a0fb46cdb178bffdc175632511fcc108aac87ad1494cc06897b03d0a582726db", func := "loop.example/linkboy/laws.FnWldMove", spec := "fnWldMove", unfollowed := true, recurses := true, apart := false, narrowed := true }
def FnWldMoveUptoSaid : Prop := fnWldMoveUptoRow.holds Tryz.pinned (OpenSpec.upto fnWldMoveSpec)

end Rows
end Go.Proofs.YtllafcmkppmdgaaGreat
