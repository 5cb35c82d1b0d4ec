/-
  No cell of these rows narrows 'for every input' (looked for: loops, veiled, ifaces, maps, wideKeys, modest, calm, conditions, laid).
  DERIVED. THE GIVEN ROWS OF THIS SEAT. 10 by the template 'for every input the law returns true; each argument reads behind the call as it read before'; 0 by the template 'total and deterministic' (their statements: YtogobjmmgjfjjaaGreatTotals.lean).
  GIVEN WITH THE SEED: the statements are not yours to turn. If you find one false, say at which input.
  Laid BY PROGRAM, IN A SANDBOX (cutbox-rows.mjs): the forced cells as the released guide's own fill.sh prints them over the translation 08564b679ff9e04a… (all of the seat's roots in one cut). By AI agents, Wed Nov 11 2026. No macro, syntax, notation, axiom, sorry.
-/
import Derived.Test.YtogobjmmgjfjjaaGreatChecked
import GoSem.Claim
import GoSem.ClaimJoined
import GoSem.ClaimMapViews
import Derived.JoinedTies
import Derived.KernelRfl
namespace Go.Proofs.YtogobjmmgjfjjaaGreat
/- THE CELL 'sum', in the pinned program and in every row, IS THE sha256 OF THE DUMP (.gsa) THAT YtogobjmmgjfjjaaGreatProg.lean LOADS. Nothing in Lean hashes anything: it is a label: what it is worth is what the hold of that sum in a sandbox is worth. -/
noncomputable def Tryz.pinned : Pinned := { name := "ytogobjmmgjfjjaagreat", sum := "08564b679ff9e04ab5558f3a25ce2a6d08f2bdbffde666d0e5d50eb90f5e4388", checked := Tryz.checked }
namespace Rows
def none {H : Type} : Left H := { results := [], args := [] }

/-- 'ullagelaw07.EnginePaths': WHATEVER THE INPUT: true; the input reads as it did. -/
def enginePathsSpec : ChangeSpec := { name := "enginePaths", fn := fun _ => fun
  | [d1, d2] => { results := [.lit (.bool true)], args := [d1, d2] }
  | _ => none }
def enginePathsRow : OpenClaim := { program := "ytogobjmmgjfjjaagreat", sum := "08564b679ff9e04ab5558f3a25ce2a6d08f2bdbffde666d0e5d50eb90f5e4388", func := "ullage/ullagelaw07.EnginePaths", spec := "enginePaths", unfollowed := true, recurses := true, plainKeys := false, apart := false }
def EnginePathsSaid : Prop := enginePathsRow.holds Tryz.pinned (OpenSpec.ofChange enginePathsSpec)

/-- ITS FALSE NEIGHBOUR: 'it returns false'. Refute it at one input. -/
def enginePathsWrong : ChangeSpec := { name := "enginePaths", fn := fun _ => fun
  | [d1, d2] => { results := [.lit (.bool false)], args := [d1, d2] }
  | _ => none }
def EnginePathsWrongFalsely : Prop := enginePathsRow.holds Tryz.pinned (OpenSpec.ofChange enginePathsWrong)

/-- 'ullagelaw07.EngineChecks': WHATEVER THE INPUT: true; the input reads as it did. -/
def engineChecksSpec : ChangeSpec := { name := "engineChecks", fn := fun _ => fun
  | [d1, d2] => { results := [.lit (.bool true)], args := [d1, d2] }
  | _ => none }
def engineChecksRow : OpenClaim := { program := "ytogobjmmgjfjjaagreat", sum := "08564b679ff9e04ab5558f3a25ce2a6d08f2bdbffde666d0e5d50eb90f5e4388", func := "ullage/ullagelaw07.EngineChecks", spec := "engineChecks", unfollowed := true, recurses := true, plainKeys := false, apart := false }
def EngineChecksSaid : Prop := engineChecksRow.holds Tryz.pinned (OpenSpec.ofChange engineChecksSpec)

/-- ITS FALSE NEIGHBOUR: 'it returns false'. Refute it at one input. -/
def engineChecksWrong : ChangeSpec := { name := "engineChecks", fn := fun _ => fun
  | [d1, d2] => { results := [.lit (.bool false)], args := [d1, d2] }
  | _ => none }
def EngineChecksWrongFalsely : Prop := engineChecksRow.holds Tryz.pinned (OpenSpec.ofChange engineChecksWrong)

/-- 'ullagelaw07.EngineNever': WHATEVER THE INPUT: true; the input reads as it did. -/
def engineNeverSpec : ChangeSpec := { name := "engineNever", fn := fun _ => fun
  | [d1, d2, d3] => { results := [.lit (.bool true)], args := [d1, d2, d3] }
  | _ => none }
def engineNeverRow : OpenClaim := { program := "ytogobjmmgjfjjaagreat", sum := "08564b679ff9e04ab5558f3a25ce2a6d08f2bdbffde666d0e5d50eb90f5e4388", func := "ullage/ullagelaw07.EngineNever", spec := "engineNever", unfollowed := true, recurses := true, plainKeys := false, apart := false }
def EngineNeverSaid : Prop := engineNeverRow.holds Tryz.pinned (OpenSpec.ofChange engineNeverSpec)

/-- ITS FALSE NEIGHBOUR: 'it returns false'. Refute it at one input. -/
def engineNeverWrong : ChangeSpec := { name := "engineNever", fn := fun _ => fun
  | [d1, d2, d3] => { results := [.lit (.bool false)], args := [d1, d2, d3] }
  | _ => none }
def EngineNeverWrongFalsely : Prop := engineNeverRow.holds Tryz.pinned (OpenSpec.ofChange engineNeverWrong)

/-- 'ullagelaw07.EngineKeeps': WHATEVER THE INPUT: true; the input reads as it did. -/
def engineKeepsSpec : ChangeSpec := { name := "engineKeeps", fn := fun _ => fun
  | [d1, d2] => { results := [.lit (.bool true)], args := [d1, d2] }
  | _ => none }
def engineKeepsRow : OpenClaim := { program := "ytogobjmmgjfjjaagreat", sum := "08564b679ff9e04ab5558f3a25ce2a6d08f2bdbffde666d0e5d50eb90f5e4388", func := "ullage/ullagelaw07.EngineKeeps", spec := "engineKeeps", unfollowed := true, recurses := true, plainKeys := false, apart := false }
def EngineKeepsSaid : Prop := engineKeepsRow.holds Tryz.pinned (OpenSpec.ofChange engineKeepsSpec)

/-- ITS FALSE NEIGHBOUR: 'it returns false'. Refute it at one input. -/
def engineKeepsWrong : ChangeSpec := { name := "engineKeeps", fn := fun _ => fun
  | [d1, d2] => { results := [.lit (.bool false)], args := [d1, d2] }
  | _ => none }
def EngineKeepsWrongFalsely : Prop := engineKeepsRow.holds Tryz.pinned (OpenSpec.ofChange engineKeepsWrong)

/-- 'ullagelaw07.EnginePlays': WHATEVER THE INPUT: true; the input reads as it did. -/
def enginePlaysSpec : ChangeSpec := { name := "enginePlays", fn := fun _ => fun
  | [d1, d2] => { results := [.lit (.bool true)], args := [d1, d2] }
  | _ => none }
def enginePlaysRow : OpenClaim := { program := "ytogobjmmgjfjjaagreat", sum := "08564b679ff9e04ab5558f3a25ce2a6d08f2bdbffde666d0e5d50eb90f5e4388", func := "ullage/ullagelaw07.EnginePlays", spec := "enginePlays", unfollowed := true, recurses := true, plainKeys := false, apart := false }
def EnginePlaysSaid : Prop := enginePlaysRow.holds Tryz.pinned (OpenSpec.ofChange enginePlaysSpec)

/-- ITS FALSE NEIGHBOUR: 'it returns false'. Refute it at one input. -/
def enginePlaysWrong : ChangeSpec := { name := "enginePlays", fn := fun _ => fun
  | [d1, d2] => { results := [.lit (.bool false)], args := [d1, d2] }
  | _ => none }
def EnginePlaysWrongFalsely : Prop := enginePlaysRow.holds Tryz.pinned (OpenSpec.ofChange enginePlaysWrong)

/-- 'ullagelaw07.EngineOwns': WHATEVER THE INPUT: true; the input reads as it did. -/
def engineOwnsSpec : ChangeSpec := { name := "engineOwns", fn := fun _ => fun
  | [d1, d2] => { results := [.lit (.bool true)], args := [d1, d2] }
  | _ => none }
def engineOwnsRow : OpenClaim := { program := "ytogobjmmgjfjjaagreat", sum := "08564b679ff9e04ab5558f3a25ce2a6d08f2bdbffde666d0e5d50eb90f5e4388", func := "ullage/ullagelaw07.EngineOwns", spec := "engineOwns", unfollowed := true, recurses := true, plainKeys := false, apart := false }
def EngineOwnsSaid : Prop := engineOwnsRow.holds Tryz.pinned (OpenSpec.ofChange engineOwnsSpec)

/-- ITS FALSE NEIGHBOUR: 'it returns false'. Refute it at one input. -/
def engineOwnsWrong : ChangeSpec := { name := "engineOwns", fn := fun _ => fun
  | [d1, d2] => { results := [.lit (.bool false)], args := [d1, d2] }
  | _ => none }
def EngineOwnsWrongFalsely : Prop := engineOwnsRow.holds Tryz.pinned (OpenSpec.ofChange engineOwnsWrong)

/-- 'ullagelaw07.EngineEnds': WHATEVER THE INPUT: true; the input reads as it did. -/
def engineEndsSpec : ChangeSpec := { name := "engineEnds", fn := fun _ => fun
  | [d1, d2] => { results := [.lit (.bool true)], args := [d1, d2] }
  | _ => none }
def engineEndsRow : OpenClaim := { program := "ytogobjmmgjfjjaagreat", sum := "08564b679ff9e04ab5558f3a25ce2a6d08f2bdbffde666d0e5d50eb90f5e4388", func := "ullage/ullagelaw07.EngineEnds", spec := "engineEnds", unfollowed := true, recurses := true, plainKeys := false, apart := false }
def EngineEndsSaid : Prop := engineEndsRow.holds Tryz.pinned (OpenSpec.ofChange engineEndsSpec)

/-- ITS FALSE NEIGHBOUR: 'it returns false'. Refute it at one input. -/
def engineEndsWrong : ChangeSpec := { name := "engineEnds", fn := fun _ => fun
  | [d1, d2] => { results := [.lit (.bool false)], args := [d1, d2] }
  | _ => none }
def EngineEndsWrongFalsely : Prop := engineEndsRow.holds Tryz.pinned (OpenSpec.ofChange engineEndsWrong)

/-- 'ullagelaw07.EngineReds': WHATEVER THE INPUT: true; the input reads as it did. -/
def engineRedsSpec : ChangeSpec := { name := "engineReds", fn := fun _ => fun
  | [d1, d2, d3] => { results := [.lit (.bool true)], args := [d1, d2, d3] }
  | _ => none }
def engineRedsRow : OpenClaim := { program := "ytogobjmmgjfjjaagreat", sum := "08564b679ff9e04ab5558f3a25ce2a6d08f2bdbffde666d0e5d50eb90f5e4388", func := "ullage/ullagelaw07.EngineReds", spec := "engineReds", unfollowed := true, recurses := true, plainKeys := false, apart := false }
def EngineRedsSaid : Prop := engineRedsRow.holds Tryz.pinned (OpenSpec.ofChange engineRedsSpec)

/-- ITS FALSE NEIGHBOUR: 'it returns false'. Refute it at one input. -/
def engineRedsWrong : ChangeSpec := { name := "engineReds", fn := fun _ => fun
  | [d1, d2, d3] => { results := [.lit (.bool false)], args := [d1, d2, d3] }
  | _ => none }
def EngineRedsWrongFalsely : Prop := engineRedsRow.holds Tryz.pinned (OpenSpec.ofChange engineRedsWrong)

/-- 'ullagelaw07.EngineRuns': WHATEVER THE INPUT: true; the input reads as it did. -/
def engineRunsSpec : ChangeSpec := { name := "engineRuns", fn := fun _ => fun
  | [d1, d2, d3] => { results := [.lit (.bool true)], args := [d1, d2, d3] }
  | _ => none }
def engineRunsRow : OpenClaim := { program := "ytogobjmmgjfjjaagreat", sum := "08564b679ff9e04ab5558f3a25ce2a6d08f2bdbffde666d0e5d50eb90f5e4388", func := "ullage/ullagelaw07.EngineRuns", spec := "engineRuns", unfollowed := true, recurses := true, plainKeys := false, apart := false }
def EngineRunsSaid : Prop := engineRunsRow.holds Tryz.pinned (OpenSpec.ofChange engineRunsSpec)

/-- ITS FALSE NEIGHBOUR: 'it returns false'. Refute it at one input. -/
def engineRunsWrong : ChangeSpec := { name := "engineRuns", fn := fun _ => fun
  | [d1, d2, d3] => { results := [.lit (.bool false)], args := [d1, d2, d3] }
  | _ => none }
def EngineRunsWrongFalsely : Prop := engineRunsRow.holds Tryz.pinned (OpenSpec.ofChange engineRunsWrong)

/-- 'ullagelaw07.EngineNone': WHATEVER THE INPUT: true; the input reads as it did. -/
def engineNoneSpec : ChangeSpec := { name := "engineNone", fn := fun _ => fun
  | [d1, d2] => { results := [.lit (.bool true)], args := [d1, d2] }
  | _ => none }
def engineNoneRow : OpenClaim := { program := "ytogobjmmgjfjjaagreat", sum := "08564b679ff9e04ab5558f3a25ce2a6d08f2bdbffde666d0e5d50eb90f5e4388", func := "ullage/ullagelaw07.EngineNone", spec := "engineNone", unfollowed := true, recurses := true, plainKeys := false, apart := false }
def EngineNoneSaid : Prop := engineNoneRow.holds Tryz.pinned (OpenSpec.ofChange engineNoneSpec)

/-- ITS FALSE NEIGHBOUR: 'it returns false'. Refute it at one input. -/
def engineNoneWrong : ChangeSpec := { name := "engineNone", fn := fun _ => fun
  | [d1, d2] => { results := [.lit (.bool false)], args := [d1, d2] }
  | _ => none }
def EngineNoneWrongFalsely : Prop := engineNoneRow.holds Tryz.pinned (OpenSpec.ofChange engineNoneWrong)

/- THE SECOND FORM. 'bulk': how many values and letters a reading holds, each counted each time it is reached (what is shared counts as often as it is met; a slice's spare places count too). A statement '..UptoSaid' is the law's where the arguments, and the package variables that the reading takes, are together of bulk at most 1048576: NARROWER than '..Said'. Prove '..Said' where nothing that the law and all that it calls make is longer than what came in: it says more and counts as full. Else prove '..UptoSaid'. A law counts once. -/
mutual
def uptoBulk {H : Type} : DataW H → Nat
  | .lit (.string bytes) => bytes.length + 1
  | .lit _ => 1
  | .nil => 1
  | .ptr d => uptoBulk d + 1
  | .slice elems spare => uptoBulkAll elems + uptoBulkAll spare + 1
  | .agg parts => uptoBulkAll parts + 1
  | .iface _ d => uptoBulk d + 1
  | .map entries => uptoBulkEntries entries + 1
  | .held _ => 1
def uptoBulkAll {H : Type} : List (DataW H) → Nat
  | [] => 0
  | d :: r => uptoBulk d + uptoBulkAll r
def uptoBulkEntries {H : Type} : List (Lit × DataW H) → Nat
  | [] => 0
  | x :: r => uptoBulkEntry x + uptoBulkEntries r
def uptoBulkEntry {H : Type} : Lit × DataW H → Nat
  | (.string bytes, d) => bytes.length + uptoBulk d + 1
  | (_, d) => uptoBulk d + 1
 end
def uptoSmall : (H : Type) → List (DataW H) → Bool := fun _ ds => decide (uptoBulkAll ds ≤ 1048576)
def OpenSpec.upto (s : _root_.Go.ChangeSpec) : _root_.Go.OpenSpec := { _root_.Go.OpenSpec.ofChange s with cond := some uptoSmall }

/-- 'ullagelaw07.EnginePaths', WHERE WHAT IT READS IS OF BULK AT MOST 1048576: true; the input reads as it did. -/
def enginePathsUptoRow : OpenClaim := { program := "ytogobjmmgjfjjaagreat", sum := "08564b679ff9e04ab5558f3a25ce2a6d08f2bdbffde666d0e5d50eb90f5e4388", func := "ullage/ullagelaw07.EnginePaths", spec := "enginePaths", unfollowed := true, recurses := true, plainKeys := false, apart := false, narrowed := true }
def EnginePathsUptoSaid : Prop := enginePathsUptoRow.holds Tryz.pinned (OpenSpec.upto enginePathsSpec)

/-- 'ullagelaw07.EngineChecks', WHERE WHAT IT READS IS OF BULK AT MOST 1048576: true; the input reads as it did. -/
def engineChecksUptoRow : OpenClaim := { program := "ytogobjmmgjfjjaagreat", sum := "08564b679ff9e04ab5558f3a25ce2a6d08f2bdbffde666d0e5d50eb90f5e4388", func := "ullage/ullagelaw07.EngineChecks", spec := "engineChecks", unfollowed := true, recurses := true, plainKeys := false, apart := false, narrowed := true }
def EngineChecksUptoSaid : Prop := engineChecksUptoRow.holds Tryz.pinned (OpenSpec.upto engineChecksSpec)

/-- 'ullagelaw07.EngineNever', WHERE WHAT IT READS IS OF BULK AT MOST 1048576: true; the input reads as it did. -/
def engineNeverUptoRow : OpenClaim := { program := "ytogobjmmgjfjjaagreat", sum := "08564b679ff9e04ab5558f3a25ce2a6d08f2bdbffde666d0e5d50eb90f5e4388", func := "ullage/ullagelaw07.EngineNever", spec := "engineNever", unfollowed := true, recurses := true, plainKeys := false, apart := false, narrowed := true }
def EngineNeverUptoSaid : Prop := engineNeverUptoRow.holds Tryz.pinned (OpenSpec.upto engineNeverSpec)

/-- 'ullagelaw07.EngineKeeps', WHERE WHAT IT READS IS OF BULK AT MOST 1048576: true; the input reads as it did. -/
def engineKeepsUptoRow : OpenClaim := { program := "ytogobjmmgjfjjaagreat", sum := "08564b679ff9e04ab5558f3a25ce2a6d08f2bdbffde666d0e5d50eb90f5e4388", func := "ullage/ullagelaw07.EngineKeeps", spec := "engineKeeps", unfollowed := true, recurses := true, plainKeys := false, apart := false, narrowed := true }
def EngineKeepsUptoSaid : Prop := engineKeepsUptoRow.holds Tryz.pinned (OpenSpec.upto engineKeepsSpec)

/-- 'ullagelaw07.EnginePlays', WHERE WHAT IT READS IS OF BULK AT MOST 1048576: true; the input reads as it did. -/
def enginePlaysUptoRow : OpenClaim := { program := "ytogobjmmgjfjjaagreat", sum := "08564b679ff9e04ab5558f3a25ce2a6d08f2bdbffde666d0e5d50eb90f5e4388", func := "ullage/ullagelaw07.EnginePlays", spec := "enginePlays", unfollowed := true, recurses := true, plainKeys := false, apart := false, narrowed := true }
def EnginePlaysUptoSaid : Prop := enginePlaysUptoRow.holds Tryz.pinned (OpenSpec.upto enginePlaysSpec)

/-- 'ullagelaw07.EngineOwns', WHERE WHAT IT READS IS OF BULK AT MOST 1048576: true; the input reads as it did. -/
def engineOwnsUptoRow : OpenClaim := { program := "ytogobjmmgjfjjaagreat", sum := "08564b679ff9e04ab5558f3a25ce2a6d08f2bdbffde666d0e5d50eb90f5e4388", func := "ullage/ullagelaw07.EngineOwns", spec := "engineOwns", unfollowed := true, recurses := true, plainKeys := false, apart := false, narrowed := true }
def EngineOwnsUptoSaid : Prop := engineOwnsUptoRow.holds Tryz.pinned (OpenSpec.upto engineOwnsSpec)

/-- 'ullagelaw07.EngineEnds', WHERE WHAT IT READS IS OF BULK AT MOST 1048576: true; the input reads as it did. -/
def engineEndsUptoRow : OpenClaim := { program := "ytogobjmmgjfjjaagreat", sum := "08564b679ff9e04ab5558f3a25ce2a6d08f2bdbffde666d0e5d50eb90f5e4388", func := "ullage/ullagelaw07.EngineEnds", spec := "engineEnds", unfollowed := true, recurses := true, plainKeys := false, apart := false, narrowed := true }
def EngineEndsUptoSaid : Prop := engineEndsUptoRow.holds Tryz.pinned (OpenSpec.upto engineEndsSpec)

/-- 'ullagelaw07.EngineReds', WHERE WHAT IT READS IS OF BULK AT MOST 1048576: true; the input reads as it did. -/
def engineRedsUptoRow : OpenClaim := { program := "ytogobjmmgjfjjaagreat", sum := "08564b679ff9e04ab5558f3a25ce2a6d08f2bdbffde666d0e5d50eb90f5e4388", func := "ullage/ullagelaw07.EngineReds", spec := "engineReds", unfollowed := true, recurses := true, plainKeys := false, apart := false, narrowed := true }
def EngineRedsUptoSaid : Prop := engineRedsUptoRow.holds Tryz.pinned (OpenSpec.upto engineRedsSpec)

/-- 'ullagelaw07.EngineRuns', WHERE WHAT IT READS IS OF BULK AT MOST 1048576: true; the input reads as it did. -/
def engineRunsUptoRow : OpenClaim := { program := "ytogobjmmgjfjjaagreat", sum := "08564b679ff9e04ab5558f3a25ce2a6d08f2bdbffde666d0e5d50eb90f5e4388", func := "ullage/ullagelaw07.EngineRuns", spec := "engineRuns", unfollowed := true, recurses := true, plainKeys := false, apart := false, narrowed := true }
def EngineRunsUptoSaid : Prop := engineRunsUptoRow.holds Tryz.pinned (OpenSpec.upto engineRunsSpec)

/-- 'ullagelaw07.EngineNone', WHERE WHAT IT READS IS OF BULK AT MOST 1048576: true; the input reads as it did. -/
def engineNoneUptoRow : OpenClaim := { program := "ytogobjmmgjfjjaagreat", sum := "08564b679ff9e04ab5558f3a25ce2a6d08f2bdbffde666d0e5d50eb90f5e4388", func := "ullage/ullagelaw07.EngineNone", spec := "engineNone", unfollowed := true, recurses := true, plainKeys := false, apart := false, narrowed := true }
def EngineNoneUptoSaid : Prop := engineNoneUptoRow.holds Tryz.pinned (OpenSpec.upto engineNoneSpec)

end Rows
end Go.Proofs.YtogobjmmgjfjjaaGreat
