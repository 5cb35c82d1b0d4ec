/-
  No cell of these rows narrows 'for every input' (looked for: loops, veiled, ifaces, maps, wideKeys, modest, calm, conditions, laid).
  DERIVED. THE GIVEN ROWS OF THIS SEAT. 2 by the template 'for every input the law returns true; each argument reads behind the call as it read before'; 0 by the template 'total and deterministic' (their statements: YtogobjmmgjfjjaaTotals.lean).
  GIVEN WITH THE SEED: the statements are not yours to turn. If you find one false, say at which input.
  Laid BY PROGRAM, IN A SANDBOX (cutbox-rows.mjs): the forced cells as the released guide's own fill.sh prints them over the translation a604c382f6a91780… (all of the seat's roots in one cut). By AI agents, Wed Nov 11 2026. No macro, syntax, notation, axiom, sorry.
-/
import Derived.Test.YtogobjmmgjfjjaaChecked
import GoSem.Claim
import GoSem.ClaimJoined
import GoSem.ClaimMapViews
import Derived.JoinedTies
import Derived.KernelRfl
namespace Go.Proofs.Ytogobjmmgjfjjaa
/- THE CELL 'sum', in the pinned program and in every row, IS THE sha256 OF THE DUMP (.gsa) THAT YtogobjmmgjfjjaaProg.lean LOADS. Nothing in Lean hashes anything: it is a label: what it is worth is what the hold of that sum in a sandbox is worth. -/
noncomputable def Try.pinned : Pinned := { name := "ytogobjmmgjfjjaa", sum := "a604c382f6a917805db95b2c57849b2cd15f4dee0def9e657d52577c3e828d16", checked := Try.checked }
namespace Rows
def none {H : Type} : Left H := { results := [], args := [] }

/-- 'ullagelaw07.EngineLosses': WHATEVER THE INPUT: true; the input reads as it did. -/
def engineLossesSpec : ChangeSpec := { name := "engineLosses", fn := fun _ => fun
  | [d1, d2] => { results := [.lit (.bool true)], args := [d1, d2] }
  | _ => none }
def engineLossesRow : OpenClaim := { program := "ytogobjmmgjfjjaa", sum := "a604c382f6a917805db95b2c57849b2cd15f4dee0def9e657d52577c3e828d16", func := "ullage/ullagelaw07.EngineLosses", spec := "engineLosses", unfollowed := true, recurses := true, plainKeys := false, apart := false }
def EngineLossesSaid : Prop := engineLossesRow.holds Try.pinned (OpenSpec.ofChange engineLossesSpec)

/-- ITS FALSE NEIGHBOUR: 'it returns false'. Refute it at one input. -/
def engineLossesWrong : ChangeSpec := { name := "engineLosses", fn := fun _ => fun
  | [d1, d2] => { results := [.lit (.bool false)], args := [d1, d2] }
  | _ => none }
def EngineLossesWrongFalsely : Prop := engineLossesRow.holds Try.pinned (OpenSpec.ofChange engineLossesWrong)

/-- 'ullagelaw07.EngineLeads': WHATEVER THE INPUT: true; the input reads as it did. -/
def engineLeadsSpec : ChangeSpec := { name := "engineLeads", fn := fun _ => fun
  | [d1, d2, d3] => { results := [.lit (.bool true)], args := [d1, d2, d3] }
  | _ => none }
def engineLeadsRow : OpenClaim := { program := "ytogobjmmgjfjjaa", sum := "a604c382f6a917805db95b2c57849b2cd15f4dee0def9e657d52577c3e828d16", func := "ullage/ullagelaw07.EngineLeads", spec := "engineLeads", unfollowed := true, recurses := true, plainKeys := false, apart := false }
def EngineLeadsSaid : Prop := engineLeadsRow.holds Try.pinned (OpenSpec.ofChange engineLeadsSpec)

/-- ITS FALSE NEIGHBOUR: 'it returns false'. Refute it at one input. -/
def engineLeadsWrong : ChangeSpec := { name := "engineLeads", fn := fun _ => fun
  | [d1, d2, d3] => { results := [.lit (.bool false)], args := [d1, d2, d3] }
  | _ => none }
def EngineLeadsWrongFalsely : Prop := engineLeadsRow.holds Try.pinned (OpenSpec.ofChange engineLeadsWrong)

/- THE SECOND FORM. 'bulk': how many values and letters a reading holds, each counted each time it is reached (what is shared counts as often as it is met; a slice's spare places count too). A statement '..UptoSaid' is the law's where the arguments, and the package variables that the reading takes, are together of bulk at most 1048576: NARROWER than '..Said'. Prove '..Said' where nothing that the law and all that it calls make is longer than what came in: it says more and counts as full. Else prove '..UptoSaid'. A law counts once. -/
mutual
def uptoBulk {H : Type} : DataW H → Nat
  | .lit (.string bytes) => bytes.length + 1
  | .lit _ => 1
  | .nil => 1
  | .ptr d => uptoBulk d + 1
  | .slice elems spare => uptoBulkAll elems + uptoBulkAll spare + 1
  | .agg parts => uptoBulkAll parts + 1
  | .iface _ d => uptoBulk d + 1
  | .map entries => uptoBulkEntries entries + 1
  | .held _ => 1
def uptoBulkAll {H : Type} : List (DataW H) → Nat
  | [] => 0
  | d :: r => uptoBulk d + uptoBulkAll r
def uptoBulkEntries {H : Type} : List (Lit × DataW H) → Nat
  | [] => 0
  | x :: r => uptoBulkEntry x + uptoBulkEntries r
def uptoBulkEntry {H : Type} : Lit × DataW H → Nat
  | (.string bytes, d) => bytes.length + uptoBulk d + 1
  | (_, d) => uptoBulk d + 1
 end
def uptoSmall : (H : Type) → List (DataW H) → Bool := fun _ ds => decide (uptoBulkAll ds ≤ 1048576)
def OpenSpec.upto (s : _root_.Go.ChangeSpec) : _root_.Go.OpenSpec := { _root_.Go.OpenSpec.ofChange s with cond := some uptoSmall }

/-- 'ullagelaw07.EngineLosses', WHERE WHAT IT READS IS OF BULK AT MOST 1048576: true; the input reads as it did. -/
def engineLossesUptoRow : OpenClaim := { program := "ytogobjmmgjfjjaa", sum := "a604c382f6a917805db95b2c57849b2cd15f4dee0def9e657d52577c3e828d16", func := "ullage/ullagelaw07.EngineLosses", spec := "engineLosses", unfollowed := true, recurses := true, plainKeys := false, apart := false, narrowed := true }
def EngineLossesUptoSaid : Prop := engineLossesUptoRow.holds Try.pinned (OpenSpec.upto engineLossesSpec)

/-- 'ullagelaw07.EngineLeads', WHERE WHAT IT READS IS OF BULK AT MOST 1048576: true; the input reads as it did. -/
def engineLeadsUptoRow : OpenClaim := { program := "ytogobjmmgjfjjaa", sum := "a604c382f6a917805db95b2c57849b2cd15f4dee0def9e657d52577c3e828d16", func := "ullage/ullagelaw07.EngineLeads", spec := "engineLeads", unfollowed := true, recurses := true, plainKeys := false, apart := false, narrowed := true }
def EngineLeadsUptoSaid : Prop := engineLeadsUptoRow.holds Try.pinned (OpenSpec.upto engineLeadsSpec)

end Rows
end Go.Proofs.Ytogobjmmgjfjjaa
