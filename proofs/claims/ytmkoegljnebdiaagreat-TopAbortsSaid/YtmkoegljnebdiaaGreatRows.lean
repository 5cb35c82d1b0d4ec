/-
  No cell of these rows narrows 'for every input' (looked for: loops, veiled, ifaces, maps, wideKeys, modest, calm, conditions, laid).
  DERIVED. THE GIVEN ROWS OF THIS SEAT. 2 by the template 'for every input the law returns true; each argument reads behind the call as it read before'; 0 by the template 'total and deterministic' (their statements: YtmkoegljnebdiaaGreatTotals.lean).
  GIVEN WITH THE SEED: the statements are not yours to turn. If you find one false, say at which input.
  Laid BY PROGRAM, IN A SANDBOX (cutbox-rows.mjs): the forced cells as the released guide's own fill.sh prints them over the translation 5d72cdc074289b90… (all of the seat's roots in one cut). By AI agents, Wed Nov 11 2026. No macro, syntax, notation, axiom, sorry.
-/
import Derived.Test.YtmkoegljnebdiaaGreatChecked
import GoSem.Claim
import GoSem.ClaimJoined
import GoSem.ClaimMapViews
import Derived.JoinedTies
import Derived.KernelRfl
namespace Go.Proofs.YtmkoegljnebdiaaGreat
/- THE CELL 'sum', in the pinned program and in every row, IS THE sha256 OF THE DUMP (.gsa) THAT YtmkoegljnebdiaaGreatProg.lean LOADS. Nothing in Lean hashes anything: it is a label: what it is worth is what the hold of that sum in a sandbox is worth. -/
noncomputable def Tryz.pinned : Pinned := { name := "ytmkoegljnebdiaagreat", sum := "5d72cdc074289b9062cbd1404e3410983a493b85eaba1304cc02ae29e5d171be", checked := Tryz.checked }
namespace Rows
def none {H : Type} : Left H := { results := [], args := [] }

/-- 'ullagetop.TopLands': WHATEVER THE INPUT: true; the input reads as it did. -/
def topLandsSpec : ChangeSpec := { name := "topLands", fn := fun _ => fun
  | [d1, d2] => { results := [.lit (.bool true)], args := [d1, d2] }
  | _ => none }
def topLandsRow : OpenClaim := { program := "ytmkoegljnebdiaagreat", sum := "5d72cdc074289b9062cbd1404e3410983a493b85eaba1304cc02ae29e5d171be", func := "ullage/ullagetop.TopLands", spec := "topLands", inPlace := ["math/bits.Add64", "math/bits.Sub64"], unfollowed := true, recurses := true, named := ["math/bits.divideError", "math/bits.overflowError"], plainKeys := false, apart := false }
def TopLandsSaid : Prop := topLandsRow.holds Tryz.pinned (OpenSpec.ofChange topLandsSpec)

/-- ITS FALSE NEIGHBOUR: 'it returns false'. Refute it at one input. -/
def topLandsWrong : ChangeSpec := { name := "topLands", fn := fun _ => fun
  | [d1, d2] => { results := [.lit (.bool false)], args := [d1, d2] }
  | _ => none }
def TopLandsWrongFalsely : Prop := topLandsRow.holds Tryz.pinned (OpenSpec.ofChange topLandsWrong)

/-- 'ullagetop.TopAborts': WHATEVER THE INPUT: true; the input reads as it did. -/
def topAbortsSpec : ChangeSpec := { name := "topAborts", fn := fun _ => fun
  | [d1, d2, d3] => { results := [.lit (.bool true)], args := [d1, d2, d3] }
  | _ => none }
def topAbortsRow : OpenClaim := { program := "ytmkoegljnebdiaagreat", sum := "5d72cdc074289b9062cbd1404e3410983a493b85eaba1304cc02ae29e5d171be", func := "ullage/ullagetop.TopAborts", spec := "topAborts", inPlace := ["math/bits.Add64", "math/bits.Sub64"], unfollowed := true, recurses := true, named := ["math/bits.divideError", "math/bits.overflowError"], plainKeys := false, apart := false }
def TopAbortsSaid : Prop := topAbortsRow.holds Tryz.pinned (OpenSpec.ofChange topAbortsSpec)

/-- ITS FALSE NEIGHBOUR: 'it returns false'. Refute it at one input. -/
def topAbortsWrong : ChangeSpec := { name := "topAborts", fn := fun _ => fun
  | [d1, d2, d3] => { results := [.lit (.bool false)], args := [d1, d2, d3] }
  | _ => none }
def TopAbortsWrongFalsely : Prop := topAbortsRow.holds Tryz.pinned (OpenSpec.ofChange topAbortsWrong)

/- THE SECOND FORM. 'bulk': how many values and letters a reading holds, each counted each time it is reached (what is shared counts as often as it is met; a slice's spare places count too). A statement '..UptoSaid' is the law's where the arguments, and the package variables that the reading takes, are together of bulk at most 1048576: NARROWER than '..Said'. Prove '..Said' where nothing that the law and all that it calls make is longer than what came in: it says more and counts as full. Else prove '..UptoSaid'. A law counts once. -/
mutual
def uptoBulk {H : Type} : DataW H → Nat
  | .lit (.string bytes) => bytes.length + 1
  | .lit _ => 1
  | .nil => 1
  | .ptr d => uptoBulk d + 1
  | .slice elems spare => uptoBulkAll elems + uptoBulkAll spare + 1
  | .agg parts => uptoBulkAll parts + 1
  | .iface _ d => uptoBulk d + 1
  | .map entries => uptoBulkEntries entries + 1
  | .held _ => 1
def uptoBulkAll {H : Type} : List (DataW H) → Nat
  | [] => 0
  | d :: r => uptoBulk d + uptoBulkAll r
def uptoBulkEntries {H : Type} : List (Lit × DataW H) → Nat
  | [] => 0
  | x :: r => uptoBulkEntry x + uptoBulkEntries r
def uptoBulkEntry {H : Type} : Lit × DataW H → Nat
  | (.string bytes, d) => bytes.length + uptoBulk d + 1
  | (_, d) => uptoBulk d + 1
 end
def uptoSmall : (H : Type) → List (DataW H) → Bool := fun _ ds => decide (uptoBulkAll ds ≤ 1048576)
def OpenSpec.upto (s : _root_.Go.ChangeSpec) : _root_.Go.OpenSpec := { _root_.Go.OpenSpec.ofChange s with cond := some uptoSmall }

/-- 'ullagetop.TopLands', WHERE WHAT IT READS IS OF BULK AT MOST 1048576: true; the input reads as it did. -/
def topLandsUptoRow : OpenClaim := { program := "ytmkoegljnebdiaagreat", sum := "5d72cdc074289b9062cbd1404e3410983a493b85eaba1304cc02ae29e5d171be", func := "ullage/ullagetop.TopLands", spec := "topLands", inPlace := ["math/bits.Add64", "math/bits.Sub64"], unfollowed := true, recurses := true, named := ["math/bits.divideError", "math/bits.overflowError"], plainKeys := false, apart := false, narrowed := true }
def TopLandsUptoSaid : Prop := topLandsUptoRow.holds Tryz.pinned (OpenSpec.upto topLandsSpec)

/-- 'ullagetop.TopAborts', WHERE WHAT IT READS IS OF BULK AT MOST 1048576: true; the input reads as it did. -/
def topAbortsUptoRow : OpenClaim := { program := "ytmkoegljnebdiaagreat", sum := "5d72cdc074289b9062cbd1404e3410983a493b85eaba1304cc02ae29e5d171be", func := "ullage/ullagetop.TopAborts", spec := "topAborts", inPlace := ["math/bits.Add64", "math/bits.Sub64"], unfollowed := true, recurses := true, named := ["math/bits.divideError", "math/bits.overflowError"], plainKeys := false, apart := false, narrowed := true }
def TopAbortsUptoSaid : Prop := topAbortsUptoRow.holds Tryz.pinned (OpenSpec.upto topAbortsSpec)

end Rows
end Go.Proofs.YtmkoegljnebdiaaGreat
