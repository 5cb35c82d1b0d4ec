/-
  No cell of these rows narrows 'for every input' (looked for: loops, veiled, ifaces, maps, wideKeys, modest, calm, conditions, laid).
  DERIVED. THE GIVEN ROWS OF THIS SEAT. 10 by the template 'for every input the law returns true; each argument reads behind the call as it read before'; 0 by the template 'total and deterministic' (their statements: YtcnjenlojnognaaGreatTotals.lean).
  GIVEN WITH THE SEED: the statements are not yours to turn. If you find one false, say at which input.
  Laid BY PROGRAM, IN A SANDBOX (cutbox-rows.mjs): the forced cells as the released guide's own fill.sh prints them over the translation 5afda693faaf83a1… (all of the seat's roots in one cut). By AI agents, Wed Nov 11 2026. No macro, syntax, notation, axiom, sorry.
-/
import Derived.Test.YtcnjenlojnognaaGreatChecked
import GoSem.Claim
import GoSem.ClaimJoined
import GoSem.ClaimMapViews
import Derived.JoinedTies
import Derived.KernelRfl
namespace Go.Proofs.YtcnjenlojnognaaGreat
/- THE CELL 'sum', in the pinned program and in every row, IS THE sha256 OF THE DUMP (.gsa) THAT YtcnjenlojnognaaGreatProg.lean LOADS. Nothing in Lean hashes anything: it is a label: what it is worth is what the hold of that sum in a sandbox is worth. -/
noncomputable def Tryz.pinned : Pinned := { name := "ytcnjenlojnognaagreat", sum := "5afda693faaf83a167a484fd2b8d3f5a388f0e6fb3d5b8ab5799ff8f2e2a94e6", checked := Tryz.checked }
namespace Rows
def none {H : Type} : Left H := { results := [], args := [] }

/-- 'ullagelaw12.CampaignChecks': WHATEVER THE INPUT: true; the input reads as it did. -/
def campaignChecksSpec : ChangeSpec := { name := "campaignChecks", fn := fun _ => fun
  | [d1, d2] => { results := [.lit (.bool true)], args := [d1, d2] }
  | _ => none }
def campaignChecksRow : OpenClaim := { program := "ytcnjenlojnognaagreat", sum := "5afda693faaf83a167a484fd2b8d3f5a388f0e6fb3d5b8ab5799ff8f2e2a94e6", func := "ullage/ullagelaw12.CampaignChecks", spec := "campaignChecks", unfollowed := true, recurses := true, apart := false }
def CampaignChecksSaid : Prop := campaignChecksRow.holds Tryz.pinned (OpenSpec.ofChange campaignChecksSpec)

/-- ITS FALSE NEIGHBOUR: 'it returns false'. Refute it at one input. -/
def campaignChecksWrong : ChangeSpec := { name := "campaignChecks", fn := fun _ => fun
  | [d1, d2] => { results := [.lit (.bool false)], args := [d1, d2] }
  | _ => none }
def CampaignChecksWrongFalsely : Prop := campaignChecksRow.holds Tryz.pinned (OpenSpec.ofChange campaignChecksWrong)

/-- 'ullagelaw12.CampaignWorths': WHATEVER THE INPUT: true; the input reads as it did. -/
def campaignWorthsSpec : ChangeSpec := { name := "campaignWorths", fn := fun _ => fun
  | [d1, d2, d3] => { results := [.lit (.bool true)], args := [d1, d2, d3] }
  | _ => none }
def campaignWorthsRow : OpenClaim := { program := "ytcnjenlojnognaagreat", sum := "5afda693faaf83a167a484fd2b8d3f5a388f0e6fb3d5b8ab5799ff8f2e2a94e6", func := "ullage/ullagelaw12.CampaignWorths", spec := "campaignWorths", unfollowed := true, recurses := true, apart := false }
def CampaignWorthsSaid : Prop := campaignWorthsRow.holds Tryz.pinned (OpenSpec.ofChange campaignWorthsSpec)

/-- ITS FALSE NEIGHBOUR: 'it returns false'. Refute it at one input. -/
def campaignWorthsWrong : ChangeSpec := { name := "campaignWorths", fn := fun _ => fun
  | [d1, d2, d3] => { results := [.lit (.bool false)], args := [d1, d2, d3] }
  | _ => none }
def CampaignWorthsWrongFalsely : Prop := campaignWorthsRow.holds Tryz.pinned (OpenSpec.ofChange campaignWorthsWrong)

/-- 'ullagelaw12.CampaignBests': WHATEVER THE INPUT: true; the input reads as it did. -/
def campaignBestsSpec : ChangeSpec := { name := "campaignBests", fn := fun _ => fun
  | [d] => { results := [.lit (.bool true)], args := [d] }
  | _ => none }
def campaignBestsRow : OpenClaim := { program := "ytcnjenlojnognaagreat", sum := "5afda693faaf83a167a484fd2b8d3f5a388f0e6fb3d5b8ab5799ff8f2e2a94e6", func := "ullage/ullagelaw12.CampaignBests", spec := "campaignBests", unfollowed := true, recurses := true, apart := false }
def CampaignBestsSaid : Prop := campaignBestsRow.holds Tryz.pinned (OpenSpec.ofChange campaignBestsSpec)

/-- ITS FALSE NEIGHBOUR: 'it returns false'. Refute it at one input. -/
def campaignBestsWrong : ChangeSpec := { name := "campaignBests", fn := fun _ => fun
  | [d] => { results := [.lit (.bool false)], args := [d] }
  | _ => none }
def CampaignBestsWrongFalsely : Prop := campaignBestsRow.holds Tryz.pinned (OpenSpec.ofChange campaignBestsWrong)

/-- 'ullagelaw12.CampaignBeats': WHATEVER THE INPUT: true; the input reads as it did. -/
def campaignBeatsSpec : ChangeSpec := { name := "campaignBeats", fn := fun _ => fun
  | [d1, d2] => { results := [.lit (.bool true)], args := [d1, d2] }
  | _ => none }
def campaignBeatsRow : OpenClaim := { program := "ytcnjenlojnognaagreat", sum := "5afda693faaf83a167a484fd2b8d3f5a388f0e6fb3d5b8ab5799ff8f2e2a94e6", func := "ullage/ullagelaw12.CampaignBeats", spec := "campaignBeats", unfollowed := true, recurses := true, apart := false }
def CampaignBeatsSaid : Prop := campaignBeatsRow.holds Tryz.pinned (OpenSpec.ofChange campaignBeatsSpec)

/-- ITS FALSE NEIGHBOUR: 'it returns false'. Refute it at one input. -/
def campaignBeatsWrong : ChangeSpec := { name := "campaignBeats", fn := fun _ => fun
  | [d1, d2] => { results := [.lit (.bool false)], args := [d1, d2] }
  | _ => none }
def CampaignBeatsWrongFalsely : Prop := campaignBeatsRow.holds Tryz.pinned (OpenSpec.ofChange campaignBeatsWrong)

/-- 'ullagelaw12.CampaignGrows': WHATEVER THE INPUT: true; the input reads as it did. -/
def campaignGrowsSpec : ChangeSpec := { name := "campaignGrows", fn := fun _ => fun
  | [d1, d2] => { results := [.lit (.bool true)], args := [d1, d2] }
  | _ => none }
def campaignGrowsRow : OpenClaim := { program := "ytcnjenlojnognaagreat", sum := "5afda693faaf83a167a484fd2b8d3f5a388f0e6fb3d5b8ab5799ff8f2e2a94e6", func := "ullage/ullagelaw12.CampaignGrows", spec := "campaignGrows", unfollowed := true, recurses := true, apart := false }
def CampaignGrowsSaid : Prop := campaignGrowsRow.holds Tryz.pinned (OpenSpec.ofChange campaignGrowsSpec)

/-- ITS FALSE NEIGHBOUR: 'it returns false'. Refute it at one input. -/
def campaignGrowsWrong : ChangeSpec := { name := "campaignGrows", fn := fun _ => fun
  | [d1, d2] => { results := [.lit (.bool false)], args := [d1, d2] }
  | _ => none }
def CampaignGrowsWrongFalsely : Prop := campaignGrowsRow.holds Tryz.pinned (OpenSpec.ofChange campaignGrowsWrong)

/-- 'ullagelaw12.CampaignConflicts': WHATEVER THE INPUT: true; the input reads as it did. -/
def campaignConflictsSpec : ChangeSpec := { name := "campaignConflicts", fn := fun _ => fun
  | [d] => { results := [.lit (.bool true)], args := [d] }
  | _ => none }
def campaignConflictsRow : OpenClaim := { program := "ytcnjenlojnognaagreat", sum := "5afda693faaf83a167a484fd2b8d3f5a388f0e6fb3d5b8ab5799ff8f2e2a94e6", func := "ullage/ullagelaw12.CampaignConflicts", spec := "campaignConflicts", unfollowed := true, recurses := true, apart := false }
def CampaignConflictsSaid : Prop := campaignConflictsRow.holds Tryz.pinned (OpenSpec.ofChange campaignConflictsSpec)

/-- ITS FALSE NEIGHBOUR: 'it returns false'. Refute it at one input. -/
def campaignConflictsWrong : ChangeSpec := { name := "campaignConflicts", fn := fun _ => fun
  | [d] => { results := [.lit (.bool false)], args := [d] }
  | _ => none }
def CampaignConflictsWrongFalsely : Prop := campaignConflictsRow.holds Tryz.pinned (OpenSpec.ofChange campaignConflictsWrong)

/-- 'ullagelaw12.CampaignLeast': WHATEVER THE INPUT: true; the input reads as it did. -/
def campaignLeastSpec : ChangeSpec := { name := "campaignLeast", fn := fun _ => fun
  | [d1, d2] => { results := [.lit (.bool true)], args := [d1, d2] }
  | _ => none }
def campaignLeastRow : OpenClaim := { program := "ytcnjenlojnognaagreat", sum := "5afda693faaf83a167a484fd2b8d3f5a388f0e6fb3d5b8ab5799ff8f2e2a94e6", func := "ullage/ullagelaw12.CampaignLeast", spec := "campaignLeast", unfollowed := true, recurses := true, apart := false }
def CampaignLeastSaid : Prop := campaignLeastRow.holds Tryz.pinned (OpenSpec.ofChange campaignLeastSpec)

/-- ITS FALSE NEIGHBOUR: 'it returns false'. Refute it at one input. -/
def campaignLeastWrong : ChangeSpec := { name := "campaignLeast", fn := fun _ => fun
  | [d1, d2] => { results := [.lit (.bool false)], args := [d1, d2] }
  | _ => none }
def CampaignLeastWrongFalsely : Prop := campaignLeastRow.holds Tryz.pinned (OpenSpec.ofChange campaignLeastWrong)

/-- 'ullagelaw12.CampaignDelays': WHATEVER THE INPUT: true; the input reads as it did. -/
def campaignDelaysSpec : ChangeSpec := { name := "campaignDelays", fn := fun _ => fun
  | [d1, d2, d3] => { results := [.lit (.bool true)], args := [d1, d2, d3] }
  | _ => none }
def campaignDelaysRow : OpenClaim := { program := "ytcnjenlojnognaagreat", sum := "5afda693faaf83a167a484fd2b8d3f5a388f0e6fb3d5b8ab5799ff8f2e2a94e6", func := "ullage/ullagelaw12.CampaignDelays", spec := "campaignDelays", unfollowed := true, recurses := true, apart := false }
def CampaignDelaysSaid : Prop := campaignDelaysRow.holds Tryz.pinned (OpenSpec.ofChange campaignDelaysSpec)

/-- ITS FALSE NEIGHBOUR: 'it returns false'. Refute it at one input. -/
def campaignDelaysWrong : ChangeSpec := { name := "campaignDelays", fn := fun _ => fun
  | [d1, d2, d3] => { results := [.lit (.bool false)], args := [d1, d2, d3] }
  | _ => none }
def CampaignDelaysWrongFalsely : Prop := campaignDelaysRow.holds Tryz.pinned (OpenSpec.ofChange campaignDelaysWrong)

/-- 'ullagelaw12.CampaignSlips': WHATEVER THE INPUT: true; the input reads as it did. -/
def campaignSlipsSpec : ChangeSpec := { name := "campaignSlips", fn := fun _ => fun
  | [d1, d2, d3] => { results := [.lit (.bool true)], args := [d1, d2, d3] }
  | _ => none }
def campaignSlipsRow : OpenClaim := { program := "ytcnjenlojnognaagreat", sum := "5afda693faaf83a167a484fd2b8d3f5a388f0e6fb3d5b8ab5799ff8f2e2a94e6", func := "ullage/ullagelaw12.CampaignSlips", spec := "campaignSlips", unfollowed := true, recurses := true, apart := false }
def CampaignSlipsSaid : Prop := campaignSlipsRow.holds Tryz.pinned (OpenSpec.ofChange campaignSlipsSpec)

/-- ITS FALSE NEIGHBOUR: 'it returns false'. Refute it at one input. -/
def campaignSlipsWrong : ChangeSpec := { name := "campaignSlips", fn := fun _ => fun
  | [d1, d2, d3] => { results := [.lit (.bool false)], args := [d1, d2, d3] }
  | _ => none }
def CampaignSlipsWrongFalsely : Prop := campaignSlipsRow.holds Tryz.pinned (OpenSpec.ofChange campaignSlipsWrong)

/-- 'ullagelaw12.CampaignOwns': WHATEVER THE INPUT: true; the input reads as it did. -/
def campaignOwnsSpec : ChangeSpec := { name := "campaignOwns", fn := fun _ => fun
  | [d1, d2] => { results := [.lit (.bool true)], args := [d1, d2] }
  | _ => none }
def campaignOwnsRow : OpenClaim := { program := "ytcnjenlojnognaagreat", sum := "5afda693faaf83a167a484fd2b8d3f5a388f0e6fb3d5b8ab5799ff8f2e2a94e6", func := "ullage/ullagelaw12.CampaignOwns", spec := "campaignOwns", unfollowed := true, recurses := true, apart := false }
def CampaignOwnsSaid : Prop := campaignOwnsRow.holds Tryz.pinned (OpenSpec.ofChange campaignOwnsSpec)

/-- ITS FALSE NEIGHBOUR: 'it returns false'. Refute it at one input. -/
def campaignOwnsWrong : ChangeSpec := { name := "campaignOwns", fn := fun _ => fun
  | [d1, d2] => { results := [.lit (.bool false)], args := [d1, d2] }
  | _ => none }
def CampaignOwnsWrongFalsely : Prop := campaignOwnsRow.holds Tryz.pinned (OpenSpec.ofChange campaignOwnsWrong)

/- THE SECOND FORM. 'bulk': how many values and letters a reading holds, each counted each time it is reached (what is shared counts as often as it is met; a slice's spare places count too). A statement '..UptoSaid' is the law's where the arguments, and the package variables that the reading takes, are together of bulk at most 1048576: NARROWER than '..Said'. Prove '..Said' where nothing that the law and all that it calls make is longer than what came in: it says more and counts as full. Else prove '..UptoSaid'. A law counts once. -/
mutual
def uptoBulk {H : Type} : DataW H → Nat
  | .lit (.string bytes) => bytes.length + 1
  | .lit _ => 1
  | .nil => 1
  | .ptr d => uptoBulk d + 1
  | .slice elems spare => uptoBulkAll elems + uptoBulkAll spare + 1
  | .agg parts => uptoBulkAll parts + 1
  | .iface _ d => uptoBulk d + 1
  | .map entries => uptoBulkEntries entries + 1
  | .held _ => 1
def uptoBulkAll {H : Type} : List (DataW H) → Nat
  | [] => 0
  | d :: r => uptoBulk d + uptoBulkAll r
def uptoBulkEntries {H : Type} : List (Lit × DataW H) → Nat
  | [] => 0
  | x :: r => uptoBulkEntry x + uptoBulkEntries r
def uptoBulkEntry {H : Type} : Lit × DataW H → Nat
  | (.string bytes, d) => bytes.length + uptoBulk d + 1
  | (_, d) => uptoBulk d + 1
 end
def uptoSmall : (H : Type) → List (DataW H) → Bool := fun _ ds => decide (uptoBulkAll ds ≤ 1048576)
def OpenSpec.upto (s : _root_.Go.ChangeSpec) : _root_.Go.OpenSpec := { _root_.Go.OpenSpec.ofChange s with cond := some uptoSmall }

/-- 'ullagelaw12.CampaignChecks', WHERE WHAT IT READS IS OF BULK AT MOST 1048576: true; the input reads as it did. -/
def campaignChecksUptoRow : OpenClaim := { program := "ytcnjenlojnognaagreat", sum := "5afda693faaf83a167a484fd2b8d3f5a388f0e6fb3d5b8ab5799ff8f2e2a94e6", func := "ullage/ullagelaw12.CampaignChecks", spec := "campaignChecks", unfollowed := true, recurses := true, apart := false, narrowed := true }
def CampaignChecksUptoSaid : Prop := campaignChecksUptoRow.holds Tryz.pinned (OpenSpec.upto campaignChecksSpec)

/-- 'ullagelaw12.CampaignWorths', WHERE WHAT IT READS IS OF BULK AT MOST 1048576: true; the input reads as it did. -/
def campaignWorthsUptoRow : OpenClaim := { program := "ytcnjenlojnognaagreat", sum := "5afda693faaf83a167a484fd2b8d3f5a388f0e6fb3d5b8ab5799ff8f2e2a94e6", func := "ullage/ullagelaw12.CampaignWorths", spec := "campaignWorths", unfollowed := true, recurses := true, apart := false, narrowed := true }
def CampaignWorthsUptoSaid : Prop := campaignWorthsUptoRow.holds Tryz.pinned (OpenSpec.upto campaignWorthsSpec)

/-- 'ullagelaw12.CampaignBests', WHERE WHAT IT READS IS OF BULK AT MOST 1048576: true; the input reads as it did. -/
def campaignBestsUptoRow : OpenClaim := { program := "ytcnjenlojnognaagreat", sum := "5afda693faaf83a167a484fd2b8d3f5a388f0e6fb3d5b8ab5799ff8f2e2a94e6", func := "ullage/ullagelaw12.CampaignBests", spec := "campaignBests", unfollowed := true, recurses := true, apart := false, narrowed := true }
def CampaignBestsUptoSaid : Prop := campaignBestsUptoRow.holds Tryz.pinned (OpenSpec.upto campaignBestsSpec)

/-- 'ullagelaw12.CampaignBeats', WHERE WHAT IT READS IS OF BULK AT MOST 1048576: true; the input reads as it did. -/
def campaignBeatsUptoRow : OpenClaim := { program := "ytcnjenlojnognaagreat", sum := "5afda693faaf83a167a484fd2b8d3f5a388f0e6fb3d5b8ab5799ff8f2e2a94e6", func := "ullage/ullagelaw12.CampaignBeats", spec := "campaignBeats", unfollowed := true, recurses := true, apart := false, narrowed := true }
def CampaignBeatsUptoSaid : Prop := campaignBeatsUptoRow.holds Tryz.pinned (OpenSpec.upto campaignBeatsSpec)

/-- 'ullagelaw12.CampaignGrows', WHERE WHAT IT READS IS OF BULK AT MOST 1048576: true; the input reads as it did. -/
def campaignGrowsUptoRow : OpenClaim := { program := "ytcnjenlojnognaagreat", sum := "5afda693faaf83a167a484fd2b8d3f5a388f0e6fb3d5b8ab5799ff8f2e2a94e6", func := "ullage/ullagelaw12.CampaignGrows", spec := "campaignGrows", unfollowed := true, recurses := true, apart := false, narrowed := true }
def CampaignGrowsUptoSaid : Prop := campaignGrowsUptoRow.holds Tryz.pinned (OpenSpec.upto campaignGrowsSpec)

/-- 'ullagelaw12.CampaignConflicts', WHERE WHAT IT READS IS OF BULK AT MOST 1048576: true; the input reads as it did. -/
def campaignConflictsUptoRow : OpenClaim := { program := "ytcnjenlojnognaagreat", sum := "5afda693faaf83a167a484fd2b8d3f5a388f0e6fb3d5b8ab5799ff8f2e2a94e6", func := "ullage/ullagelaw12.CampaignConflicts", spec := "campaignConflicts", unfollowed := true, recurses := true, apart := false, narrowed := true }
def CampaignConflictsUptoSaid : Prop := campaignConflictsUptoRow.holds Tryz.pinned (OpenSpec.upto campaignConflictsSpec)

/-- 'ullagelaw12.CampaignLeast', WHERE WHAT IT READS IS OF BULK AT MOST 1048576: true; the input reads as it did. -/
def campaignLeastUptoRow : OpenClaim := { program := "ytcnjenlojnognaagreat", sum := "5afda693faaf83a167a484fd2b8d3f5a388f0e6fb3d5b8ab5799ff8f2e2a94e6", func := "ullage/ullagelaw12.CampaignLeast", spec := "campaignLeast", unfollowed := true, recurses := true, apart := false, narrowed := true }
def CampaignLeastUptoSaid : Prop := campaignLeastUptoRow.holds Tryz.pinned (OpenSpec.upto campaignLeastSpec)

/-- 'ullagelaw12.CampaignDelays', WHERE WHAT IT READS IS OF BULK AT MOST 1048576: true; the input reads as it did. -/
def campaignDelaysUptoRow : OpenClaim := { program := "ytcnjenlojnognaagreat", sum := "5afda693faaf83a167a484fd2b8d3f5a388f0e6fb3d5b8ab5799ff8f2e2a94e6", func := "ullage/ullagelaw12.CampaignDelays", spec := "campaignDelays", unfollowed := true, recurses := true, apart := false, narrowed := true }
def CampaignDelaysUptoSaid : Prop := campaignDelaysUptoRow.holds Tryz.pinned (OpenSpec.upto campaignDelaysSpec)

/-- 'ullagelaw12.CampaignSlips', WHERE WHAT IT READS IS OF BULK AT MOST 1048576: true; the input reads as it did. -/
def campaignSlipsUptoRow : OpenClaim := { program := "ytcnjenlojnognaagreat", sum := "5afda693faaf83a167a484fd2b8d3f5a388f0e6fb3d5b8ab5799ff8f2e2a94e6", func := "ullage/ullagelaw12.CampaignSlips", spec := "campaignSlips", unfollowed := true, recurses := true, apart := false, narrowed := true }
def CampaignSlipsUptoSaid : Prop := campaignSlipsUptoRow.holds Tryz.pinned (OpenSpec.upto campaignSlipsSpec)

/-- 'ullagelaw12.CampaignOwns', WHERE WHAT IT READS IS OF BULK AT MOST 1048576: true; the input reads as it did. -/
def campaignOwnsUptoRow : OpenClaim := { program := "ytcnjenlojnognaagreat", sum := "5afda693faaf83a167a484fd2b8d3f5a388f0e6fb3d5b8ab5799ff8f2e2a94e6", func := "ullage/ullagelaw12.CampaignOwns", spec := "campaignOwns", unfollowed := true, recurses := true, apart := false, narrowed := true }
def CampaignOwnsUptoSaid : Prop := campaignOwnsUptoRow.holds Tryz.pinned (OpenSpec.upto campaignOwnsSpec)

end Rows
end Go.Proofs.YtcnjenlojnognaaGreat
