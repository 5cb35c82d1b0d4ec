/-
  No cell of these rows narrows 'for every input' (looked for: loops, veiled, ifaces, maps, wideKeys, modest, calm, conditions, laid).
  DERIVED. THE GIVEN ROWS OF THIS SEAT. 12 by the template 'for every input the law returns true; each argument reads behind the call as it read before'; 0 by the template 'total and deterministic' (their statements: YtnmccbjdfdbgpaaTotals.lean).
  GIVEN WITH THE SEED: the statements are not yours to turn. If you find one false, say at which input.
  Laid BY PROGRAM, IN A SANDBOX (cutbox-rows.mjs): the forced cells as the released guide's own fill.sh prints them over the translation 4ad650f13809082b… (all of the seat's roots in one cut). By AI agents, Wed Nov 11 2026. No macro, syntax, notation, axiom, sorry.
-/
import Derived.Test.YtnmccbjdfdbgpaaChecked
import GoSem.Claim
import GoSem.ClaimJoined
import GoSem.ClaimMapViews
import Derived.JoinedTies
import Derived.KernelRfl
namespace Go.Proofs.Ytnmccbjdfdbgpaa
/- THE CELL 'sum', in the pinned program and in every row, IS THE sha256 OF THE DUMP (.gsa) THAT YtnmccbjdfdbgpaaProg.lean LOADS. Nothing in Lean hashes anything: it is a label: what it is worth is what the hold of that sum in a sandbox is worth. -/
noncomputable def Try.pinned : Pinned := { name := "ytnmccbjdfdbgpaa", sum := "4ad650f13809082ba8b610610324ca9888c43a5bea6340667381398c465c7f57", checked := Try.checked }
namespace Rows
def none {H : Type} : Left H := { results := [], args := [] }

/-- 'ullagelaw08.AvionicsMasks': WHATEVER THE INPUT: true; the input reads as it did. -/
def avionicsMasksSpec : ChangeSpec := { name := "avionicsMasks", fn := fun _ => fun
  | [d1, d2] => { results := [.lit (.bool true)], args := [d1, d2] }
  | _ => none }
def avionicsMasksRow : OpenClaim := { program := "ytnmccbjdfdbgpaa", sum := "4ad650f13809082ba8b610610324ca9888c43a5bea6340667381398c465c7f57", func := "ullage/ullagelaw08.AvionicsMasks", spec := "avionicsMasks", unfollowed := true, recurses := true, plainKeys := false, apart := false }
def AvionicsMasksSaid : Prop := avionicsMasksRow.holds Try.pinned (OpenSpec.ofChange avionicsMasksSpec)

/-- ITS FALSE NEIGHBOUR: 'it returns false'. Refute it at one input. -/
def avionicsMasksWrong : ChangeSpec := { name := "avionicsMasks", fn := fun _ => fun
  | [d1, d2] => { results := [.lit (.bool false)], args := [d1, d2] }
  | _ => none }
def AvionicsMasksWrongFalsely : Prop := avionicsMasksRow.holds Try.pinned (OpenSpec.ofChange avionicsMasksWrong)

/-- 'ullagelaw08.AvionicsStays': WHATEVER THE INPUT: true; the input reads as it did. -/
def avionicsStaysSpec : ChangeSpec := { name := "avionicsStays", fn := fun _ => fun
  | [d1, d2, d3] => { results := [.lit (.bool true)], args := [d1, d2, d3] }
  | _ => none }
def avionicsStaysRow : OpenClaim := { program := "ytnmccbjdfdbgpaa", sum := "4ad650f13809082ba8b610610324ca9888c43a5bea6340667381398c465c7f57", func := "ullage/ullagelaw08.AvionicsStays", spec := "avionicsStays", unfollowed := true, recurses := true, plainKeys := false, apart := false }
def AvionicsStaysSaid : Prop := avionicsStaysRow.holds Try.pinned (OpenSpec.ofChange avionicsStaysSpec)

/-- ITS FALSE NEIGHBOUR: 'it returns false'. Refute it at one input. -/
def avionicsStaysWrong : ChangeSpec := { name := "avionicsStays", fn := fun _ => fun
  | [d1, d2, d3] => { results := [.lit (.bool false)], args := [d1, d2, d3] }
  | _ => none }
def AvionicsStaysWrongFalsely : Prop := avionicsStaysRow.holds Try.pinned (OpenSpec.ofChange avionicsStaysWrong)

/-- 'ullagelaw08.AvionicsSchedules': WHATEVER THE INPUT: true; the input reads as it did. -/
def avionicsSchedulesSpec : ChangeSpec := { name := "avionicsSchedules", fn := fun _ => fun
  | [d] => { results := [.lit (.bool true)], args := [d] }
  | _ => none }
def avionicsSchedulesRow : OpenClaim := { program := "ytnmccbjdfdbgpaa", sum := "4ad650f13809082ba8b610610324ca9888c43a5bea6340667381398c465c7f57", func := "ullage/ullagelaw08.AvionicsSchedules", spec := "avionicsSchedules", unfollowed := true, recurses := true, plainKeys := false, apart := false }
def AvionicsSchedulesSaid : Prop := avionicsSchedulesRow.holds Try.pinned (OpenSpec.ofChange avionicsSchedulesSpec)

/-- ITS FALSE NEIGHBOUR: 'it returns false'. Refute it at one input. -/
def avionicsSchedulesWrong : ChangeSpec := { name := "avionicsSchedules", fn := fun _ => fun
  | [d] => { results := [.lit (.bool false)], args := [d] }
  | _ => none }
def AvionicsSchedulesWrongFalsely : Prop := avionicsSchedulesRow.holds Try.pinned (OpenSpec.ofChange avionicsSchedulesWrong)

/-- 'ullagelaw08.AvionicsAgrees': WHATEVER THE INPUT: true; the input reads as it did. -/
def avionicsAgreesSpec : ChangeSpec := { name := "avionicsAgrees", fn := fun _ => fun
  | [d1, d2, d3] => { results := [.lit (.bool true)], args := [d1, d2, d3] }
  | _ => none }
def avionicsAgreesRow : OpenClaim := { program := "ytnmccbjdfdbgpaa", sum := "4ad650f13809082ba8b610610324ca9888c43a5bea6340667381398c465c7f57", func := "ullage/ullagelaw08.AvionicsAgrees", spec := "avionicsAgrees", unfollowed := true, recurses := true, plainKeys := false, apart := false }
def AvionicsAgreesSaid : Prop := avionicsAgreesRow.holds Try.pinned (OpenSpec.ofChange avionicsAgreesSpec)

/-- ITS FALSE NEIGHBOUR: 'it returns false'. Refute it at one input. -/
def avionicsAgreesWrong : ChangeSpec := { name := "avionicsAgrees", fn := fun _ => fun
  | [d1, d2, d3] => { results := [.lit (.bool false)], args := [d1, d2, d3] }
  | _ => none }
def AvionicsAgreesWrongFalsely : Prop := avionicsAgreesRow.holds Try.pinned (OpenSpec.ofChange avionicsAgreesWrong)

/-- 'ullagelaw08.AvionicsTogether': WHATEVER THE INPUT: true; the input reads as it did. -/
def avionicsTogetherSpec : ChangeSpec := { name := "avionicsTogether", fn := fun _ => fun
  | [d1, d2, d3] => { results := [.lit (.bool true)], args := [d1, d2, d3] }
  | _ => none }
def avionicsTogetherRow : OpenClaim := { program := "ytnmccbjdfdbgpaa", sum := "4ad650f13809082ba8b610610324ca9888c43a5bea6340667381398c465c7f57", func := "ullage/ullagelaw08.AvionicsTogether", spec := "avionicsTogether", unfollowed := true, recurses := true, plainKeys := false, apart := false }
def AvionicsTogetherSaid : Prop := avionicsTogetherRow.holds Try.pinned (OpenSpec.ofChange avionicsTogetherSpec)

/-- ITS FALSE NEIGHBOUR: 'it returns false'. Refute it at one input. -/
def avionicsTogetherWrong : ChangeSpec := { name := "avionicsTogether", fn := fun _ => fun
  | [d1, d2, d3] => { results := [.lit (.bool false)], args := [d1, d2, d3] }
  | _ => none }
def AvionicsTogetherWrongFalsely : Prop := avionicsTogetherRow.holds Try.pinned (OpenSpec.ofChange avionicsTogetherWrong)

/-- 'ullagelaw08.AvionicsCuts': WHATEVER THE INPUT: true; the input reads as it did. -/
def avionicsCutsSpec : ChangeSpec := { name := "avionicsCuts", fn := fun _ => fun
  | [d1, d2, d3] => { results := [.lit (.bool true)], args := [d1, d2, d3] }
  | _ => none }
def avionicsCutsRow : OpenClaim := { program := "ytnmccbjdfdbgpaa", sum := "4ad650f13809082ba8b610610324ca9888c43a5bea6340667381398c465c7f57", func := "ullage/ullagelaw08.AvionicsCuts", spec := "avionicsCuts", unfollowed := true, recurses := true, plainKeys := false, apart := false }
def AvionicsCutsSaid : Prop := avionicsCutsRow.holds Try.pinned (OpenSpec.ofChange avionicsCutsSpec)

/-- ITS FALSE NEIGHBOUR: 'it returns false'. Refute it at one input. -/
def avionicsCutsWrong : ChangeSpec := { name := "avionicsCuts", fn := fun _ => fun
  | [d1, d2, d3] => { results := [.lit (.bool false)], args := [d1, d2, d3] }
  | _ => none }
def AvionicsCutsWrongFalsely : Prop := avionicsCutsRow.holds Try.pinned (OpenSpec.ofChange avionicsCutsWrong)

/-- 'ullagelaw08.AvionicsOnce': WHATEVER THE INPUT: true; the input reads as it did. -/
def avionicsOnceSpec : ChangeSpec := { name := "avionicsOnce", fn := fun _ => fun
  | [d1, d2, d3] => { results := [.lit (.bool true)], args := [d1, d2, d3] }
  | _ => none }
def avionicsOnceRow : OpenClaim := { program := "ytnmccbjdfdbgpaa", sum := "4ad650f13809082ba8b610610324ca9888c43a5bea6340667381398c465c7f57", func := "ullage/ullagelaw08.AvionicsOnce", spec := "avionicsOnce", unfollowed := true, recurses := true, plainKeys := false, apart := false }
def AvionicsOnceSaid : Prop := avionicsOnceRow.holds Try.pinned (OpenSpec.ofChange avionicsOnceSpec)

/-- ITS FALSE NEIGHBOUR: 'it returns false'. Refute it at one input. -/
def avionicsOnceWrong : ChangeSpec := { name := "avionicsOnce", fn := fun _ => fun
  | [d1, d2, d3] => { results := [.lit (.bool false)], args := [d1, d2, d3] }
  | _ => none }
def AvionicsOnceWrongFalsely : Prop := avionicsOnceRow.holds Try.pinned (OpenSpec.ofChange avionicsOnceWrong)

/-- 'ullagelaw08.AvionicsMids': WHATEVER THE INPUT: true; the input reads as it did. -/
def avionicsMidsSpec : ChangeSpec := { name := "avionicsMids", fn := fun _ => fun
  | [d1, d2, d3] => { results := [.lit (.bool true)], args := [d1, d2, d3] }
  | _ => none }
def avionicsMidsRow : OpenClaim := { program := "ytnmccbjdfdbgpaa", sum := "4ad650f13809082ba8b610610324ca9888c43a5bea6340667381398c465c7f57", func := "ullage/ullagelaw08.AvionicsMids", spec := "avionicsMids", unfollowed := true, recurses := true, plainKeys := false, apart := false }
def AvionicsMidsSaid : Prop := avionicsMidsRow.holds Try.pinned (OpenSpec.ofChange avionicsMidsSpec)

/-- ITS FALSE NEIGHBOUR: 'it returns false'. Refute it at one input. -/
def avionicsMidsWrong : ChangeSpec := { name := "avionicsMids", fn := fun _ => fun
  | [d1, d2, d3] => { results := [.lit (.bool false)], args := [d1, d2, d3] }
  | _ => none }
def AvionicsMidsWrongFalsely : Prop := avionicsMidsRow.holds Try.pinned (OpenSpec.ofChange avionicsMidsWrong)

/-- 'ullagelaw08.AvionicsVotes': WHATEVER THE INPUT: true; the input reads as it did. -/
def avionicsVotesSpec : ChangeSpec := { name := "avionicsVotes", fn := fun _ => fun
  | [d1, d2] => { results := [.lit (.bool true)], args := [d1, d2] }
  | _ => none }
def avionicsVotesRow : OpenClaim := { program := "ytnmccbjdfdbgpaa", sum := "4ad650f13809082ba8b610610324ca9888c43a5bea6340667381398c465c7f57", func := "ullage/ullagelaw08.AvionicsVotes", spec := "avionicsVotes", unfollowed := true, recurses := true, plainKeys := false, apart := false }
def AvionicsVotesSaid : Prop := avionicsVotesRow.holds Try.pinned (OpenSpec.ofChange avionicsVotesSpec)

/-- ITS FALSE NEIGHBOUR: 'it returns false'. Refute it at one input. -/
def avionicsVotesWrong : ChangeSpec := { name := "avionicsVotes", fn := fun _ => fun
  | [d1, d2] => { results := [.lit (.bool false)], args := [d1, d2] }
  | _ => none }
def AvionicsVotesWrongFalsely : Prop := avionicsVotesRow.holds Try.pinned (OpenSpec.ofChange avionicsVotesWrong)

/-- 'ullagelaw08.AvionicsFits': WHATEVER THE INPUT: true; the input reads as it did. -/
def avionicsFitsSpec : ChangeSpec := { name := "avionicsFits", fn := fun _ => fun
  | [d] => { results := [.lit (.bool true)], args := [d] }
  | _ => none }
def avionicsFitsRow : OpenClaim := { program := "ytnmccbjdfdbgpaa", sum := "4ad650f13809082ba8b610610324ca9888c43a5bea6340667381398c465c7f57", func := "ullage/ullagelaw08.AvionicsFits", spec := "avionicsFits", unfollowed := true, recurses := true, plainKeys := false, apart := false }
def AvionicsFitsSaid : Prop := avionicsFitsRow.holds Try.pinned (OpenSpec.ofChange avionicsFitsSpec)

/-- ITS FALSE NEIGHBOUR: 'it returns false'. Refute it at one input. -/
def avionicsFitsWrong : ChangeSpec := { name := "avionicsFits", fn := fun _ => fun
  | [d] => { results := [.lit (.bool false)], args := [d] }
  | _ => none }
def AvionicsFitsWrongFalsely : Prop := avionicsFitsRow.holds Try.pinned (OpenSpec.ofChange avionicsFitsWrong)

/-- 'ullagelaw08.AvionicsServes': WHATEVER THE INPUT: true; the input reads as it did. -/
def avionicsServesSpec : ChangeSpec := { name := "avionicsServes", fn := fun _ => fun
  | [d1, d2, d3] => { results := [.lit (.bool true)], args := [d1, d2, d3] }
  | _ => none }
def avionicsServesRow : OpenClaim := { program := "ytnmccbjdfdbgpaa", sum := "4ad650f13809082ba8b610610324ca9888c43a5bea6340667381398c465c7f57", func := "ullage/ullagelaw08.AvionicsServes", spec := "avionicsServes", unfollowed := true, recurses := true, plainKeys := false, apart := false }
def AvionicsServesSaid : Prop := avionicsServesRow.holds Try.pinned (OpenSpec.ofChange avionicsServesSpec)

/-- ITS FALSE NEIGHBOUR: 'it returns false'. Refute it at one input. -/
def avionicsServesWrong : ChangeSpec := { name := "avionicsServes", fn := fun _ => fun
  | [d1, d2, d3] => { results := [.lit (.bool false)], args := [d1, d2, d3] }
  | _ => none }
def AvionicsServesWrongFalsely : Prop := avionicsServesRow.holds Try.pinned (OpenSpec.ofChange avionicsServesWrong)

/-- 'ullagelaw08.AvionicsOwns': WHATEVER THE INPUT: true; the input reads as it did. -/
def avionicsOwnsSpec : ChangeSpec := { name := "avionicsOwns", fn := fun _ => fun
  | [d1, d2] => { results := [.lit (.bool true)], args := [d1, d2] }
  | _ => none }
def avionicsOwnsRow : OpenClaim := { program := "ytnmccbjdfdbgpaa", sum := "4ad650f13809082ba8b610610324ca9888c43a5bea6340667381398c465c7f57", func := "ullage/ullagelaw08.AvionicsOwns", spec := "avionicsOwns", unfollowed := true, recurses := true, plainKeys := false, apart := false }
def AvionicsOwnsSaid : Prop := avionicsOwnsRow.holds Try.pinned (OpenSpec.ofChange avionicsOwnsSpec)

/-- ITS FALSE NEIGHBOUR: 'it returns false'. Refute it at one input. -/
def avionicsOwnsWrong : ChangeSpec := { name := "avionicsOwns", fn := fun _ => fun
  | [d1, d2] => { results := [.lit (.bool false)], args := [d1, d2] }
  | _ => none }
def AvionicsOwnsWrongFalsely : Prop := avionicsOwnsRow.holds Try.pinned (OpenSpec.ofChange avionicsOwnsWrong)

/- THE SECOND FORM. 'bulk': how many values and letters a reading holds, each counted each time it is reached (what is shared counts as often as it is met; a slice's spare places count too). A statement '..UptoSaid' is the law's where the arguments, and the package variables that the reading takes, are together of bulk at most 1048576: NARROWER than '..Said'. Prove '..Said' where nothing that the law and all that it calls make is longer than what came in: it says more and counts as full. Else prove '..UptoSaid'. A law counts once. -/
mutual
def uptoBulk {H : Type} : DataW H → Nat
  | .lit (.string bytes) => bytes.length + 1
  | .lit _ => 1
  | .nil => 1
  | .ptr d => uptoBulk d + 1
  | .slice elems spare => uptoBulkAll elems + uptoBulkAll spare + 1
  | .agg parts => uptoBulkAll parts + 1
  | .iface _ d => uptoBulk d + 1
  | .map entries => uptoBulkEntries entries + 1
  | .held _ => 1
def uptoBulkAll {H : Type} : List (DataW H) → Nat
  | [] => 0
  | d :: r => uptoBulk d + uptoBulkAll r
def uptoBulkEntries {H : Type} : List (Lit × DataW H) → Nat
  | [] => 0
  | x :: r => uptoBulkEntry x + uptoBulkEntries r
def uptoBulkEntry {H : Type} : Lit × DataW H → Nat
  | (.string bytes, d) => bytes.length + uptoBulk d + 1
  | (_, d) => uptoBulk d + 1
 end
def uptoSmall : (H : Type) → List (DataW H) → Bool := fun _ ds => decide (uptoBulkAll ds ≤ 1048576)
def OpenSpec.upto (s : _root_.Go.ChangeSpec) : _root_.Go.OpenSpec := { _root_.Go.OpenSpec.ofChange s with cond := some uptoSmall }

/-- 'ullagelaw08.AvionicsMasks', WHERE WHAT IT READS IS OF BULK AT MOST 1048576: true; the input reads as it did. -/
def avionicsMasksUptoRow : OpenClaim := { program := "ytnmccbjdfdbgpaa", sum := "4ad650f13809082ba8b610610324ca9888c43a5bea6340667381398c465c7f57", func := "ullage/ullagelaw08.AvionicsMasks", spec := "avionicsMasks", unfollowed := true, recurses := true, plainKeys := false, apart := false, narrowed := true }
def AvionicsMasksUptoSaid : Prop := avionicsMasksUptoRow.holds Try.pinned (OpenSpec.upto avionicsMasksSpec)

/-- 'ullagelaw08.AvionicsStays', WHERE WHAT IT READS IS OF BULK AT MOST 1048576: true; the input reads as it did. -/
def avionicsStaysUptoRow : OpenClaim := { program := "ytnmccbjdfdbgpaa", sum := "4ad650f13809082ba8b610610324ca9888c43a5bea6340667381398c465c7f57", func := "ullage/ullagelaw08.AvionicsStays", spec := "avionicsStays", unfollowed := true, recurses := true, plainKeys := false, apart := false, narrowed := true }
def AvionicsStaysUptoSaid : Prop := avionicsStaysUptoRow.holds Try.pinned (OpenSpec.upto avionicsStaysSpec)

/-- 'ullagelaw08.AvionicsSchedules', WHERE WHAT IT READS IS OF BULK AT MOST 1048576: true; the input reads as it did. -/
def avionicsSchedulesUptoRow : OpenClaim := { program := "ytnmccbjdfdbgpaa", sum := "4ad650f13809082ba8b610610324ca9888c43a5bea6340667381398c465c7f57", func := "ullage/ullagelaw08.AvionicsSchedules", spec := "avionicsSchedules", unfollowed := true, recurses := true, plainKeys := false, apart := false, narrowed := true }
def AvionicsSchedulesUptoSaid : Prop := avionicsSchedulesUptoRow.holds Try.pinned (OpenSpec.upto avionicsSchedulesSpec)

/-- 'ullagelaw08.AvionicsAgrees', WHERE WHAT IT READS IS OF BULK AT MOST 1048576: true; the input reads as it did. -/
def avionicsAgreesUptoRow : OpenClaim := { program := "ytnmccbjdfdbgpaa", sum := "4ad650f13809082ba8b610610324ca9888c43a5bea6340667381398c465c7f57", func := "ullage/ullagelaw08.AvionicsAgrees", spec := "avionicsAgrees", unfollowed := true, recurses := true, plainKeys := false, apart := false, narrowed := true }
def AvionicsAgreesUptoSaid : Prop := avionicsAgreesUptoRow.holds Try.pinned (OpenSpec.upto avionicsAgreesSpec)

/-- 'ullagelaw08.AvionicsTogether', WHERE WHAT IT READS IS OF BULK AT MOST 1048576: true; the input reads as it did. -/
def avionicsTogetherUptoRow : OpenClaim := { program := "ytnmccbjdfdbgpaa", sum := "4ad650f13809082ba8b610610324ca9888c43a5bea6340667381398c465c7f57", func := "ullage/ullagelaw08.AvionicsTogether", spec := "avionicsTogether", unfollowed := true, recurses := true, plainKeys := false, apart := false, narrowed := true }
def AvionicsTogetherUptoSaid : Prop := avionicsTogetherUptoRow.holds Try.pinned (OpenSpec.upto avionicsTogetherSpec)

/-- 'ullagelaw08.AvionicsCuts', WHERE WHAT IT READS IS OF BULK AT MOST 1048576: true; the input reads as it did. -/
def avionicsCutsUptoRow : OpenClaim := { program := "ytnmccbjdfdbgpaa", sum := "4ad650f13809082ba8b610610324ca9888c43a5bea6340667381398c465c7f57", func := "ullage/ullagelaw08.AvionicsCuts", spec := "avionicsCuts", unfollowed := true, recurses := true, plainKeys := false, apart := false, narrowed := true }
def AvionicsCutsUptoSaid : Prop := avionicsCutsUptoRow.holds Try.pinned (OpenSpec.upto avionicsCutsSpec)

/-- 'ullagelaw08.AvionicsOnce', WHERE WHAT IT READS IS OF BULK AT MOST 1048576: true; the input reads as it did. -/
def avionicsOnceUptoRow : OpenClaim := { program := "ytnmccbjdfdbgpaa", sum := "4ad650f13809082ba8b610610324ca9888c43a5bea6340667381398c465c7f57", func := "ullage/ullagelaw08.AvionicsOnce", spec := "avionicsOnce", unfollowed := true, recurses := true, plainKeys := false, apart := false, narrowed := true }
def AvionicsOnceUptoSaid : Prop := avionicsOnceUptoRow.holds Try.pinned (OpenSpec.upto avionicsOnceSpec)

/-- 'ullagelaw08.AvionicsMids', WHERE WHAT IT READS IS OF BULK AT MOST 1048576: true; the input reads as it did. -/
def avionicsMidsUptoRow : OpenClaim := { program := "ytnmccbjdfdbgpaa", sum := "4ad650f13809082ba8b610610324ca9888c43a5bea6340667381398c465c7f57", func := "ullage/ullagelaw08.AvionicsMids", spec := "avionicsMids", unfollowed := true, recurses := true, plainKeys := false, apart := false, narrowed := true }
def AvionicsMidsUptoSaid : Prop := avionicsMidsUptoRow.holds Try.pinned (OpenSpec.upto avionicsMidsSpec)

/-- 'ullagelaw08.AvionicsVotes', WHERE WHAT IT READS IS OF BULK AT MOST 1048576: true; the input reads as it did. -/
def avionicsVotesUptoRow : OpenClaim := { program := "ytnmccbjdfdbgpaa", sum := "4ad650f13809082ba8b610610324ca9888c43a5bea6340667381398c465c7f57", func := "ullage/ullagelaw08.AvionicsVotes", spec := "avionicsVotes", unfollowed := true, recurses := true, plainKeys := false, apart := false, narrowed := true }
def AvionicsVotesUptoSaid : Prop := avionicsVotesUptoRow.holds Try.pinned (OpenSpec.upto avionicsVotesSpec)

/-- 'ullagelaw08.AvionicsFits', WHERE WHAT IT READS IS OF BULK AT MOST 1048576: true; the input reads as it did. -/
def avionicsFitsUptoRow : OpenClaim := { program := "ytnmccbjdfdbgpaa", sum := "4ad650f13809082ba8b610610324ca9888c43a5bea6340667381398c465c7f57", func := "ullage/ullagelaw08.AvionicsFits", spec := "avionicsFits", unfollowed := true, recurses := true, plainKeys := false, apart := false, narrowed := true }
def AvionicsFitsUptoSaid : Prop := avionicsFitsUptoRow.holds Try.pinned (OpenSpec.upto avionicsFitsSpec)

/-- 'ullagelaw08.AvionicsServes', WHERE WHAT IT READS IS OF BULK AT MOST 1048576: true; the input reads as it did. -/
def avionicsServesUptoRow : OpenClaim := { program := "ytnmccbjdfdbgpaa", sum := "4ad650f13809082ba8b610610324ca9888c43a5bea6340667381398c465c7f57", func := "ullage/ullagelaw08.AvionicsServes", spec := "avionicsServes", unfollowed := true, recurses := true, plainKeys := false, apart := false, narrowed := true }
def AvionicsServesUptoSaid : Prop := avionicsServesUptoRow.holds Try.pinned (OpenSpec.upto avionicsServesSpec)

/-- 'ullagelaw08.AvionicsOwns', WHERE WHAT IT READS IS OF BULK AT MOST 1048576: true; the input reads as it did. -/
def avionicsOwnsUptoRow : OpenClaim := { program := "ytnmccbjdfdbgpaa", sum := "4ad650f13809082ba8b610610324ca9888c43a5bea6340667381398c465c7f57", func := "ullage/ullagelaw08.AvionicsOwns", spec := "avionicsOwns", unfollowed := true, recurses := true, plainKeys := false, apart := false, narrowed := true }
def AvionicsOwnsUptoSaid : Prop := avionicsOwnsUptoRow.holds Try.pinned (OpenSpec.upto avionicsOwnsSpec)

end Rows
end Go.Proofs.Ytnmccbjdfdbgpaa
