/- What is proved: a map whose keys are spots. Conditions: the places are within int8. -/
import Derived.Test.YtogobjmmgjfjjaaF8
import Derived.Maps.Keyed
import Derived.DeepKeys4
namespace Go.Proofs.Ytogobjmmgjfjjaa
open Go.RowKit Go.Maps Go.WideMaps
theorem laidOut : laidOutB Try.prog = true := by kernel_rfl
theorem rowSpots : (74 : TypeId) < Try.prog.types.size := of_decide_eq_true (by kernel_rfl)
theorem wideSpots : (match Try.prog.underlying 74 with | some (.array _ _) | some (.struct _) => true | _ => false) = true := by kernel_rfl
set_option maxRecDepth 100000 in
theorem spotsKeyed : Keyed Try.prog 74 := Keyed.of_law (deep_law_laid laidOut (m := 4) (by omega) rowSpots (by kernel_rfl) wideSpots)
theorem cellsSpot : Try.prog.cellsOf 72 = 2 := by kernel_rfl
theorem cellsSpots : Try.prog.cellsOf 74 = 24 := by kernel_rfl
theorem cellsI8 : Try.prog.cellsOf 70 = 1 := by kernel_rfl
theorem cellsBool : Try.prog.cellsOf 4 = 1 := by kernel_rfl
theorem sizeTypes : ∃ d, Try.prog.types.size + 1 = d + 1 + 1 + 1 + 1 := ⟨Try.prog.types.size - 3, by
  have : (decide (3 ≤ Try.prog.types.size)) = true := by kernel_rfl
  have := of_decide_eq_true this; omega⟩
theorem underlyingSpot : ∃ fs, Try.prog.underlying 72 = some (.struct fs) ∧ fs.all (·.name != "_") = true ∧ fs.toList.map (fun f => (f.type, f.offset)) = [(70, 0), (4, 1)] := ⟨(match Try.prog.underlying 72 with | some (.struct f) => f | _ => #[]), by kernel_rfl, by kernel_rfl, by kernel_rfl⟩
theorem underlyingSpots : Try.prog.underlying 74 = some (.array 12 72) := by kernel_rfl
theorem keyTypeSpots : Try.prog.keyType 74 = true := by kernel_rfl
theorem keySpot (d : Nat) (x : SpotD) (h : (Lit.int .i8 x.place).wf = true) : Try.prog.keyLits (d + 1 + 1) 72 [.int .i8 x.place, .bool x.opn] = some [.int .i8 x.place, .bool x.opn] := by
  obtain ⟨fs, h1, h2, h3⟩ := underlyingSpot
  have key : ∀ (l : List Field), l.map (fun f => (f.type, f.offset)) = [(70, 0), (4, 1)] → l.mapM (fun f => Try.prog.keyLits (d + 1) f.type (([.int .i8 x.place, .bool x.opn] : List Value).drop f.offset |>.take (Try.prog.cellsOf f.type))) = some [[.int .i8 x.place], [.bool x.opn]] := by
    intro l hl
    rcases l with _ | ⟨f, _ | ⟨g, _ | ⟨g2, l⟩⟩⟩
    · simp at hl
    · simp at hl
    · simp only [List.map_cons, List.map_nil, List.cons.injEq, Prod.mk.injEq, and_true] at hl
      obtain ⟨⟨a1, a2⟩, b1, b2⟩ := hl
      simp [a1, a2, b1, b2, cellsI8, cellsBool, Program.keyLits, h]
    · simp at hl
  unfold Program.keyLits
  simp only [h1, List.length_cons, List.length_nil, cellsSpot, h2, and_self, if_true, key _ h3]
  rfl
theorem spots_wf {s : Spots} (h : PlacesOk s) (i : Nat) : (Lit.int .i8 (s i).place).wf = true := by
  have h1 : IntKind.i8.min = -128 := by decide
  have h2 : IntKind.i8.max = 127 := by decide
  have := h i
  simp [Lit.wf, h1, h2]
  omega
def spotsK (s : Spots) : List Lit := (List.range 12).flatMap fun i => [.int .i8 (s i).place, .bool (s i).opn]
theorem keyLitsSpots (s : Spots) (h : PlacesOk s) (d : Nat) : Try.prog.keyLits (d + 1 + 1 + 1 + 1) 74 (spotsA s).toList = some (spotsK s) := by
  conv => lhs; unfold Program.keyLits
  simp only [underlyingSpots, Array.length_toList, spotsA_size, cellsSpots, if_true, cellsSpot]
  have hm : ∀ l : List Nat, (∀ i ∈ l, i < 12) → l.mapM (fun i => Try.prog.keyLits (d + 1 + 1 + 1) 72 (((spotsA s).toList.drop (i * 2)).take 2)) = some (l.map fun i => [.int .i8 (s i).place, .bool (s i).opn]) := by
    intro l
    induction l with
    | nil => intro _; rfl
    | cons i l ih =>
      intro hl
      have hi := hl i (List.mem_cons_self ..)
      have h0 : ((spotsA s).toList.drop (i * 2)).take 2 = [.int .i8 (s i).place, .bool (s i).opn] := by
        match i, hi with
        | 0, _ => rfl
        | 1, _ => rfl
        | 2, _ => rfl
        | 3, _ => rfl
        | 4, _ => rfl
        | 5, _ => rfl
        | 6, _ => rfl
        | 7, _ => rfl
        | 8, _ => rfl
        | 9, _ => rfl
        | 10, _ => rfl
        | 11, _ => rfl
      simp [List.mapM_cons, h0, keySpot (d + 1) (s i) (spots_wf h i), ih fun j hj => hl j (List.mem_cons_of_mem _ hj)]
  rw [hm _ fun i hi => by simpa using hi]
  rfl
theorem spots_formed (s : Spots) : (Value.agg (spotsA s)).formed Try.prog 74 = true := by
  simp only [Value.formed, underlyingSpots, spotsA_size, cellsSpots]; rfl
theorem keySpots (s : Spots) (h : PlacesOk s) : ∃ l, keyOf Try.prog 74 (.agg (spotsA s)) = some l := by
  obtain ⟨d, hd⟩ := sizeTypes
  unfold keyOf
  simp only [underlyingSpots, keyTypeSpots, spots_formed, Bool.and_self, if_true, hd]
  rw [show (Value.agg (spotsA s)).cells.toList = (spotsA s).toList from rfl, keyLitsSpots s h d]
  exact ⟨_, rfl⟩
end Go.Proofs.Ytogobjmmgjfjjaa
