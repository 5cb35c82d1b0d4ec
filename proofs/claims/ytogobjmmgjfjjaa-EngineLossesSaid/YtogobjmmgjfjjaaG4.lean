/- What is proved: nothing of Go: the rows of a search, how they lie in memory, and what keeps them. -/
import Derived.Test.YtogobjmmgjfjjaaG3
namespace Go.Proofs.Ytogobjmmgjfjjaa
open Go.RowKit

inductive RowC where
  | root (s : Spots)
  | step (s : Spots) (r : RowC) (o : Option LitD)
def RowC.at_ : RowC → Spots
  | .root s => s
  | .step s _ _ => s
/-- The orders of a row, the last one first. -/
def RowC.back : RowC → List LitD
  | .root _ => []
  | .step _ r none => r.back
  | .step _ r (some o) => o :: r.back
def RowC.depth : RowC → Nat
  | .root _ => 0
  | .step _ r _ => r.depth + 1
theorem RowC.back_le (r : RowC) : r.back.length ≤ r.depth := by
  induction r with
  | root => simp [RowC.back]
  | step s r o ih => cases o <;> simp [RowC.back, RowC.depth] <;> omega

def ptr (b : Nat) : Value := .pointer (some ⟨b, 0, none⟩)
def rowA (s : Spots) (f o : Value) : Array Value := spotsA s ++ #[f, o]
theorem rowA_size (s : Spots) (f o : Value) : (rowA s f o).size = 26 := rfl
theorem rowA_24 (s : Spots) (f o : Value) : (rowA s f o)[24]? = some f := rfl
theorem rowA_25 (s : Spots) (f o : Value) : (rowA s f o)[25]? = some o := rfl
theorem rowA_at (s : Spots) (f o : Value) (j : Nat) (u : Value) (h : (spotsA s)[j]? = some u) : (rowA s f o)[j]? = some u := by
  have hj : j < (spotsA s).size := (Array.getElem?_eq_some_iff.1 h).1
  unfold rowA
  rw [Array.getElem?_append_left hj]; exact h
def ordA (o : LitD) : Array Value := #[.int .i64 o.valve, .bool o.opn]

/-- A row lies at block b. -/
def RowIn (w : World) : RowC → Nat → Prop
  | .root s, b => Bk w b 96 (rowA s (.pointer none) (.pointer none))
  | .step s r none, b => ∃ b', RowIn w r b' ∧ Bk w b 96 (rowA s (ptr b') (.pointer none))
  | .step s r (some o), b => ∃ b' ob, RowIn w r b' ∧ Bk w ob 45 (ordA o) ∧ Bk w b 96 (rowA s (ptr b') (ptr ob))
theorem RowIn.bk {w : World} {r : RowC} {b : Nat} (h : RowIn w r b) : ∃ f o, Bk w b 96 (rowA r.at_ f o) := by
  match r with
  | .root s => exact ⟨_, _, h⟩
  | .step s r none => obtain ⟨b', _, h⟩ := h; exact ⟨_, _, h⟩
  | .step s r (some o) => obtain ⟨b', ob, _, _, h⟩ := h; exact ⟨_, _, h⟩

/-- Only new blocks from B on, and blocks from B on that are a search, its map or its queue, have turned. -/
structure Fr (B : Nat) (w w' : World) : Prop where
  below : Below B w w'
  keep : ∀ b cs t, t ≠ 92 → t ≠ 90 → Bk w b t cs → Bk w' b t cs
theorem Fr.refl (B : Nat) (w : World) : Fr B w w := ⟨Below.refl _ _, fun _ _ _ _ _ h => h⟩
theorem Fr.trans {B : Nat} {a b c : World} (h : Fr B a b) (k : Fr B b c) : Fr B a c := ⟨h.below.trans k.below, fun g cs t ht hu hk => k.keep g cs t ht hu (h.keep g cs t ht hu hk)⟩
theorem Fr.of_below {B : Nat} {w w' : World} (h : Below w.heap.size w w') (hB : B ≤ w.heap.size) : Fr B w w' :=
  ⟨h.mono hB, fun _ _ _ _ _ hk => hk.below h hk.lt⟩
theorem Fr.of_only {B g : Nat} {w w' : World} {t : TypeId} {cs : Array Value} (h : Only g w w') (hB : B ≤ g) (hb : Bk w g t cs) (h1 : t = 92 ∨ t = 90) : Fr B w w' :=
  ⟨h.below hB, fun b cs' t' ht hu hk => hk.only h (by
    rintro rfl
    have e := hb.symm.trans hk
    simp only [Option.some.injEq, Obj.cells.injEq] at e
    rcases h1 with h1 | h1
    · exact ht (e.2.1.symm.trans h1)
    · exact hu (e.2.1.symm.trans h1))⟩
theorem Fr.of_map {B g : Nat} {w w' : World} (h : Only g w w') (hB : B ≤ g) {arr : Array MapEntry} {c : Nat} (hb : w.heap[g]? = some (.map arr c)) : Fr B w w' :=
  ⟨h.below hB, fun b cs' t' _ _ hk => hk.only h (by
    rintro rfl
    have e := hb.symm.trans hk
    simp at e)⟩
theorem RowIn.fr {B : Nat} {w w' : World} (hf : Fr B w w') : ∀ {r : RowC} {b : Nat}, RowIn w r b → RowIn w' r b
  | .root s, b, h => hf.keep _ _ _ (by decide) (by decide) h
  | .step s r none, b, h => by obtain ⟨b', h1, h2⟩ := h; exact ⟨b', h1.fr hf, hf.keep _ _ _ (by decide) (by decide) h2⟩
  | .step s r (some o), b, h => by obtain ⟨b', ob, h1, h2, h3⟩ := h; exact ⟨b', ob, h1.fr hf, hf.keep _ _ _ (by decide) (by decide) h2, hf.keep _ _ _ (by decide) (by decide) h3⟩

/-! The plain search. -/
structure Srch where
  rows : List RowC
  next : Nat
  seen : List Spots
  found : Option RowC
  full : Bool
def reachS (p : PlantD) (g : List LitD) (st : Srch) (r : RowC) : Bool × Srch :=
  if inSet st.seen r.at_ then (true, st)
  else if st.seen.length = 20000 then (false, { st with full := true })
  else if reachedB p r.at_ g then (false, { st with seen := st.seen ++ [r.at_], found := some r })
  else (true, { st with seen := st.seen ++ [r.at_], rows := st.rows ++ [r] })
def try1S (p : PlantD) (g : List LitD) (r : RowC) (v : Nat) (o : Bool) (st : Srch) : Bool × Srch :=
  if safeB p (wantB r.at_ v o) && !(sameSp (wantB r.at_ v o) r.at_) then reachS p g st (.step (wantB r.at_ v o) r (some ⟨v, o⟩)) else (true, st)
/-- n orders from the q-th on: 2 v closes valve v, 2 v + 1 opens it. -/
def trysS (p : PlantD) (g : List LitD) (r : RowC) : Nat → Nat → Srch → Bool × Srch
  | 0, _, st => (true, st)
  | n + 1, q, st => if (try1S p g r (q / 2) (q % 2 == 1) st).1 then trysS p g r n (q + 1) (try1S p g r (q / 2) (q % 2 == 1) st).2 else (false, (try1S p g r (q / 2) (q % 2 == 1) st).2)
def followS (p : PlantD) (g : List LitD) (r : RowC) (st : Srch) : Bool × Srch :=
  if (trysS p g r (2 * p.valves.length) 0 st).1 then reachS p g (trysS p g r (2 * p.valves.length) 0 st).2 (.step (movedB p r.at_ fun _ => false) r none) else (false, (trysS p g r (2 * p.valves.length) 0 st).2)
def loopS (p : PlantD) (g : List LitD) : Nat → Bool → Srch → Srch
  | 0, _, st => st
  | n + 1, more, st =>
    if more then
      match st.rows[st.next]? with
      | none => st
      | some r => loopS p g n (followS p g r { st with next := st.next + 1 }).1 (followS p g r { st with next := st.next + 1 }).2
    else st
def srch0 : Srch := ⟨[], 0, [], none, false⟩
def pathS (p : PlantD) (g : List LitD) : Srch := loopS p g 20002 (reachS p g srch0 (.root (firstB p))).1 (reachS p g srch0 (.root (firstB p))).2
def pathB (p : PlantD) (g : List LitD) : List LitD × Int :=
  if plantB p && litsOk p.valves.length g 16 then
    match (pathS p g).found with
    | some r => (r.back.reverse, 0)
    | none => if (pathS p g).full then ([], 3) else ([], 7)
  else ([], 2)
end Go.Proofs.Ytogobjmmgjfjjaa
