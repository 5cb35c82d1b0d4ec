/- What is proved: the texts U1 U2 U3 U4 U5, one behind the other; each says at its head what it proves, and under which conditions. -/
import Derived.Deep.RegionHeld3
import Derived.StillTailTactics
import Derived.Test.YtogobjmmgjfjjaaGreatdPPaths8
/- What is proved: contracts of Carried, Lost, Vented of engine.System. Conditions: the system lies in memory. -/
namespace Go.Proofs.YtogobjmmgjfjjaaGreat
open Go.RowKit
theorem World.ownsRow.of_below {B : Nat} {e : TypeId} {size : Nat} {v : Value} {n : Nat} {xs : List Value} {w w' : World} (h : w.ownsRow B e size v n xs) (hb : Below w.heap.size w w') : w'.ownsRow B e size v n xs :=
  h.kept (row := none) ⟨hb.os, hb.tape, hb.output, hb.size, fun k hk _ => hb.block k hk⟩ (by cases hv : v.ownBlock <;> simp)
end Go.Proofs.YtogobjmmgjfjjaaGreat
/- What is proved: a contract of ullagelaw07.due. Conditions: the plant and the state lie in memory; the state is a system's. -/
namespace Go.Proofs.YtogobjmmgjfjjaaGreat
open Go.RowKit
theorem RefOne.back [Exc] {w : World} {S : Sys} {e : Ending} {w' : World} (h : RefOne w S e w') : ∃ R', e = .returned (.agg (SysA R' S)) ∧ RefAt w' w'.heap.size R' S ∧ Below w.heap.size w w' := h
end Go.Proofs.YtogobjmmgjfjjaaGreat
/- What is proved: a contract of ullagelaw07.alike: it answers true. Conditions: the system and the state lie in memory and are of the same plain system. -/
namespace Go.Proofs.YtogobjmmgjfjjaaGreat
open Go.RowKit
end Go.Proofs.YtogobjmmgjfjjaaGreat
/- What is proved: how a system and the document's state lie side by side in a law. Conditions: those that each lemma states. -/
namespace Go.Proofs.YtogobjmmgjfjjaaGreat
open Go.RowKit

/-- The blocks of a system in which no list of a state lies. -/
@[reducible] def SX.exc (X : SX) : Exc := ⟨fun b => (b = X.sb ∨ b = X.tb ∨ b = X.cb) ∧ b < X.hi, X.hi, fun _ h => h.2⟩
/-- A system S, and a state of T in the box sx. -/
structure Side (W : World) (X : SX) (sx : Nat) (p : PlantD) (wr : World) (S T : Sys) : Prop where
  sys : SysAt wr X S
  st : ∃ R, Bk wr sx 53 (SysA R T) ∧ @RefB X.exc wr sx (sx + 1) R T
  below : Below W.heap.size W wr
  hp : S.p = p
  tp : T.p = p
  lo : W.heap.size ≤ X.lo
  hi : X.hi ≤ sx
section
variable {W wr w1 wf : World} {X : SX} {sx : Nat} {p : PlantD} {S T S' T' : Sys}
theorem Side.later (h : Side W X sx p wr S T) (hb : Below wr.heap.size wr w1) : Side W X sx p w1 S T := by
  obtain ⟨R, h1, h2⟩ := h.st
  letI : Exc := X.exc
  exact ⟨h.sys.below hb, ⟨R, h1.below hb h1.lt, RefB.below h2 hb⟩, h.below.trans (hb.mono h.below.size), h.hp, h.tp, h.lo, h.hi⟩
theorem Side.wlt (h : Side W X sx p wr S T) : W.heap.size ≤ sx := by
  have := h.sys.lo; have := h.sys.hi; have := h.lo; have := h.hi; omega
theorem Side.does (h : Side W X sx p wr S T) (hs : SysAt w1 X S') (hc : Chg X wr w1) (hp : S'.p = S.p) : Side W X sx p w1 S' T := by
  letI : Exc := X.exc
  obtain ⟨R, h1, h2⟩ := h.st
  have l := h.sys.lo; have u := h.sys.hi; have l2 := h.lo; have u2 := h.hi; have l1 := h1.lt; have hsz := h.below.size; have hcs := hc.size
  refine ⟨hs, ⟨R, (hc.block sx l1 (by omega) (by omega) (by omega)).trans h1, h2.1, fun k hk => ?_⟩, h.below.trans (hc.below hsz (by omega) (by omega) (by omega)), hp.trans h.hp, h.tp, h.lo, h.hi⟩
  have hk' : @SlO X.exc _ _ _ _ _ := h2.2 k hk
  refine ⟨⟨hk'.sl.1, fun hn => ?_⟩, Nat.le_trans hk'.top hcs, hk'.out⟩
  obtain ⟨b, off, e, hD, hcell⟩ := hk'.sl.2 hn
  have hne := hk'.out b off hn e
  refine ⟨b, off, e, ⟨hD.1, by omega⟩, fun i hi j hj => ?_⟩
  have hb3 : b ≠ X.sb ∧ b ≠ X.tb ∧ b ≠ X.cb := by
    refine ⟨?_, ?_, ?_⟩ <;> (rintro rfl; exact hne ⟨by simp, by omega⟩)
  exact (World.cell?_of_block (hc.block b hD.2 hb3.1 hb3.2.1 hb3.2.2)).trans (hcell i hi j hj)
theorem RefAt.box {R R0 : RX} {nb a b c : Nat} (hr : @RefAt X.exc w1 w1.heap.size R T) (ht : X.hi ≤ nb + 1) (hb : Bk w1 nb 53 (refA R0 a b c)) (ho : Only nb w1 wf) : @RefB X.exc wf nb (nb + 1) R T := by
  letI : Exc := X.exc
  refine RefB.only (RefAt.refB (lo := nb) (q := 1) hr ht fun b' g1 g2 j u hu => ?_) ho (by omega) (by omega)
  obtain rfl : b' = nb := by omega
  rw [hb.cell] at hu; exact refA_slices _ _ _ _ _ _ hu
theorem Side.store {R' : RX} (h : Side W X sx p wr S T) (hb : Below wr.heap.size wr w1) (hr : @RefAt X.exc w1 w1.heap.size R' T') (hp : T'.p = T.p) (hk : Bk wf sx 53 (SysA R' T')) (ho : Only sx w1 wf) : Side W X sx p wf S T' := by
  letI : Exc := X.exc
  have h1 := h.later hb
  obtain ⟨R, g1, g2⟩ := h1.st
  have u2 := h.hi; have hw := h.wlt
  refine ⟨h1.sys.keep (fun b _ hh => ho.block b (by omega)) (by rw [ho.size]; exact Nat.le_refl _), ⟨R', hk, RefAt.box hr (by omega) g1 ho⟩, h1.below.trans (ho.below hw), h.hp, hp.trans h.tp, h.lo, h.hi⟩
/-- The cells of a state of the plant p. -/
def RA (p : PlantD) (R : RX) : Array Value := refA R p.tanks.length p.valves.length p.lines.length
theorem RA_one (p : PlantD) (R : RX) : ∀ u ∈ (RA p R).toList, u.oneCell' = true := refA_one _ _ _ _
theorem RA_size (p : PlantD) (R : RX) : (RA p R).size = 9 := refA_size _ _ _ _
def Boxy (w : World) (nb : Nat) : Prop := ∃ R0 a b c, Bk w nb 53 (refA R0 a b c)
theorem Boxy.only {w w' : World} {g nb a b c : Nat} {R0 : RX} (h : Boxy w nb) (ho : Only g w w') (hg : Bk w' g 53 (refA R0 a b c)) : Boxy w' nb := by
  by_cases e : nb = g
  · subst e; exact ⟨_, _, _, _, hg⟩
  · obtain ⟨R1, a1, b1, c1, hb⟩ := h; exact ⟨_, _, _, _, hb.only ho e⟩
/-- What an operation does to the world: m stores a state into a box, the others make memory. -/
def SideE (X : SX) (T : Sys) (m j : Nat) (w1 w2 : World) : Prop :=
  (j ≠ m → Below w1.heap.size w1 w2) ∧ (j = m → (∀ R', @RefAt X.exc w1 w1.heap.size R' T → @RefAt X.exc w2 w2.heap.size R' T) ∧ ∀ nb, Boxy w1 nb → Boxy w2 nb)
/-- What is left by the operations of 'next, f := due(p, w, a)'. -/
def SideR (X : SX) (p : PlantD) (E : Int) (T : Sys) (wr : World) (ix : Nat) (u : Value) (d : Nat → Value) (w1 : World) : Prop :=
  (ix = 6 ∨ ix = 7 → ∃ R', u = .tuple #[.agg (RA p R'), .int .i64 E] ∧ @RefAt X.exc w1 w1.heap.size R' T) ∧ (ix = 8 → ∃ R', u = .agg (RA p R') ∧ @RefAt X.exc w1 w1.heap.size R' T) ∧
  (ix = 10 → ∃ nb, u = .pointer (some ⟨nb, 0, none⟩) ∧ wr.heap.size ≤ nb ∧ Boxy w1 nb) ∧
  (ix = 11 → ∃ R' nb, d 10 = .pointer (some ⟨nb, 0, none⟩) ∧ d 8 = .agg (RA p R') ∧ wr.heap.size ≤ nb ∧ Bk w1 nb 53 (RA p R'))
theorem SideR.keep {w2 : World} {E : Int} {i j : Nat} {u : Value} {d : Nat → Value} (hij : i ≠ j) (h : SideR X p E T wr i u d w1) (he : SideE X T 11 j w1 w2) : SideR X p E T wr i u d w2 := by
  letI : Exc := X.exc
  obtain ⟨h1, h2, h3, h4⟩ := h
  by_cases hj : j = 11
  · obtain ⟨k1, k2⟩ := he.2 hj
    refine ⟨fun e => ?_, fun e => ?_, fun e => ?_, fun e => absurd (e.trans hj.symm) hij⟩
    · obtain ⟨R', a, b⟩ := h1 e; exact ⟨R', a, k1 R' b⟩
    · obtain ⟨R', a, b⟩ := h2 e; exact ⟨R', a, k1 R' b⟩
    · obtain ⟨nb, a, b, c⟩ := h3 e; exact ⟨nb, a, b, k2 nb c⟩
  · have hb := he.1 hj
    refine ⟨fun e => ?_, fun e => ?_, fun e => ?_, fun e => ?_⟩
    · obtain ⟨R', a, b⟩ := h1 e; exact ⟨R', a, (RefAt.below b hb).mono hb.size⟩
    · obtain ⟨R', a, b⟩ := h2 e; exact ⟨R', a, (RefAt.below b hb).mono hb.size⟩
    · obtain ⟨nb, a, b, R1, a1, b1, c1, c⟩ := h3 e; exact ⟨nb, a, b, R1, a1, b1, c1, c.below hb c.lt⟩
    · obtain ⟨R', nb, a, b, c, d'⟩ := h4 e; exact ⟨R', nb, a, b, c, d'.below hb d'.lt⟩
theorem SideE.same (w : World) {j : Nat} (hj : j ≠ 11) : SideE X T 11 j w w := ⟨fun _ => Below.refl _ _, fun h => absurd h hj⟩
theorem SideE.below {w w' : World} {j : Nat} (hj : j ≠ 11) (hb : Below w.heap.size w w') : SideE X T 11 j w w' := ⟨fun _ => hb, fun h => absurd h hj⟩
theorem SideE.store {w w' : World} {nb a b c a' b' c' : Nat} {R0 R1 : RX} (ht : X.hi ≤ nb + 1) (h : Bk w nb 53 (refA R0 a b c)) (ho : Only nb w w') (h' : Bk w' nb 53 (refA R1 a' b' c')) : SideE X T 11 11 w w' := by
  letI : Exc := X.exc
  exact ⟨fun e => absurd rfl e, fun _ => ⟨fun R' hr => RefB.at_ (RefAt.box hr ht h ho), fun n hn => hn.only ho h'⟩⟩
theorem Side.start {R : RX} {nb a b c : Nat} {R0 : RX} {w4 : World} (hs : SysAt w4 X S) (hlo : W.heap.size ≤ X.lo) (hb : Below W.heap.size W w4) (hr : @RefAt X.exc w4 w4.heap.size R T) (hp : S.p = p) (ht : T.p = p)
    (hn : nb = w4.heap.size) (hk : Bk wf nb 53 (SysA R T)) (ho : Only nb (w4.alloc (.cells (refA R0 a b c) 53)) wf) : Side W X nb p wf S T := by
  letI : Exc := X.exc
  subst hn
  have hal : Below w4.heap.size w4 (w4.alloc (.cells (refA R0 a b c) 53)) := (Below.refl _ _).alloc (Nat.le_refl _) _
  have h5 := hs.hi.2.2.2.2
  have hsz := hb.size
  have hr1 := (RefAt.below hr hal).mono hal.size
  exact ⟨(hs.below hal).keep (fun b _ hh => ho.block b (by omega)) (by rw [ho.size]; exact Nat.le_refl _), ⟨R, hk, RefAt.box hr1 (by omega) (Bk.new _ _ _) ho⟩, (hb.trans (hal.mono hsz)).trans (ho.below hsz), hp, ht, hlo, h5⟩
end
end Go.Proofs.YtogobjmmgjfjjaaGreat
/- What is proved: the law EnginePlays answers true. Conditions: the plant and the acts lie in memory. -/
namespace Go.Proofs.YtogobjmmgjfjjaaGreat
open Go.RowKit
end Go.Proofs.YtogobjmmgjfjjaaGreat
