/- What is proved: the texts W4 W5, one behind the other; each says at its head what it proves, and under which conditions. -/
import Derived.Test.YtogobjmmgjfjjaaGreatdPPaths11
/- What is proved: contracts of the document's kept and Disorders. Conditions: the plant, the state, what goes wrong lie in memory. -/
namespace Go.Proofs.YtogobjmmgjfjjaaGreat
open Go.RowKit
end Go.Proofs.YtogobjmmgjfjjaaGreat
/- What is proved: how a state is kept in a function's own box among boxes of any kind; what is left by the operations of 's, _ = f(p, s, ..)'. Conditions: those that each lemma states. -/
namespace Go.Proofs.YtogobjmmgjfjjaaGreat
open Go.RowKit

/-- The blocks in which no list of a state lies, and q boxes from lo on besides. -/
@[reducible] def excB (E : Exc) (lo q : Nat) : Exc := ⟨fun b => E.ex b ∨ (lo ≤ b ∧ b < lo + q), max E.top (lo + q), fun b hb => by
  rcases hb with hb | hb
  · have := E.lt b hb; omega
  · omega⟩
/-- A store into one of the boxes. -/
theorem RefAt.stay {E : Exc} {w1 w2 : World} {lo q g : Nat} {R : RX} {S : Sys} (h : @RefAt (excB E lo q) w1 w1.heap.size R S) (ho : Only g w1 w2) (h1 : lo ≤ g) (h2 : g < lo + q) : @RefAt (excB E lo q) w2 w2.heap.size R S := fun k hk => by
  have g1 := h k hk
  have g2 := @SlO.sl (excB E lo q) _ _ _ _ _ g1
  refine @SlO.mk (excB E lo q) w2 _ _ _ _ ⟨g2.1, fun hn => ?_⟩ (by rw [ho.size]; exact @SlO.top (excB E lo q) _ _ _ _ _ g1) (@SlO.out (excB E lo q) _ _ _ _ _ g1)
  obtain ⟨b, off, e, hD, hc⟩ := g2.2 hn
  have hne : b ≠ g := fun hh => @SlO.out (excB E lo q) _ _ _ _ _ g1 b off hn e (Or.inr (by omega))
  exact ⟨b, off, e, by rw [ho.size]; exact hD, fun i hi j hj => (World.cell?_of_block (ho.block b hne)).trans (hc i hi j hj)⟩

/-- A state of T in the box g of a function whose q boxes lie from lo on; other boxes. -/
structure StQ (E : Exc) (w0 : World) (lo q g : Nat) (p : PlantD) (Ex : List (Nat × TypeId × Array Value)) (wr : World) (T : Sys) : Prop where
  st : ∃ R, Bk wr g 53 (RA p R) ∧ @RefAt (excB E lo q) wr wr.heap.size R T
  tp : T.p = p
  below : Below lo w0 wr
  glo : lo ≤ g
  ghi : g < lo + q
  size : lo + q ≤ wr.heap.size
  ex : ∀ e ∈ Ex, e.1 ≠ g ∧ Bk wr e.1 e.2.1 e.2.2
theorem StQ.later {E : Exc} {w0 wr w1 : World} {lo q g : Nat} {p : PlantD} {Ex : List (Nat × TypeId × Array Value)} {T : Sys} (h : StQ E w0 lo q g p Ex wr T) (hb : Below wr.heap.size wr w1) : StQ E w0 lo q g p Ex w1 T := by
  obtain ⟨R, h1, h2⟩ := h.st
  have hs := h.size
  letI : Exc := excB E lo q
  exact ⟨⟨R, h1.below hb h1.lt, (RefAt.below h2 hb).mono hb.size⟩, h.tp, h.below.trans (hb.mono (by omega)), h.glo, h.ghi, by have := hb.size; omega, fun e he => ⟨(h.ex e he).1, (h.ex e he).2.below hb (h.ex e he).2.lt⟩⟩
theorem StQ.store {E : Exc} {w0 wr w1 w2 : World} {lo q g : Nat} {p : PlantD} {Ex : List (Nat × TypeId × Array Value)} {T T' : Sys} {R' : RX} (h : StQ E w0 lo q g p Ex wr T) (hb : Below wr.heap.size wr w1) (hr : @RefAt (excB E lo q) w1 w1.heap.size R' T') (hp : T'.p = p)
    (hk : Bk w2 g 53 (RA p R')) (ho : Only g w1 w2) : StQ E w0 lo q g p Ex w2 T' := by
  have h1 := h.later hb
  exact ⟨⟨R', hk, hr.stay ho h.glo h.ghi⟩, hp, h1.below.trans (ho.below h.glo), h.glo, h.ghi, by rw [ho.size]; exact h1.size, fun e he => ⟨(h1.ex e he).1, (h1.ex e he).2.only ho (h1.ex e he).1⟩⟩

/-- What an operation does to the world: m stores a state into the box, the others make memory. -/
def QE (E : Exc) (lo q : Nat) (T : Sys) (m j : Nat) (w1 w2 : World) : Prop :=
  (j ≠ m → Below w1.heap.size w1 w2) ∧ (j = m → ∀ R', @RefAt (excB E lo q) w1 w1.heap.size R' T → @RefAt (excB E lo q) w2 w2.heap.size R' T)
/-- What is left by the operations: c the call, s the state taken out of what it handed back. -/
def QR (E : Exc) (lo q : Nat) (p : PlantD) (e : Int) (T : Sys) (c s : Nat) (ix : Nat) (u : Value) (w1 : World) : Prop :=
  (ix = c ∨ ix = c + 1 → ∃ R', u = .tuple #[.agg (RA p R'), .int .i64 e] ∧ @RefAt (excB E lo q) w1 w1.heap.size R' T) ∧ (ix = s → ∃ R', u = .agg (RA p R') ∧ @RefAt (excB E lo q) w1 w1.heap.size R' T)
theorem QR.keep {E : Exc} {lo q : Nat} {p : PlantD} {T : Sys} {w1 w2 : World} {e : Int} {m i j c s : Nat} {u : Value} (h : QR E lo q p e T c s i u w1) (he : QE E lo q T m j w1 w2) : QR E lo q p e T c s i u w2 := by
  letI : Exc := excB E lo q
  obtain ⟨h1, h2⟩ := h
  by_cases hj : j = m
  · have k1 := he.2 hj
    refine ⟨fun e => ?_, fun e => ?_⟩
    · obtain ⟨R', a, b⟩ := h1 e; exact ⟨R', a, k1 R' b⟩
    · obtain ⟨R', a, b⟩ := h2 e; exact ⟨R', a, k1 R' b⟩
  · have hb := he.1 hj
    refine ⟨fun e => ?_, fun e => ?_⟩
    · obtain ⟨R', a, b⟩ := h1 e; exact ⟨R', a, (RefAt.below b hb).mono hb.size⟩
    · obtain ⟨R', a, b⟩ := h2 e; exact ⟨R', a, (RefAt.below b hb).mono hb.size⟩
theorem QE.same {E : Exc} {lo q : Nat} {T : Sys} {m : Nat} (w : World) {j : Nat} (hj : j ≠ m) : QE E lo q T m j w w := ⟨fun _ => Below.refl _ _, fun h => absurd h hj⟩
theorem QE.below {E : Exc} {lo q : Nat} {T : Sys} {m : Nat} {w w' : World} {j : Nat} (hj : j ≠ m) (hb : Below w.heap.size w w') : QE E lo q T m j w w' := ⟨fun _ => hb, fun h => absurd h hj⟩
theorem QE.store {E : Exc} {lo q g : Nat} {T : Sys} {m : Nat} {w w' : World} (h1 : lo ≤ g) (h2 : g < lo + q) (ho : Only g w w') : QE E lo q T m m w w' := ⟨fun e => absurd rfl e, fun _ _ hr => hr.stay ho h1 h2⟩
end Go.Proofs.YtogobjmmgjfjjaaGreat
