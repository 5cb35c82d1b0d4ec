/- What is proved: the texts Q2 R9 Ra Rb Rc, one behind the other; each says at its head what it proves, and under which conditions. -/
import Derived.Outline
import Derived.StillTailTactics
import Derived.Deep.CutBlock
import Derived.Deep.DeepCutAuto
import Derived.Test.YtogobjmmgjfjjaaGreatdPPaths6
/- What is proved: a rule for a region whose order is drawn, in which all is read, then one call makes memory, then one store turns old memory: one walk in the order of the text. Conditions: those that the rule states. -/
namespace Go.Proofs.YtogobjmmgjfjjaaGreat
open Go.RowKit
section
variable {P : Program} {l : List Oper} {ops : Array Oper} {C : World → Prop}
end
end Go.Proofs.YtogobjmmgjfjjaaGreat
/- What is proved: contracts of ullageref07's Pressure, Number, open. Conditions: the plant and the state lie in memory; the state's numbers are a system's. -/
namespace Go.Proofs.YtogobjmmgjfjjaaGreat
open Go.RowKit
end Go.Proofs.YtogobjmmgjfjjaaGreat
/- What is proved: a contract of ullageref07's open. Conditions: the plant and the state lie in memory; the line's valves are the plant's. -/
namespace Go.Proofs.YtogobjmmgjfjjaaGreat
open Go.RowKit
end Go.Proofs.YtogobjmmgjfjjaaGreat
/- What is proved: how a state of ullageref07 in a function's own box is kept from update to update. Conditions: those that each lemma states. -/
namespace Go.Proofs.YtogobjmmgjfjjaaGreat
open Go.RowKit

/-- The state S' in the box behind the plant's, the plant, and other boxes; q boxes in all. -/
structure StR [Exc] (w : World) (x : PV) (q : Nat) (Ex : List (Nat × TypeId × Array Value)) (wr : World) (S' : Sys) : Prop where
  st : ∃ R, Bk wr (w.heap.size + 1) 53 (SysA R S') ∧ RefB wr w.heap.size (w.heap.size + q) R S'
  pl : Bk wr w.heap.size 27 (plantA x S'.p)
  ex : ∀ e ∈ Ex, e.1 ≠ 1 ∧ e.1 < q ∧ Bk wr (w.heap.size + e.1) e.2.1 e.2.2
  plant : PlantAt wr w.heap.size x S'.p
  below : Below w.heap.size w wr
  size : w.heap.size + q ≤ wr.heap.size
  two : 2 ≤ q
section
variable {w wr w1 : World} {x : PV} {q : Nat} {Ex : List (Nat × TypeId × Array Value)} {S' S2 : Sys}
theorem StR.later [Exc] (h : StR w x q Ex wr S') (hb : Below wr.heap.size wr w1) : StR w x q Ex w1 S' := by
  obtain ⟨R, h1, h2⟩ := h.st
  have hs := h.size
  have ht := h.two
  exact ⟨⟨R, h1.below hb h1.lt, h2.below hb⟩, h.pl.below hb h.pl.lt, fun e he => ⟨(h.ex e he).1, (h.ex e he).2.1, (h.ex e he).2.2.below hb (h.ex e he).2.2.lt⟩, h.plant.below (hb.mono (by omega)), h.below.trans (hb.mono (by omega)), by have := hb.size; omega, ht⟩
theorem StR.step [Exc] (h : StR w x q Ex wr S') {R : RX} (h1 : Bk wr (w.heap.size + 1) 53 (SysA R S')) (h2 : RefB wr w.heap.size (w.heap.size + q) R S') (hb : Below wr.heap.size wr w1) {k : Nat} (hk : k < 9) {A : Option Addr} (c : Nat) {n : Nat} (hn : lenR S'.p k = n)
    (hA : SlD w1 (fun b => wr.heap.size ≤ b ∧ b < w1.heap.size) 1 A n fun i _ => valR S2 k i) (hp : S2.p = S'.p) (hv : ∀ j, j < 9 → j ≠ k → ∀ i, valR S2 j i = valR S' j i) :
    StR w x q Ex (w1.setCell ⟨w.heap.size + 1, k, none⟩ (.slice A n c)) S2 := by
  subst hn
  have hs := h.size
  have ht := h.two
  have hst := RefB.step h2 hs h1 (by omega) (by omega) hb hk c (S' := S2) hA hp hv
  have hO := Only.setCell w1 (w.heap.size + 1) k (.slice A (lenR S'.p k) c)
  have hbx : Below w.heap.size wr (w1.setCell ⟨w.heap.size + 1, k, none⟩ (.slice A (lenR S'.p k) c)) := (hb.mono (by omega)).trans (hO.below (by omega))
  refine ⟨⟨_, hst.1, hst.2⟩, ?_, fun e he => ?_, ?_, h.below.trans hbx, by rw [hO.size]; have := hb.size; omega, ht⟩
  · rw [hp]; exact (h.pl.below hb h.pl.lt).only hO (by omega)
  · obtain ⟨e1, e2, e3⟩ := h.ex e he
    exact ⟨e1, e2, (e3.below hb e3.lt).only hO (by omega)⟩
  · rw [hp]; exact h.plant.below hbx
end
theorem StR.upd [Exc] {w W : World} {x : PV} {q : Nat} {Ex : List (Nat × TypeId × Array Value)} {S1 : Sys} {k n idx : Nat} (h : StR w x q Ex W S1) (hk : k < 9) (hn : lenR S1.p k = n) (hidx : idx < n) (hlen : n ≤ 4096) (F : Nat → Int) (hF : ∀ i, valR S1 k i = .int .i64 (F i)) :
    ∃ b o c, W.cell? ⟨w.heap.size + 1, k, none⟩ = some (.slice (some ⟨b, o, none⟩) n c) ∧ W.cell? ⟨b, o + idx, none⟩ = some (.int .i64 (F idx)) ∧
      ∀ V S2, S2.p = S1.p → (∀ j, j < 9 → j ≠ k → ∀ i, valR S2 j i = valR S1 j i) → (∀ i, valR S2 k i = .int .i64 (if i = idx then V else F i)) →
        Calls Tryz.prog 113 #[.slice (some ⟨b, o, none⟩) n c, .int .i64 idx, .int .i64 V] W.drew fun e w1 => ∃ A' c', e = .returned (.slice A' n c') ∧ Below W.heap.size W w1 ∧ w1.cell? ⟨w.heap.size + 1, k, none⟩ = some (.slice (some ⟨b, o, none⟩) n c) ∧
          w1.frozen? ⟨w.heap.size + 1, k, none⟩ = false ∧ StR w x q Ex (w1.setCell ⟨w.heap.size + 1, k, none⟩ (.slice A' n c')) S2 := by
  subst hn
  obtain ⟨R, h1, h2⟩ := h.st
  have hl0 := h2.at_ k hk
  obtain ⟨b, o, hA, hB, hd⟩ := hl0.at1v hidx
  have hcell : W.cell? ⟨w.heap.size + 1, k, none⟩ = some (.slice (some ⟨b, o, none⟩) (lenR S1.p k) (R.c k)) := by rw [← hA]; exact (h1.cell k).trans (SysA_get R S1 k hk)
  refine ⟨b, o, R.c k, hcell, by rw [hd, hF], fun V S2 hp hv hV => ?_⟩
  have hdr : Below W.heap.size W W.drew := (Below.refl _ _).drew
  have hl : Sl W.drew W.drew.heap.size 1 (some ⟨b, o, none⟩) (lenR S1.p k) fun i _ => .int .i64 (F i) := by
    rw [← hA]
    have := Sl.below hl0.sl hdr
    exact ⟨this.1, fun h0 => by obtain ⟨b', o', e, g1, g2⟩ := this.2 h0; exact ⟨b', o', e, g1, fun i hi j hj => (g2 i hi j hj).trans (congrArg some (hF i))⟩⟩
  refine (rwith_any W.drew _ (lenR S1.p k) (R.c k) F hl hlen idx hidx V).mono ?_
  rintro e w1 ⟨A', c', rfl, hs, hb⟩
  have hb' : Below W.heap.size W w1 := hdr.trans hb
  have hbk := h1.below hb' h1.lt
  refine ⟨A', c', rfl, hb', by rw [hb'.cell (p := ⟨w.heap.size + 1, k, none⟩) h1.lt]; exact hcell, hbk.free k, ?_⟩
  exact h.step h1 h2 hb' hk c' rfl (hs.congr fun i _ j _ => (hV i).symm) hp hv
end Go.Proofs.YtogobjmmgjfjjaaGreat
/- What is proved: a contract of ullageref07.carry. Conditions: the plant and the state lie in memory; the state is a system's. -/
namespace Go.Proofs.YtogobjmmgjfjjaaGreat
open Go.RowKit
end Go.Proofs.YtogobjmmgjfjjaaGreat
