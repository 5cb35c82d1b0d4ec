/- What is proved: the texts Re Rg Rh Ri, one behind the other; each says at its head what it proves, and under which conditions. -/
import Derived.StillTailTactics
import Derived.Deep.CutBlock
import Derived.Deep.DeepCutAuto
import Derived.Test.YtogobjmmgjfjjaaGreatdPPaths7
/- What is proved: the ways through ullageref07.carry of a line for liquid. Conditions: the plant and the state lie in memory; the state is a system's. -/
namespace Go.Proofs.YtogobjmmgjfjjaaGreat
open Go.RowKit
end Go.Proofs.YtogobjmmgjfjjaaGreat
/- What is proved: a contract of ullageref07.carry. Conditions: the plant and the state lie in memory; the state is a system's. -/
namespace Go.Proofs.YtogobjmmgjfjjaaGreat
open Go.RowKit

theorem short_of {p : PlantD} (h : plantB p = true) : Short p := by
  have := plantB_lens h
  exact ⟨by omega, by omega, by omega⟩
end Go.Proofs.YtogobjmmgjfjjaaGreat
/- What is proved: all leaks and then all vents is each tank's leak and vent in turn; how a whole state is stored into its box. Conditions: those that each lemma states. -/
namespace Go.Proofs.YtogobjmmgjfjjaaGreat
open Go.RowKit
theorem SysOk.carry {S : Sys} (ok : SysOk S) (i : Nat) (hi : i < S.p.lines.length) : SysOk (carryB S i) := by
  obtain ⟨u1, u2, u3, u4, u5, u6, hs, hd, us, ud, une, uf1, uf2⟩ := much_ok ok i hi
  have key : SysOk (flowB S (S.p.line i)) := by
    unfold flowB
    simp only
    generalize much2 S (S.p.line i) = m2 at *
    generalize much1 S (S.p.line i) = m1 at *
    generalize S.p.line i = L at *
    by_cases h1 : 0 ≤ L.dst
    · rw [if_pos h1]
      have h6 := u6 h1
      have b2 := numB_ok ok L.gas L.dst.toNat hd
      have ok1 := addN_ok ok L.gas L.dst.toNat hd m2 (by omega) (by omega)
      by_cases h2 : 0 ≤ L.src
      · rw [if_pos h2]
        have h5 := u5 h2
        have b1 := numB_ok ok L.gas L.src.toNat hs
        have e : numB (addN S L.gas L.dst.toNat m2) L.gas L.src.toNat = numB S L.gas L.src.toNat := by rw [addN_num, if_neg (by omega)]
        exact addN_ok ok1 L.gas L.src.toNat hs (-m2) (by rw [e]; omega) (by rw [e]; show _ ≤ mostB S _ _; omega)
      · rw [if_neg h2]; exact ok1
    · rw [if_neg h1]
      by_cases h2 : 0 ≤ L.src
      · rw [if_pos h2]
        have h5 := u5 h2
        have b1 := numB_ok ok L.gas L.src.toNat hs
        exact addN_ok ok L.gas L.src.toNat hs (-m2) (by omega) (by omega)
      · rw [if_neg h2]; exact ok
  exact ⟨key.valid, key.spots, key.safe, key.tanks⟩
theorem SysOk.move {S : Sys} (ok : SysOk S) : SysOk S.move := ⟨ok.valid, movedB_ok ok.spots _, safeB_moved _ ok.safe, ok.tanks⟩
theorem SysOk.linesK {S : Sys} (ok : SysOk S) : ∀ k, k ≤ S.p.lines.length → SysOk (linesK S k)
  | 0, _ => ok
  | k + 1, h => by
    have ih := SysOk.linesK ok k (by omega)
    unfold Go.Proofs.YtogobjmmgjfjjaaGreat.linesK
    split
    · exact ih.carry k (by rw [linesK_p]; omega)
    · exact ih
theorem valR_kind (S : Sys) (k i : Nat) : (∃ n, valR S k i = .int .i64 n) ∨ ∃ b, valR S k i = .bool b := by
  match k with
  | 0 => exact .inl ⟨_, rfl⟩
  | 1 => exact .inl ⟨_, rfl⟩
  | 2 => exact .inl ⟨_, rfl⟩
  | 3 => exact .inr ⟨_, rfl⟩
  | 4 => exact .inr ⟨_, rfl⟩
  | 5 => exact .inl ⟨_, rfl⟩
  | 6 => exact .inl ⟨_, rfl⟩
  | 7 => exact .inl ⟨_, rfl⟩
  | n + 8 => exact .inl ⟨_, rfl⟩
/-- The boxes hold slices alone: no list of numbers lies in one. -/
theorem RefAt.refB [Exc] {w1 : World} {lo q : Nat} {R : RX} {S' : Sys} (h : RefAt w1 w1.heap.size R S') (ht : Exc.top ≤ lo + q) (hbox : ∀ b, lo ≤ b → b < lo + q → ∀ j u, w1.cell? ⟨b, j, none⟩ = some u → ∃ A n c, u = .slice A n c) : RefB w1 lo (lo + q) R S' := ⟨ht, fun k hk => by
  have hk' := (h k hk).sl
  refine ⟨⟨hk'.1, fun h0 => ?_⟩, (h k hk).top, (h k hk).out⟩
  obtain ⟨b, off, e, hB, hc⟩ := hk'.2 h0
  refine ⟨b, off, e, ⟨?_, hB⟩, hc⟩
  rcases Nat.lt_or_ge b lo with h1 | h1
  · exact Or.inl h1
  · rcases Nat.lt_or_ge b (lo + q) with h2 | h2
    · exfalso
      obtain ⟨A, n, c, e2⟩ := hbox b h1 h2 _ _ (hc 0 h0 0 (by omega))
      have e2' : valR S' k 0 = .slice A n c := e2
      rcases valR_kind S' k 0 with ⟨m, e3⟩ | ⟨m, e3⟩ <;> (rw [e3] at e2'; cases e2')
    · exact Or.inr h2⟩
theorem plantA_slices (x : PV) (p : PlantD) : ∀ (j : Nat) u, (plantA x p)[j]? = some u → ∃ A n c, u = .slice A n c := by
  intro j u h
  match j with
  | 0 => simp [plantA] at h; exact ⟨_, _, _, h.symm⟩
  | 1 => simp [plantA] at h; exact ⟨_, _, _, h.symm⟩
  | 2 => simp [plantA] at h; exact ⟨_, _, _, h.symm⟩
  | 3 => simp [plantA] at h; exact ⟨_, _, _, h.symm⟩
  | j + 4 => simp [plantA] at h
theorem refA_slices (R : RX) (a b c : Nat) : ∀ (j : Nat) u, (refA R a b c)[j]? = some u → ∃ A n c, u = .slice A n c := by
  intro j u h
  match j with
  | 0 => simp [refA] at h; exact ⟨_, _, _, h.symm⟩
  | 1 => simp [refA] at h; exact ⟨_, _, _, h.symm⟩
  | 2 => simp [refA] at h; exact ⟨_, _, _, h.symm⟩
  | 3 => simp [refA] at h; exact ⟨_, _, _, h.symm⟩
  | 4 => simp [refA] at h; exact ⟨_, _, _, h.symm⟩
  | 5 => simp [refA] at h; exact ⟨_, _, _, h.symm⟩
  | 6 => simp [refA] at h; exact ⟨_, _, _, h.symm⟩
  | 7 => simp [refA] at h; exact ⟨_, _, _, h.symm⟩
  | 8 => simp [refA] at h; exact ⟨_, _, _, h.symm⟩
  | j + 9 => simp [refA] at h
/-- The one box besides, of a function that hands back a state. -/
def resEx : List (Nat × TypeId × Array Value) := [(2, 53, refA nilR 0 0 0)]
theorem StR.store [Exc] {w W w1 wf : World} {x : PV} {S1 S2 : Sys} {R' : RX} (h : StR w x 3 resEx W S1) (hb : Below W.heap.size W w1) (hr : RefAt w1 w1.heap.size R' S2) (hp : S2.p = S1.p)
    (hk : Bk wf (w.heap.size + 1) 53 (SysA R' S2)) (ho : Only (w.heap.size + 1) w1 wf) : StR w x 3 resEx wf S2 := by
  have h1 := h.later hb
  obtain ⟨R, r1, r2⟩ := h1.st
  have he := (h1.ex (2, 53, refA nilR 0 0 0) (by simp [resEx])).2.2
  have hs := h1.size
  have hB : RefB w1 w.heap.size (w.heap.size + 3) R' S2 := hr.refB r2.1 fun b g1 g2 j u hu => by
    have hcase : b = w.heap.size ∨ b = w.heap.size + 1 ∨ b = w.heap.size + 2 := by omega
    rcases hcase with rfl | rfl | rfl
    · rw [h1.pl.cell] at hu; exact plantA_slices _ _ _ _ hu
    · rw [r1.cell] at hu; exact refA_slices _ _ _ _ _ _ hu
    · rw [he.cell] at hu; exact refA_slices _ _ _ _ _ _ hu
  refine ⟨⟨R', hk, hB.only ho (by omega) (by omega)⟩, ?_, fun e hin => ?_, ?_, h1.below.trans (ho.below (by omega)), by rw [ho.size]; exact hs, h.two⟩
  · rw [hp]; exact h1.pl.only ho (by omega)
  · obtain ⟨e1, e2, e3⟩ := h1.ex e hin
    exact ⟨e1, e2, e3.only ho (by omega)⟩
  · rw [hp]; exact h1.plant.below (ho.below (by omega))
theorem StR.start [Exc] {w : World} {x : PV} {R : RX} {S : Sys} (hp : PlantAt w w.heap.size x S.p) (hr : RefAt w w.heap.size R S) {W0 : World} (hW : W0 = ((w.alloc (.cells (plantA x S.p) 27)).alloc (.cells (SysA R S) 53)).alloc (.cells (refA nilR 0 0 0) 53)) : StR w x 3 resEx W0 S := by
  have hbW : Below w.heap.size w W0 := by rw [hW]; exact (((Below.refl _ _).alloc (Nat.le_refl _) _).alloc (by simp) _).alloc (by simp; omega) _
  have hWs : W0.heap.size = w.heap.size + 3 := by rw [hW]; simp
  have hbk0 : Bk W0 w.heap.size 27 (plantA x S.p) := by rw [hW]; exact ((Bk.new _ _ _).alloc _).alloc _
  have hbk1 : Bk W0 (w.heap.size + 1) 53 (SysA R S) := by rw [hW]; exact (Bk.newAt _ _ _ _ (by simp)).alloc _
  have hbk2 : Bk W0 (w.heap.size + 2) 53 (refA nilR 0 0 0) := by rw [hW]; exact Bk.newAt _ _ _ _ (by simp)
  exact ⟨⟨R, hbk1, RefB.start hr hbW hWs⟩, hbk0, fun e he => by
    simp only [resEx, List.mem_cons, List.not_mem_nil, or_false] at he
    subst he
    exact ⟨by show 2 ≠ 1; omega, by show 2 < 3; omega, hbk2⟩, hp.below hbW, hbW, by omega, by omega⟩
end Go.Proofs.YtogobjmmgjfjjaaGreat
/- What is proved: a contract of ullageref07.Tick. Conditions: the plant and the state lie in memory; the state is a system's. -/
namespace Go.Proofs.YtogobjmmgjfjjaaGreat
open Go.RowKit
theorem StR.look [Exc] {w wr : World} {x : PV} {q : Nat} {Ex : List (Nat × TypeId × Array Value)} {S1 : Sys} {k n idx : Nat} (h : StR w x q Ex wr S1) (hk : k < 9) (hn : lenR S1.p k = n) (hidx : idx < n) :
    ∃ b o c, wr.cell? ⟨w.heap.size + 1, k, none⟩ = some (.slice (some ⟨b, o, none⟩) n c) ∧ wr.cell? ⟨b, o + idx, none⟩ = some (valR S1 k idx) := by
  subst hn
  obtain ⟨R, h1, h2⟩ := h.st
  obtain ⟨b, o, hA, hB, hd⟩ := (h2.at_ k hk).at1v hidx
  exact ⟨b, o, R.c k, by rw [← hA]; exact (h1.cell k).trans (SysA_get R S1 k hk), hd⟩
end Go.Proofs.YtogobjmmgjfjjaaGreat
