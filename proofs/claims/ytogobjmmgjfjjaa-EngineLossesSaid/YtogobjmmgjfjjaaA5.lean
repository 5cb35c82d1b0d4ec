/- What is proved: contracts of engine.lined, engine.literals. Conditions: the plant lies in memory as the plain data say. -/
import Derived.Test.YtogobjmmgjfjjaaA4
import Derived.Laws.EntriesVeiled
namespace Go.Proofs.Ytogobjmmgjfjjaa
open Go.RowKit

set_option maxRecDepth 100000 in
set_option maxHeartbeats 1000000 in
theorem lined_any (w : World) (x : PV) (p : PlantD) (h : PlantAt w w.heap.size x p) :
    Calls Try.prog 50 #[pval x p] w fun e w' => e = .returned (.bool (linedB p)) ∧ Below w.heap.size w w' := by
  have h0 := h
  obtain ⟨tA, tc, vA, vc, lA, lc, nA, nc, iA, ic, jA, jc⟩ := x
  have hnl : p.lines.length ≤ 9223372036854775807 := h.lines.1
  have hnt : p.tanks.length ≤ 9223372036854775807 := h.tanks.1
  have hnv : p.valves.length ≤ 9223372036854775807 := h.valves.1
  dsimp only [pval]
  let w1 := w.alloc (.cells #[.slice tA p.tanks.length tc, .slice vA p.valves.length vc, .slice lA p.lines.length lc, .slice nA p.never.length nc] 33)
  let w2 := w1.alloc (.cells #[.func (.func 74) #[] #[.pointer (some ⟨w.heap.size, 0, none⟩)]] 128)
  let w3 := w2.alloc (.cells #[.func (.func 75) #[] #[.pointer (some ⟨w.heap.size, 0, none⟩)]] 128)
  have hb : Below w.heap.size w w3 := (((Below.refl _ _).alloc (Nat.le_refl _) _).alloc (by simp) _).alloc (by simp; omega) _
  have hs3 : w3.heap.size = w.heap.size + 3 := by simp [w3, w2, w1]
  have HALL : Hid (Calls Try.prog 76 #[.slice lA p.lines.length lc, .func (.func 77) #[] #[.pointer (some ⟨w.heap.size + 1, 0, none⟩), .pointer (some ⟨w.heap.size + 2, 0, none⟩)]] w3
      fun e w' => e = .returned (.bool (allN p.lines.length fun i => lineOk p.tanks.length p.valves.length (p.line i))) ∧ Below w3.heap.size w3 w') := Lib.hid (by
    refine allLine w3 lA p.lines.length lc _ ((h0.lines.below hb).mono (by omega)) 77 _ (fun i => lineOk p.tanks.length p.valves.length (p.line i)) (fun args w => by kernel_rfl) ?_
    intro w' hw' i hi
    have hs := hw'.size
    have cell : ∀ b o, b < w.heap.size + 3 → w'.cell? ⟨b, o, none⟩ = w3.cell? ⟨b, o, none⟩ := fun b o hbo => hw'.cell (p := ⟨b, o, none⟩) (by simp; omega)
    exact lineOk_any w' (iA i) (ic i) (p.line i) ((Sl.below (Sl.below (h0.lv i hi) hb) (hw'.mono (by omega))).mono (by omega)) w.heap.size (w.heap.size + 1) (w.heap.size + 2) _ tc _ vc tA vA hnt hnv (by omega) (by omega) (by omega)
      (by rw [cell _ _ (by omega)]; simp only [w3, w2, w1]; go_simp) (by rw [cell _ _ (by omega)]; simp only [w3, w2, w1]; go_simp) (by rw [cell _ _ (by omega)]; simp only [w3, w2, w1]; go_simp) (by rw [cell _ _ (by omega)]; simp only [w3, w2, w1]; go_simp))
  clear h h0
  have HB := Lib.hid hb; clear hb
  have HS := Lib.hid hs3; clear hs3
  cases h1 : decide ((p.lines.length : Int) ≤ 32) with
  | false =>
    go_enter Try.func50, Try.ntmps50
    go_wp2_with fail
    go_ret
    exact ⟨ret_bool (by unfold linedB; rw [h1]; simp), HB.out⟩
  | true =>
    go_enter Try.func50, Try.ntmps50
    go_wp2_with fail
    refine HALL.out.mono ?_
    rintro e w' ⟨rfl, hb'⟩
    go_wp2_with fail
    go_ret
    exact ⟨ret_bool (by unfold linedB; rw [h1]; simp), HB.out.trans (hb'.mono (by rw [HS.out]; omega))⟩

set_option maxHeartbeats 1000000 in
theorem literals_any (w : World) (x : PV) (p : PlantD) (h : PlantAt w w.heap.size x p) (A : Option Addr) (c : Nat) (l : List LitD) (hl : LitsAt w w.heap.size A l) (most : Int) :
    Calls Try.prog 28 #[pval x p, .slice A l.length c, .int .i64 most] w fun e w' => e = .returned (.bool (litsOk p.valves.length l most)) ∧ Below w.heap.size w w' := by
  obtain ⟨tA, tc, vA, vc, lA, lc, nA, nc, iA, ic, jA, jc⟩ := x
  have hnv : p.valves.length ≤ 9223372036854775807 := h.valves.1
  have hnl := hl.1
  dsimp only [pval]
  let w1 := w.alloc (.cells #[.slice tA p.tanks.length tc, .slice vA p.valves.length vc, .slice lA p.lines.length lc, .slice nA p.never.length nc] 33)
  have hb : Below w.heap.size w w1 := (Below.refl _ _).alloc (Nat.le_refl _) _
  have HALL : Hid (Calls Try.prog 41 #[.slice A l.length c, .func (.func 60) #[] #[.pointer (some ⟨w.heap.size, 0, none⟩)]] w1
      fun e w' => e = .returned (.bool (allN l.length fun i => inB (l.getD i lit0).valve 0 (p.valves.length - 1))) ∧ Below w1.heap.size w1 w') := Lib.hid (by
    refine allLit w1 A l.length c _ (Sl.mono (Sl.below hl hb) (by simp [w1])) 60 _ (fun i => inB (l.getD i lit0).valve 0 (p.valves.length - 1)) (fun args w => by kernel_rfl) ?_
    intro w' hw' i hi
    have hs := hw'.size
    simp only [w1, World.size_alloc] at hs
    refine litIn_any w' (l.getD i lit0) w.heap.size p.valves.length vc vA hnv (by omega) ?_
    rw [hw'.cell (p := ⟨w.heap.size, 1, none⟩) (by simp [w1])]; simp [w1])
  clear h hl
  have HB := Lib.hid hb; clear hb
  cases h1 : inB l.length 1 most with
  | false =>
    go_enter Try.func28, Try.ntmps28
    go_wp2_with (go_at_call 17; refine (within_any _ _ _ _).mono ?_; rintro e w' ⟨rfl, rfl⟩)
    go_ret
    exact ⟨ret_bool (by unfold litsOk; rw [h1]; simp), HB.out⟩
  | true =>
    go_enter Try.func28, Try.ntmps28
    go_wp2_with (go_at_call 17; refine (within_any _ _ _ _).mono ?_; rintro e w' ⟨rfl, rfl⟩)
    refine HALL.out.mono ?_
    rintro e w' ⟨rfl, hb'⟩
    go_wp2_with fail
    go_ret
    exact ⟨ret_bool (by unfold litsOk; rw [h1]; simp), HB.out.trans (hb'.mono (by simp [w1]))⟩
end Go.Proofs.Ytogobjmmgjfjjaa
