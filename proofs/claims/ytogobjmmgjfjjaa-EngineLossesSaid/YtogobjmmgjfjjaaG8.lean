/- What is proved: when two arrays of spots differ, what a row is built of, what Go's text computes of them. Conditions: the places are within int8. -/
import Derived.Test.YtogobjmmgjfjjaaG7
import Derived.Laws.StructEq
namespace Go.Proofs.Ytogobjmmgjfjjaa
open Go.RowKit Go.Maps Go.WideMaps
theorem spotsK_iff (s t : Spots) : spotsK s = spotsK t ↔ sameSp s t = true := by
  rw [sameSp_iff]
  constructor
  · intro h i hi
    have key : ∀ i, i < 12 → (s i).place = (t i).place ∧ (s i).opn = (t i).opn := by
      intro i hi
      have e : ∀ u : Spots, (spotsK u)[i * 2]? = some (.int .i8 (u i).place) ∧ (spotsK u)[i * 2 + 1]? = some (.bool (u i).opn) := by
        intro u
        match i, hi with
        | 0, _ => exact ⟨rfl, rfl⟩
        | 1, _ => exact ⟨rfl, rfl⟩
        | 2, _ => exact ⟨rfl, rfl⟩
        | 3, _ => exact ⟨rfl, rfl⟩
        | 4, _ => exact ⟨rfl, rfl⟩
        | 5, _ => exact ⟨rfl, rfl⟩
        | 6, _ => exact ⟨rfl, rfl⟩
        | 7, _ => exact ⟨rfl, rfl⟩
        | 8, _ => exact ⟨rfl, rfl⟩
        | 9, _ => exact ⟨rfl, rfl⟩
        | 10, _ => exact ⟨rfl, rfl⟩
        | 11, _ => exact ⟨rfl, rfl⟩
      have a := e s
      have b := e t
      rw [h] at a
      have e1 := a.1.symm.trans b.1
      have e2 := a.2.symm.trans b.2
      simp only [Option.some.injEq, Lit.int.injEq, Lit.bool.injEq, true_and] at e1 e2
      exact ⟨e1, e2⟩
    obtain ⟨a, b⟩ := key i hi
    generalize s i = x at *
    generalize t i = y at *
    cases x; cases y; simp only at a b; simp [a, b]
  · intro h
    unfold spotsK
    rw [List.flatMap_def, List.flatMap_def]
    congr 1
    apply List.map_congr_left
    intro i hi
    rw [h i (by simpa using hi)]
theorem run_neq_spots (s t : Spots) (hs : PlacesOk s) (ht : PlacesOk t) (w : World) : (binOp .neq 74 (.agg (spotsA s)) (.agg (spotsA t))).run Try.prog w = .ok (.bool (!sameSp s t)) w := by
  obtain ⟨r, h1, h2⟩ := run_equalIn_deep (P := Try.prog) 9996 4 74 (by kernel_rfl) w 4 4 (.agg (spotsA s)) (.agg (spotsA t)) (spotsK s) (spotsK t) (spots_formed s) (spots_formed t) (keyLitsSpots s hs 0) (keyLitsSpots t ht 0)
  rw [run_neq_struct, h1]
  have : r = sameSp s t := by
    rw [Bool.eq_iff_iff, h2, spotsK_iff]
  rw [this]
  rfl
theorem wpo_neqS {P : Program} {o : Oper} {a : Act} {w : World} {K : Act → World → Prop} {Q : Exit → Act → World → Prop} (ty yt : TypeId) (x y : Operand) (ho : o.op = .binOp .neq ty x y yt) (xs ys : Array Value) (hx : a.eval x = .agg xs) (hy : a.eval y = .agg ys)
    (hm : P.eqGuardType P.depth ty = false) (r : Bool) (hr : (binOp .neq ty (.agg xs) (.agg ys)).run P w = .ok (.bool r) w) (h : K (a.put o.dst (.bool r)) w) : o.wp P a w K Q := by
  unfold Oper.wp execOp
  simp only [ho, hx, hy, Sem.run_bind, Sem.run_pure, run_eqGuard_agg w .neq ty x y xs ys hm, Result.andThen_ok, hr]
  exact h
theorem guardSpots : Try.prog.eqGuardType Try.prog.depth 74 = false := by kernel_rfl
theorem built_row (s : Spots) (f o : Option Addr) : Try.prog.built 96 [(0, .agg (spotsA s)), (1, .pointer f), (2, .pointer o)] = some (rowA s (.pointer f) (.pointer o)) := by kernel_rfl
theorem built_row1 (s : Spots) : Try.prog.built 96 [(0, .agg (spotsA s))] = some (rowA s (.pointer none) (.pointer none)) := by kernel_rfl
theorem built_free : Try.prog.built 77 [] = some (stuckA fun _ => false) := by kernel_rfl
end Go.Proofs.Ytogobjmmgjfjjaa
