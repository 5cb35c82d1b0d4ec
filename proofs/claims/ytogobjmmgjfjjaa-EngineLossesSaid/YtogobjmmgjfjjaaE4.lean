/- What is proved: plain laws of what a tick does, and how a tank's number is set in memory. Conditions: those that each lemma states. -/
import Derived.Test.YtogobjmmgjfjjaaE3
import Derived.Test.YtogobjmmgjfjjaaReg3
namespace Go.Proofs.Ytogobjmmgjfjjaa
open Go.RowKit

theorem allN_iff {n : Nat} {f : Nat → Bool} : allN n f = true ↔ ∀ i, i < n → f i = true := by
  unfold allN; simp [List.all_eq_true]
theorem mayB_moved {p : PlantD} {s : Spots} {st : Nat → Bool} {l : LitD} (h : mayB p (movedB p s st) l = true) : mayB p s l = true := by
  unfold mayB holdsB movedB movedK at *
  split at h
  · next hlt =>
    revert h
    cases l with
    | mk v o =>
      simp only at hlt ⊢
      generalize s v.toNat = x
      obtain ⟨pl, op⟩ := x
      generalize (p.valve v.toNat).travel = t
      unfold move1
      cases st v.toNat <;> cases op <;> cases o <;> simp <;> omega
  · exact h
theorem safeB_moved {p : PlantD} {s : Spots} (st : Nat → Bool) (h : safeB p s = true) : safeB p (movedB p s st) = true := by
  unfold safeB at *
  rw [allN_iff] at *
  intro i hi
  have := h i hi
  rw [Bool.not_eq_true', ← Bool.not_eq_true] at this ⊢
  intro hh
  apply this
  rw [allN_iff] at *
  exact fun k hk => mayB_moved (hh k hk)

def Sys.move (S : Sys) : Sys := { S with at_ := movedB S.p S.at_ S.stuck }
def linesK (S : Sys) : Nat → Sys
  | 0 => S
  | k + 1 => if openB (linesK S k) (S.p.line k) then carryB (linesK S k) k else linesK S k
def lostB (S : Sys) (i : Nat) : Int := min (S.tank i).leak (S.tank i).content
def leakS (S : Sys) (i : Nat) : Sys := S.setT i { S.tank i with content := (S.tank i).content - lostB S i, lost := wrap64 ((S.tank i).lost + lostB S i) }
def ventB (S : Sys) (i : Nat) : Int := max 0 ((S.tank i).gas - (((S.p.tank i).limit + 1) * roomB S i - 1) / 100)
def ventS (S : Sys) (i : Nat) : Sys := S.setT i { S.tank i with gas := (S.tank i).gas - ventB S i, vented := wrap64 ((S.tank i).vented + ventB S i) }
def tanksK (S : Sys) : Nat → Sys
  | 0 => S
  | k + 1 => ventS (leakS (tanksK S k) k) k
def tickB (S : Sys) : Sys := tanksK (linesK S.move S.p.lines.length) S.p.tanks.length
theorem carryB_p (S : Sys) (i : Nat) : (carryB S i).p = S.p := flowB_p S _
theorem linesK_p (S : Sys) (k : Nat) : (linesK S k).p = S.p := by
  induction k with
  | zero => rfl
  | succ k ih => unfold linesK; split
                 · rw [carryB_p, ih]
                 · exact ih
theorem tanksK_p (S : Sys) (k : Nat) : (tanksK S k).p = S.p := by
  induction k with
  | zero => rfl
  | succ k ih => exact ih

theorem SysOk.lost {S : Sys} (h : SysOk S) (i : Nat) (hi : i < S.p.tanks.length) : 0 ≤ lostB S i ∧ lostB S i ≤ (S.tank i).content ∧ lostB S i ≤ 1073741824 := by
  have h1 := h.tanks i hi; have h2 := tankOk_of h.valid i hi
  unfold lostB; omega
theorem SysOk.leakS {S : Sys} (h : SysOk S) (i : Nat) (hi : i < S.p.tanks.length) : SysOk (leakS S i) := by
  have h1 := h.tanks i hi; have h2 := h.lost i hi
  exact h.setT i _ (by simp only; omega)
theorem SysOk.limit {S : Sys} (h : SysOk S) (i : Nat) (hi : i < S.p.tanks.length) : 1 ≤ ((S.p.tank i).limit + 1) * roomB S i ∧ ((S.p.tank i).limit + 1) * roomB S i ≤ 1152921505680588800 := by
  have h1 := h.room i hi; have h2 := tankOk_of h.valid i hi
  constructor
  · have := Int.mul_le_mul (a := 1) (b := 1) (c := (S.p.tank i).limit + 1) (d := roomB S i) (by omega) (by omega) (by omega) (by omega)
    omega
  · have := Int.mul_le_mul (a := (S.p.tank i).limit + 1) (b := roomB S i) (c := 1073741825) (d := 1073741824) (by omega) (by omega) (by omega) (by omega)
    omega
theorem SysOk.vent {S : Sys} (h : SysOk S) (i : Nat) (hi : i < S.p.tanks.length) : 0 ≤ ventB S i ∧ ventB S i ≤ (S.tank i).gas := by
  have h1 := h.tanks i hi; have h2 := h.limit i hi
  unfold ventB
  omega
theorem SysOk.ventS {S : Sys} (h : SysOk S) (i : Nat) (hi : i < S.p.tanks.length) : SysOk (ventS S i) := by
  have h1 := h.tanks i hi; have h2 := h.vent i hi
  exact h.setT i _ (by simp only; omega)

/-- One number of a tank. -/
theorem SysAt.setNum {w : World} {X : SX} {S : Sys} (h : SysAt w X S) (i : Nat) (hi : i < S.p.tanks.length) (j : Nat) (hj : j < 5) (v : Int) (ok : SysOk (S.setT i (setTank (S.tank i) j v))) :
    SysAt (w.setCell ⟨X.tb, i * 5 + j, none⟩ (.int .i64 v)) X (S.setT i (setTank (S.tank i) j v)) ∧ Chg X w (w.setCell ⟨X.tb, i * 5 + j, none⟩ (.int .i64 v)) := by
  have ho := Only.setCell w X.tb (i * 5 + j) (.int .i64 v)
  obtain ⟨n1, n2, n3, _, _, _⟩ := h.ne
  refine ⟨h.turn (Chg.of_only ho (by simp)) rfl (h.s.only ho n1) ?_ (h.c.only ho (Ne.symm n3)) ok, Chg.of_only ho (by simp)⟩
  have := h.t.set (i * 5 + j) (.int .i64 v)
  rw [tanksA_set _ _ _ _ hi hj] at this
  exact this
theorem setT_setT (S : Sys) (i : Nat) (a b : TankS) : (S.setT i a).setT i b = S.setT i b := by
  unfold Sys.setT; congr 1; funext k; by_cases h : k = i <;> simp [h]
theorem setT_tank (S : Sys) (i : Nat) (a : TankS) : (S.setT i a).tank i = a := by unfold Sys.setT; simp
/-- Two numbers of a tank. -/
theorem SysAt.setNums {w : World} {X : SX} {S : Sys} (h : SysAt w X S) (i : Nat) (hi : i < S.p.tanks.length) (j j2 : Nat) (hj : j < 5) (hj2 : j2 < 5) (v v2 : Int) (T : Sys) (hT : T = S.setT i (setTank (setTank (S.tank i) j v) j2 v2))
    (ok1 : SysOk (S.setT i (setTank (S.tank i) j v))) (ok : SysOk T) :
    SysAt ((w.setCell ⟨X.tb, i * 5 + j, none⟩ (.int .i64 v)).setCell ⟨X.tb, i * 5 + j2, none⟩ (.int .i64 v2)) X T ∧ Chg X w ((w.setCell ⟨X.tb, i * 5 + j, none⟩ (.int .i64 v)).setCell ⟨X.tb, i * 5 + j2, none⟩ (.int .i64 v2)) := by
  subst hT
  obtain ⟨a1, a2⟩ := h.setNum i hi j hj v ok1
  have e : S.setT i (setTank (setTank (S.tank i) j v) j2 v2) = (S.setT i (setTank (S.tank i) j v)).setT i (setTank ((S.setT i (setTank (S.tank i) j v)).tank i) j2 v2) := by rw [setT_tank, setT_setT]
  obtain ⟨b1, b2⟩ := a1.setNum i hi j2 hj2 v2 (by rw [← e]; exact ok)
  rw [← e] at b1
  exact ⟨b1, a2.trans b2⟩
end Go.Proofs.Ytogobjmmgjfjjaa
