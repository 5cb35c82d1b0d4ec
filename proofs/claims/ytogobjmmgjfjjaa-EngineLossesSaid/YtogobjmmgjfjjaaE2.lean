/- What is proved: a contract of the closure of carry of engine.System. Conditions: the system lies in memory; the tank is of the plant. -/
import Derived.Test.YtogobjmmgjfjjaaE1
namespace Go.Proofs.Ytogobjmmgjfjjaa
open Go.RowKit

def numB (S : Sys) (gas : Bool) (t : Nat) : Int := if gas then (S.tank t).gas else (S.tank t).content
def mostB (S : Sys) (gas : Bool) (t : Nat) : Int := if gas then 1073741824 else (S.p.tank t).room
def numJ (gas : Bool) : Nat := if gas then 1 else 0

set_option maxRecDepth 100000 in
set_option maxHeartbeats 1000000 in
theorem carryHas_any (w : World) (X : SX) (S : Sys) (h : SysAt w X S) (t : Nat) (ht : t < S.p.tanks.length) (lb bb : Nat) (gas : Bool) (cl : w.cell? ⟨lb, 3, none⟩ = some (.bool gas)) (cb : w.cell? ⟨bb, 0, none⟩ = some (.pointer (some ⟨X.sb, 0, none⟩))) :
    Calls Try.prog 66 #[.int .i64 t, .pointer (some ⟨lb, 0, none⟩), .pointer (some ⟨bb, 0, none⟩)] w
      fun e w' => e = .returned (.tuple #[.pointer (some ⟨X.tb, t * 5 + numJ gas, none⟩), .int .i64 (mostB S gas t)]) ∧ ∃ n, w' = w.drewN n := by
  have hti : (t : Int) < (S.p.tanks.length : Int) := by omega
  have h0i : (0 : Int) ≤ (t : Int) := by omega
  have c40 := h.cells.c40
  have c0 := h.cells.c0
  obtain ⟨b, off, hA, hB, _, d1, _, _⟩ := h.plantAt.tanks.at4 ht
  simp only [tankC] at d1
  rw [hA] at c0
  clear h hA
  cases gas with
  | true =>
    have hj : t * 5 + numJ true = t * 5 + 1 := rfl
    have hm : mostB S true t = 1073741824 := rfl
    rw [hj, hm]
    clear hj hm
    go_enter Try.func66, Try.ntmps66
    go_wp2
    go_ret2
    exact ⟨rfl, 0, rfl⟩
  | false =>
    have hj : t * 5 + numJ false = t * 5 := rfl
    have hm : mostB S false t = (S.p.tank t).room := rfl
    rw [hj, hm]
    clear hj hm
    go_enter Try.func66, Try.ntmps66
    go_wp2
    go_quiet (fail)
    go_wp2
    go_ret2
    exact ⟨rfl, _, rfl⟩
end Go.Proofs.Ytogobjmmgjfjjaa
