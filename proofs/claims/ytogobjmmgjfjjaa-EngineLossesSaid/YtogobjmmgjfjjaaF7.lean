/- What is proved: contracts of engine.needed and of the closures that tell a system's numbers. Conditions: those that each states. -/
import Derived.Test.YtogobjmmgjfjjaaF6
namespace Go.Proofs.Ytogobjmmgjfjjaa
open Go.RowKit

def needB (p : PlantD) (kind of : Int) : Bool :=
  if kind = 0 then inB of 0 (p.tanks.length - 1) else if kind = 1 then inB of 0 (p.tanks.length - 1) else if kind = 2 then inB of 0 (p.lines.length - 1) else if kind = 3 then inB of 0 (p.valves.length - 1) else false

set_option maxRecDepth 100000 in
set_option maxHeartbeats 2000000 in
theorem needed_any (w : World) (x : PV) (p : PlantD) (hn : p.tanks.length ≤ 100000 ∧ p.lines.length ≤ 100000 ∧ p.valves.length ≤ 100000) (kind of low high : Int) :
    Calls Try.prog 46 #[.agg (plantA x p), .agg #[.int .i64 kind, .int .i64 of, .int .i64 low, .int .i64 high]] w fun e w' => e = .returned (.bool (needB p kind of)) ∧ Below w.heap.size w w' := by
  obtain ⟨h1, h2, h3⟩ := hn
  have w1 : IntKind.i64.wrap ((p.tanks.length : Int) - 1) = (p.tanks.length : Int) - 1 := IntWalk.i64_in _ (by omega)
  have w2 : IntKind.i64.wrap ((p.lines.length : Int) - 1) = (p.lines.length : Int) - 1 := IntWalk.i64_in _ (by omega)
  have w3 : IntKind.i64.wrap ((p.valves.length : Int) - 1) = (p.valves.length : Int) - 1 := IntWalk.i64_in _ (by omega)
  have hb : ∀ o o', Below w.heap.size w ((w.alloc o).alloc o') := fun o o' => ((Below.refl _ _).alloc (Nat.le_refl _) _).alloc (by simp) _
  have HB := Lib.hid hb
  clear hb
  dsimp only [plantA]
  by_cases k0 : kind = 0
  · subst k0
    have Hf := Lib.hid (show needB p 0 of = inB of 0 (p.tanks.length - 1) from rfl)
    go_enter Try.func46, Try.ntmps46
    go_wp2_with (first | (go_at_call 17; refine (within_any _ _ _ _).mono ?_; rintro e w' ⟨rfl, rfl⟩))
    go_ret
    exact ⟨ret_bool (by rw [Hf.out]), HB.out _ _⟩
  by_cases k1 : kind = 1
  · subst k1
    have Hf := Lib.hid (show needB p 1 of = inB of 0 (p.tanks.length - 1) from rfl)
    go_enter Try.func46, Try.ntmps46
    go_wp2_with (first | (go_at_call 17; refine (within_any _ _ _ _).mono ?_; rintro e w' ⟨rfl, rfl⟩))
    go_ret
    exact ⟨ret_bool (by rw [Hf.out]), HB.out _ _⟩
  by_cases k2 : kind = 2
  · subst k2
    have Hf := Lib.hid (show needB p 2 of = inB of 0 (p.lines.length - 1) from rfl)
    go_enter Try.func46, Try.ntmps46
    go_wp2_with (first | (go_at_call 17; refine (within_any _ _ _ _).mono ?_; rintro e w' ⟨rfl, rfl⟩))
    go_ret
    exact ⟨ret_bool (by rw [Hf.out]), HB.out _ _⟩
  by_cases k3 : kind = 3
  · subst k3
    have Hf := Lib.hid (show needB p 3 of = inB of 0 (p.valves.length - 1) from rfl)
    go_enter Try.func46, Try.ntmps46
    go_wp2_with (first | (go_at_call 17; refine (within_any _ _ _ _).mono ?_; rintro e w' ⟨rfl, rfl⟩))
    go_ret
    exact ⟨ret_bool (by rw [Hf.out]), HB.out _ _⟩
  · have Hf := Lib.hid (show needB p kind of = false by unfold needB; rw [if_neg k0, if_neg k1, if_neg k2, if_neg k3])
    go_enter Try.func46, Try.ntmps46
    go_wp2_with fail
    go_ret
    exact ⟨ret_bool (by rw [Hf.out]), HB.out _ _⟩

set_option maxHeartbeats 1000000 in
theorem newContent_any (w : World) (X : SX) (S : Sys) (h : SysAt w X S) (i : Nat) (hi : i < S.p.tanks.length) :
    Calls Try.prog 24 #[.int .i64 i, .pointer (some ⟨X.gb, 0, none⟩)] w fun e w' => e = .returned (.int .i64 (S.tank i).content) ∧ ∃ n, w' = w.drewN n := by
  have hii : (i : Int) < (S.p.tanks.length : Int) := by omega
  have h0i : (0 : Int) ≤ (i : Int) := by omega
  have c40 := h.cells.c40
  have cg : w.cell? ⟨X.gb, 0, none⟩ = some (.pointer (some ⟨X.sb, 0, none⟩)) := h.g.cell 0
  have ht := (h.tankCells i hi).t0
  clear h
  go_enter Try.func24, Try.ntmps24
  go_wp2
  go_ret
  exact ⟨rfl, 0, rfl⟩
set_option maxHeartbeats 1000000 in
theorem newCarried_any (w : World) (X : SX) (S : Sys) (h : SysAt w X S) (i : Nat) (hi : i < S.p.lines.length) :
    Calls Try.prog 26 #[.int .i64 i, .pointer (some ⟨X.gb, 0, none⟩)] w fun e w' => e = .returned (.int .i64 (S.carried i)) ∧ ∃ n, w' = w.drewN n := by
  have hii : (i : Int) < (S.p.lines.length : Int) := by omega
  have h0i : (0 : Int) ≤ (i : Int) := by omega
  have c41 := h.cells.c41
  have cg : w.cell? ⟨X.gb, 0, none⟩ = some (.pointer (some ⟨X.sb, 0, none⟩)) := h.g.cell 0
  have ht : w.cell? ⟨X.cb, i, none⟩ = some (.int .i64 (S.carried i)) := (h.c.cell i).trans (carrA_get _ _ _ hi)
  clear h
  go_enter Try.func26, Try.ntmps26
  go_wp2
  go_ret
  exact ⟨rfl, 0, rfl⟩
set_option maxRecDepth 100000 in
set_option maxHeartbeats 1000000 in
theorem newPlace_any (w : World) (X : SX) (S : Sys) (h : SysAt w X S) (v : Nat) (hv : v < S.p.valves.length) :
    Calls Try.prog 27 #[.int .i64 v, .pointer (some ⟨X.gb, 0, none⟩)] w fun e w' => e = .returned (.int .i64 (S.at_ v).place) ∧ ∃ n, w' = w.drewN n := by
  have hl := h.lens
  have h12i : (v : Int) < (12 : Int) := by omega
  have h0i : (0 : Int) ≤ (v : Int) := by omega
  have cg : w.cell? ⟨X.gb, 0, none⟩ = some (.pointer (some ⟨X.sb, 0, none⟩)) := h.g.cell 0
  have hp : w.cell? ⟨X.sb, 4 + v * 2, none⟩ = some (.int .i8 (S.at_ v).place) := h.loadSpots _ _ (spots_get S.at_ v (by omega)).1
  have hs := h.ok.spots.1 v hv
  have ht := h.valves.2 v hv
  have hw : IntKind.i64.wrap (S.at_ v).place = (S.at_ v).place := IntWalk.i64_in _ (by omega)
  clear h
  go_enter Try.func27, Try.ntmps27
  go_wp2
  go_ret
  exact ⟨rfl, 0, rfl⟩
end Go.Proofs.Ytogobjmmgjfjjaa
