/- What is proved: contracts of the small methods of engine.System: is, valves, vessels, has. Conditions: the system lies in memory. -/
import Derived.Test.YtogobjmmgjfjjaaSys
namespace Go.Proofs.Ytogobjmmgjfjjaa
open Go.RowKit

structure SysCells (w : World) (X : SX) (S : Sys) : Prop where
  c0 : w.cell? ⟨X.sb, 0, none⟩ = some (.slice X.pv.tA S.p.tanks.length X.pv.tc)
  c1 : w.cell? ⟨X.sb, 1, none⟩ = some (.slice X.pv.vA S.p.valves.length X.pv.vc)
  c2 : w.cell? ⟨X.sb, 2, none⟩ = some (.slice X.pv.lA S.p.lines.length X.pv.lc)
  c3 : w.cell? ⟨X.sb, 3, none⟩ = some (.slice X.pv.nA S.p.never.length X.pv.nc)
  c40 : w.cell? ⟨X.sb, 40, none⟩ = some (.slice (some ⟨X.tb, 0, none⟩) S.p.tanks.length S.p.tanks.length)
  c41 : w.cell? ⟨X.sb, 41, none⟩ = some (.slice (some ⟨X.cb, 0, none⟩) S.p.lines.length S.p.lines.length)
  c46 : w.cell? ⟨X.sb, 46, none⟩ = some (.bool true)
theorem SysAt.cells {w : World} {X : SX} {S : Sys} (h : SysAt w X S) : SysCells w X S :=
  ⟨(h.s.cell 0).trans (sysA_plant X S 0 _ rfl), (h.s.cell 1).trans (sysA_plant X S 1 _ rfl), (h.s.cell 2).trans (sysA_plant X S 2 _ rfl), (h.s.cell 3).trans (sysA_plant X S 3 _ rfl),
   (h.s.cell 40).trans (sysA_rest X S 0), (h.s.cell 41).trans (sysA_rest X S 1), (h.s.cell 46).trans (sysA_rest X S 6)⟩
theorem SysAt.lens {w : World} {X : SX} {S : Sys} (h : SysAt w X S) : 1 ≤ S.p.tanks.length ∧ S.p.tanks.length ≤ 16 ∧ 1 ≤ S.p.valves.length ∧ S.p.valves.length ≤ 12 ∧ S.p.lines.length ≤ 32 := by
  have hv := h.ok.valid
  unfold plantB tankedB valvedB linedB apartB at hv
  simp only [Bool.and_eq_true, decide_eq_true_eq] at hv
  obtain ⟨⟨⟨⟨⟨⟨⟨_, h1⟩, _⟩, ⟨⟨_, h2⟩, _⟩⟩, ⟨h3, _⟩⟩, _⟩, _⟩, _⟩ := hv
  unfold inB at h1 h2
  simp at h1 h2
  omega

set_option maxHeartbeats 400000 in
theorem is_any (w : World) (X : SX) (S : Sys) (h : SysAt w X S) : Calls Try.prog 36 #[.pointer (some ⟨X.sb, 0, none⟩)] w fun e w' => e = .returned (.bool true) ∧ w = w' := by
  have c := h.cells.c46
  clear h
  go_enter Try.func36, Try.ntmps36
  go_wp2
  go_ret
  exact ⟨rfl, rfl⟩
set_option maxHeartbeats 400000 in
theorem valves_any (w : World) (X : SX) (S : Sys) (h : SysAt w X S) : Calls Try.prog 34 #[.pointer (some ⟨X.sb, 0, none⟩)] w fun e w' => e = .returned (.int .i64 S.p.valves.length) ∧ w = w' := by
  have c := h.cells.c1
  clear h
  go_enter Try.func34, Try.ntmps34
  go_wp2
  go_ret
  exact ⟨rfl, rfl⟩
set_option maxHeartbeats 400000 in
theorem vessels_any (w : World) (X : SX) (S : Sys) (h : SysAt w X S) : Calls Try.prog 47 #[.pointer (some ⟨X.sb, 0, none⟩)] w fun e w' => e = .returned (.int .i64 S.p.tanks.length) ∧ w = w' := by
  have c := h.cells.c40
  clear h
  go_enter Try.func47, Try.ntmps47
  go_wp2
  go_ret
  exact ⟨rfl, rfl⟩

/-- Why a part cannot be meant: there are n. -/
def hasE (i : Int) (n : Nat) : Int := if inB i 0 (n - 1) then 0 else 7
set_option maxHeartbeats 800000 in
theorem has_any (w : World) (X : SX) (S : Sys) (h : SysAt w X S) (i : Int) (n g : Nat) (hn : n ≤ 100) (eg : ∀ args w, (callFunc g args).run Try.prog w = .ok (.enter g args) w)
    (hg : Calls Try.prog g #[.pointer (some ⟨X.sb, 0, none⟩)] w fun e w' => e = .returned (.int .i64 n) ∧ w = w') :
    Calls Try.prog 33 #[.pointer (some ⟨X.sb, 0, none⟩), .int .i64 i, .func (.func g) #[.pointer (some ⟨X.sb, 0, none⟩)] #[]] w fun e w' => e = .returned (.int .i64 (hasE i n)) ∧ w = w' := by
  have HI := Lib.hid (is_any w X S h)
  have HG := Lib.hid hg
  have HE := Lib.hid (show hasE i n = if inB i 0 (n - 1) then 0 else 7 from rfl)
  clear h hg
  cases hq : inB i 0 (n - 1)
  all_goals
    go_enter Try.func33, Try.ntmps33
    go_wp2_with fail
    refine HI.out.mono ?_
    rintro e w' ⟨rfl, rfl⟩
    go_wp2_with fail
    refine HG.out.mono ?_
    rintro e w' ⟨rfl, rfl⟩
    go_wp2_with (go_at_call 17; refine (within_any _ _ _ _).mono ?_; rintro e w' ⟨rfl, rfl⟩)
    go_ret
    exact ⟨ret_int (by rw [HE.out, hq]; simp), rfl⟩
theorem hasValve_any (w : World) (X : SX) (S : Sys) (h : SysAt w X S) (i : Int) :
    Calls Try.prog 33 #[.pointer (some ⟨X.sb, 0, none⟩), .int .i64 i, .func (.func 34) #[.pointer (some ⟨X.sb, 0, none⟩)] #[]] w fun e w' => e = .returned (.int .i64 (hasE i S.p.valves.length)) ∧ w = w' :=
  has_any w X S h i _ _ (by have := h.lens; omega) (fun args w => by kernel_rfl) (valves_any w X S h)
theorem hasTank_any (w : World) (X : SX) (S : Sys) (h : SysAt w X S) (i : Int) :
    Calls Try.prog 33 #[.pointer (some ⟨X.sb, 0, none⟩), .int .i64 i, .func (.func 47) #[.pointer (some ⟨X.sb, 0, none⟩)] #[]] w fun e w' => e = .returned (.int .i64 (hasE i S.p.tanks.length)) ∧ w = w' :=
  has_any w X S h i _ _ (by have := h.lens; omega) (fun args w => by kernel_rfl) (vessels_any w X S h)
end Go.Proofs.Ytogobjmmgjfjjaa
