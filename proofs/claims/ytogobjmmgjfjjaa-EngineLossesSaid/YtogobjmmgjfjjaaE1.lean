/- What is proved: contracts of room, pressure, open of engine.System. Conditions: the system lies in memory; the tank, the line are of the plant. -/
import Derived.Test.YtogobjmmgjfjjaaD4
namespace Go.Proofs.Ytogobjmmgjfjjaa
open Go.RowKit

def roomB (S : Sys) (i : Nat) : Int := max (S.p.tank i).least ((S.p.tank i).room - (S.tank i).content)
def pressB (S : Sys) (i : Nat) : Int := (S.tank i).gas * 100 / roomB S i
theorem tankOk_of {p : PlantD} (h : plantB p = true) (i : Nat) (hi : i < p.tanks.length) : 1 ≤ (p.tank i).room ∧ (p.tank i).room ≤ 1073741824 ∧ 1 ≤ (p.tank i).least ∧ (p.tank i).least ≤ 1073741824 ∧ 0 ≤ (p.tank i).limit ∧ (p.tank i).limit ≤ 1073741824 := by
  unfold plantB tankedB allN at h
  simp only [Bool.and_eq_true, List.all_eq_true, List.mem_range] at h
  have := h.1.1.1.1.1.2 i hi
  unfold tankOk at this
  simp only [Bool.and_eq_true, inB_iff] at this
  omega
theorem lineOk_of {p : PlantD} (h : plantB p = true) (i : Nat) (hi : i < p.lines.length) : lineOk p.tanks.length p.valves.length (p.line i) = true := by
  unfold plantB linedB allN at h
  simp only [Bool.and_eq_true, List.all_eq_true, List.mem_range] at h
  exact h.1.1.1.2.2 i hi
theorem SysOk.room {S : Sys} (h : SysOk S) (i : Nat) (hi : i < S.p.tanks.length) : 1 ≤ roomB S i ∧ roomB S i ≤ 1073741824 := by
  have h1 := tankOk_of h.valid i hi
  have h2 := h.tanks i hi
  unfold roomB
  omega

structure TankCells (w : World) (X : SX) (S : Sys) (i : Nat) : Prop where
  t0 : w.cell? ⟨X.tb, i * 5, none⟩ = some (.int .i64 (S.tank i).content)
  t1 : w.cell? ⟨X.tb, i * 5 + 1, none⟩ = some (.int .i64 (S.tank i).gas)
  t2 : w.cell? ⟨X.tb, i * 5 + 2, none⟩ = some (.int .i64 (S.tank i).leak)
  t3 : w.cell? ⟨X.tb, i * 5 + 3, none⟩ = some (.int .i64 (S.tank i).lost)
  t4 : w.cell? ⟨X.tb, i * 5 + 4, none⟩ = some (.int .i64 (S.tank i).vented)
theorem SysAt.tankCells {w : World} {X : SX} {S : Sys} (h : SysAt w X S) (i : Nat) (hi : i < S.p.tanks.length) : TankCells w X S i :=
  ⟨(h.t.cell (i * 5 + 0)).trans (tanksA_get _ _ _ _ hi (by omega)), (h.t.cell (i * 5 + 1)).trans (tanksA_get _ _ _ _ hi (by omega)), (h.t.cell (i * 5 + 2)).trans (tanksA_get _ _ _ _ hi (by omega)),
   (h.t.cell (i * 5 + 3)).trans (tanksA_get _ _ _ _ hi (by omega)), (h.t.cell (i * 5 + 4)).trans (tanksA_get _ _ _ _ hi (by omega))⟩

set_option maxRecDepth 100000 in
set_option maxHeartbeats 1000000 in
theorem room_any (w : World) (X : SX) (S : Sys) (h : SysAt w X S) (i : Nat) (hi : i < S.p.tanks.length) :
    Calls Try.prog 40 #[.pointer (some ⟨X.sb, 0, none⟩), .int .i64 i] w fun e w' => e = .returned (.int .i64 (roomB S i)) ∧ ∃ n, w' = w.drewN n := by
  have hii : (i : Int) < (S.p.tanks.length : Int) := by omega
  have h0i : (0 : Int) ≤ (i : Int) := by omega
  have c40 := h.cells.c40
  have c0 := h.cells.c0
  obtain ⟨b, off, hA, hB, _, d1, d2, _⟩ := h.plantAt.tanks.at4 hi
  simp only [tankC] at d1 d2
  rw [hA] at c0
  have ht := (h.tankCells i hi).t0
  have b1 := tankOk_of h.ok.valid i hi
  have b2 := h.ok.tanks i hi
  have hw : IntKind.i64.wrap ((S.p.tank i).room - (S.tank i).content) = (S.p.tank i).room - (S.tank i).content := IntWalk.i64_in _ (by omega)
  have HR := Lib.hid (show roomB S i = if (S.p.tank i).least < (S.p.tank i).room - (S.tank i).content then (S.p.tank i).room - (S.tank i).content else (S.p.tank i).least from max_go _ _)
  clear h hA b1 b2
  go_enter Try.func40, Try.ntmps40
  go_wp2
  go_quiet (fail)
  go_wp2
  all_goals (go_ret; exact ⟨ret_int (by rw [HR.out]; first | rw [if_pos (by assumption)] | rw [if_neg (by omega)]), _, rfl⟩)

set_option maxRecDepth 100000 in
set_option maxHeartbeats 1000000 in
theorem pressure_any (w : World) (X : SX) (S : Sys) (h : SysAt w X S) (i : Nat) (hi : i < S.p.tanks.length) :
    Calls Try.prog 25 #[.pointer (some ⟨X.sb, 0, none⟩), .int .i64 i] w fun e w' => e = .returned (.int .i64 (pressB S i)) ∧ ∃ n, w' = w.drewN n := by
  have hii : (i : Int) < (S.p.tanks.length : Int) := by omega
  have h0i : (0 : Int) ≤ (i : Int) := by omega
  have c40 := h.cells.c40
  have ht := (h.tankCells i hi).t1
  have b2 := h.ok.tanks i hi
  have b3 := h.ok.room i hi
  have HC := Lib.hid fun n => room_any (w.drewN n) X S (h.keep (fun _ _ _ => rfl) (Nat.le_refl _)) i hi
  have hw : IntKind.i64.wrap ((S.tank i).gas * 100) = (S.tank i).gas * 100 := IntWalk.i64_in _ (by omega)
  have HP := Lib.hid (show pressB S i = (S.tank i).gas * 100 / roomB S i from rfl)
  have hq := Lib.hid (show ((S.tank i).gas * 100).tdiv (roomB S i) = (S.tank i).gas * 100 / roomB S i from Int.tdiv_eq_ediv_of_nonneg (by omega))
  have h0 : (roomB S i == 0) = false := by rw [beq_eq_false_iff_ne]; omega
  have g0 : 0 ≤ (S.tank i).gas * 100 := by omega
  have hlo : 0 ≤ (S.tank i).gas * 100 / roomB S i := Int.ediv_nonneg (by omega) (by omega)
  have hhi : (S.tank i).gas * 100 / roomB S i ≤ (S.tank i).gas * 100 := Int.ediv_le_self _ (by omega)
  have hw2 : IntKind.i64.wrap ((S.tank i).gas * 100 / roomB S i) = (S.tank i).gas * 100 / roomB S i := IntWalk.i64_in _ (by omega)
  clear h hlo hhi
  go_enter Try.func25, Try.ntmps25
  go_wp2
  go_quiet ((go_at_call 40; exact Calls.quiet_of (HC.out _)))
  go_wp2
  go_ret
  exact ⟨ret_int (by rw [HP.out]), _, rfl⟩

/-- Are all valves of a line open? -/
def openB (S : Sys) (l : LineD) : Bool := allN l.valves.length fun k => decide ((S.at_ (l.valves.getD k 0).toNat).place = (S.p.valve (l.valves.getD k 0).toNat).travel)

set_option maxRecDepth 100000 in
set_option maxHeartbeats 1000000 in
theorem open1_any (w : World) (X : SX) (S : Sys) (h : SysAt w X S) (v : Nat) (hv : v < S.p.valves.length) (bb : Nat) (hbb : Bk w bb 37 #[.pointer (some ⟨X.sb, 0, none⟩)]) :
    Calls Try.prog 65 #[.int .i64 v, .pointer (some ⟨bb, 0, none⟩)] w fun e w' => e = .returned (.bool (decide ((S.at_ v).place = (S.p.valve v).travel))) ∧ ∃ n, w' = w.drewN n := by
  have hl := h.lens
  have hvi : (v : Int) < (S.p.valves.length : Int) := by omega
  have h12i : (v : Int) < (12 : Int) := by omega
  have h0i : (0 : Int) ≤ (v : Int) := by omega
  have cb := hbb.cell 0
  have c1 := h.cells.c1
  obtain ⟨b, off, hA, hB, _, d1, _⟩ := h.plantAt.valves.at3 hv
  simp only [valveC] at d1
  rw [hA] at c1
  have hp : w.cell? ⟨X.sb, 4 + v * 2, none⟩ = some (.int .i8 (S.at_ v).place) := h.loadSpots _ _ (spots_get S.at_ v (by omega)).1
  have hs := h.ok.spots.1 v hv
  have ht := h.valves.2 v hv
  have hw : IntKind.i64.wrap (S.at_ v).place = (S.at_ v).place := IntWalk.i64_in _ (by omega)
  have hd := Lib.hid (show ((S.at_ v).place == (S.p.valve v).travel) = decide ((S.at_ v).place = (S.p.valve v).travel) from rfl)
  have cb' : w.cell? ⟨bb, 0, none⟩ = some (.pointer (some ⟨X.sb, 0, none⟩)) := cb
  clear h hbb hA cb
  go_enter Try.func65, Try.ntmps65
  go_wp2
  go_quiet (fail)
  go_wp2
  go_ret
  exact ⟨ret_bool (by rw [← hd.out]), _, rfl⟩

set_option maxHeartbeats 1000000 in
theorem open_any (w : World) (X : SX) (S : Sys) (h : SysAt w X S) (i : Nat) (hi : i < S.p.lines.length) :
    Calls Try.prog 38 #[.pointer (some ⟨X.sb, 0, none⟩), .agg #[lineC (X.pv.iA i) (X.pv.ic i) (S.p.line i) 0, lineC (X.pv.iA i) (X.pv.ic i) (S.p.line i) 1, lineC (X.pv.iA i) (X.pv.ic i) (S.p.line i) 2, lineC (X.pv.iA i) (X.pv.ic i) (S.p.line i) 3, lineC (X.pv.iA i) (X.pv.ic i) (S.p.line i) 4]] w
      fun e w' => e = .returned (.bool (openB S (S.p.line i))) ∧ Below w.heap.size w w' := by
  simp only [lineC]
  have hlo := lineOk_of h.ok.valid i hi
  unfold lineOk allN at hlo
  simp only [Bool.and_eq_true, List.all_eq_true, List.mem_range] at hlo
  have hlv := hlo.2
  have hb0 : ∀ o o', Below w.heap.size w ((w.alloc o).alloc o') := fun o o' => ((Below.refl _ _).alloc (Nat.le_refl _) _).alloc (by simp) _
  have HALL := Lib.hid fun o' => allInt ((w.alloc (.cells #[.pointer (some ⟨X.sb, 0, none⟩)] 37)).alloc o') (X.pv.iA i) (S.p.line i).valves.length (X.pv.ic i) _
    (Sl.mono (Sl.below (h.plantAt.lv i hi) (hb0 _ _)) (by simp; omega)) 65 #[.pointer (some ⟨w.heap.size, 0, none⟩)]
    (fun k => decide ((S.at_ ((S.p.line i).valves.getD k 0).toNat).place = (S.p.valve ((S.p.line i).valves.getD k 0).toNat).travel)) (fun args w => by kernel_rfl) (fun w1 hw1 k hk => by
      obtain ⟨q1, q2⟩ := inB_iff.1 (hlv k hk)
      have hb1 : Below w.heap.size w w1 := (hb0 (.cells #[.pointer (some ⟨X.sb, 0, none⟩)] 37) o').trans (hw1.mono (by simp; omega))
      have key : ∀ v : Int, 0 ≤ v → v ≤ (S.p.valves.length : Int) - 1 → Calls Try.prog 65 (#[.int .i64 v] ++ #[.pointer (some ⟨w.heap.size, 0, none⟩)]) w1
          fun e w'' => e = .returned (.bool (decide ((S.at_ v.toNat).place = (S.p.valve v.toNat).travel))) ∧ Below w1.heap.size w1 w'' := by
        intro v hv0 hv1
        obtain ⟨n, rfl⟩ := Int.eq_ofNat_of_zero_le hv0
        refine (open1_any w1 X S (h.below hb1) n (by omega) w.heap.size (((Bk.new _ _ _).alloc _).below hw1 (by simp; omega))).mono ?_
        rintro e w2 ⟨he, m, rfl⟩
        exact ⟨he, below_drewN (Below.refl _ _) m⟩
      exact key _ q1 q2)
  clear hlo hlv h
  go_enter Try.func38, Try.ntmps38
  go_wp2_with fail
  refine (HALL.out _).mono ?_
  rintro e w' ⟨rfl, hb⟩
  go_wp2_with fail
  go_ret
  exact ⟨rfl, (hb0 _ _).trans (hb.mono (by simp; omega))⟩
end Go.Proofs.Ytogobjmmgjfjjaa
