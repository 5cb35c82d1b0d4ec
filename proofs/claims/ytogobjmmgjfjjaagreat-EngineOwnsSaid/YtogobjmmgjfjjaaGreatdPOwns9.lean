/- What is proved: the texts U1 U2 U3 U4 U5, one behind the other; each says at its head what it proves, and under which conditions. -/
import Derived.Deep.RegionHeld3
import Derived.StillTailTactics
import Derived.Test.YtogobjmmgjfjjaaGreatdPOwns8
/- What is proved: contracts of Carried, Lost, Vented of engine.System. Conditions: the system lies in memory. -/
namespace Go.Proofs.YtogobjmmgjfjjaaGreat
open Go.RowKit

/-- A list of numbers in new memory is handed back. -/
def NewInts (w : World) (n : Nat) (F : Nat → Int) (e : Ending) (w' : World) : Prop := ∃ A c, e = .returned (.slice A n c) ∧ Cl w' w.heap.size 3 1 A n (fun i _ => .int .i64 (F i)) ∧ Below w.heap.size w w'
theorem SysAt.carr {w : World} {X : SX} {S : Sys} (h : SysAt w X S) : Sl w w.heap.size 1 (some ⟨X.cb, 0, none⟩) S.p.lines.length fun i _ => .int .i64 (S.carried i) :=
  ⟨by have := h.lens; omega, fun _ => ⟨X.cb, 0, rfl, h.c.lt, fun i hi j hj => by
    obtain rfl : j = 0 := by omega
    rw [show 0 + i * 1 + 0 = i from by omega, h.c.cell]; exact carrA_get _ _ _ hi⟩⟩
set_option maxRecDepth 100000 in
set_option maxHeartbeats 1000000 in
theorem carried_any (w : World) (X : SX) (S : Sys) (h : SysAt w X S) :
    Calls Tryz.prog 32 #[.pointer (some ⟨X.sb, 0, none⟩)] w (NewInts w S.p.lines.length S.carried) := by
  have HI := Lib.hid (is_any w X S h)
  have c41 := h.cells.c41
  have HCL := Lib.hid (cloneInt w (some ⟨X.cb, 0, none⟩) S.p.lines.length S.p.lines.length (fun i _ => .int .i64 (S.carried i)) h.carr (fun _ _ => rfl) (by have := h.lens; omega))
  clear h
  go_enter Tryz.func32, Tryz.ntmps32
  go_wp2_with fail
  refine HI.out.mono ?_
  rintro e w' ⟨rfl, rfl⟩
  go_wp2_with fail
  refine HCL.out.mono ?_
  rintro e w' ⟨A', c', rfl, hc, hb⟩
  have HC := Lib.hid hc
  have HB := Lib.hid hb
  clear hc hb
  go_wp2_with fail
  go_ret
  exact ⟨A', c', rfl, HC.out, HB.out⟩
theorem World.ownsRow.of_below {B : Nat} {e : TypeId} {size : Nat} {v : Value} {n : Nat} {xs : List Value} {w w' : World} (h : w.ownsRow B e size v n xs) (hb : Below w.heap.size w w') : w'.ownsRow B e size v n xs :=
  h.kept (row := none) ⟨hb.os, hb.tape, hb.output, hb.size, fun k hk _ => hb.block k hk⟩ (by cases hv : v.ownBlock <;> simp)
theorem rowsL_succ1 (k : Nat) (F : Nat → Nat → Value) : rowsL (k + 1) 1 F = rowsL k 1 F ++ [F k 0] := by
  simp [rowsL, List.range_succ, Nat.mod_one]
theorem info_intE : (Tryz.prog.info? 3).map (fun i => (i.zero, i.size, i.bytes)) = some (some (.int .i64 0), 1, 8) := by kernel_rfl
set_option maxRecDepth 100000 in
set_option maxHeartbeats 2000000 in
theorem each_any (w : World) (X : SX) (S : Sys) (h : SysAt w X S) (g : Nat) (F : Nat → Int) (eg : ∀ args w, (callFunc g args).run Tryz.prog w = .ok (.enter g args) w)
    (hg : ∀ w1 i, i < S.p.tanks.length → Calls Tryz.prog g #[.agg #[.int .i64 (S.tank i).content, .int .i64 (S.tank i).gas, .int .i64 (S.tank i).leak, .int .i64 (S.tank i).lost, .int .i64 (S.tank i).vented]] w1 fun e w' => e = .returned (.int .i64 (F i)) ∧ Below w1.heap.size w1 w') :
    Calls Tryz.prog 92 #[.pointer (some ⟨X.sb, 0, none⟩), .func (.func g) #[] #[]] w (NewInts w S.p.tanks.length F) := by
  have HI := Lib.hid (is_any w X S h)
  have c40 := h.cells.c40
  have hl := h.lens
  have H0 := Lib.hid h
  have HG := Lib.hid hg
  obtain ⟨i0, hi0, hz0, hz1, hz2⟩ := info_parts info_intE
  obtain ⟨n, hn⟩ : ∃ n, S.p.tanks.length = n := ⟨_, rfl⟩
  rw [hn] at c40 hl
  have HN := Lib.hid hn
  have hn16 : n ≤ 16 := hl.2.1
  clear h hg hn hl
  go_enter Tryz.func92, Tryz.ntmps92
  go_wp2_with fail
  refine HI.out.mono ?_
  rintro e w' ⟨rfl, rfl⟩
  go_wp2_with fail
  go_loopw [5, 15] (fun v i wr => ∃ k : Nat, k ≤ n ∧ i = .int .i64 k ∧ wr.ownsRow w.heap.size 3 1 v k (rowsL k 1 fun i _ => .int .i64 (F i)) ∧ Below w.heap.size w wr) (fun _ i _ => n - (intOf i).toNat)
  case atStart => exact ⟨0, Nat.zero_le _, rfl, World.ownsRow_nil _ _ _ _, Below.refl _ _⟩
  case round =>
    obtain ⟨k, hk, rfl, hown, hb⟩ := hrel
    have hsz := hb.size
    by_cases hlt : k < n
    · have hki : (k : Int) < (n : Int) := by omega
      have hS := H0.out.below hb
      obtain ⟨t0, t1, t2, t3, t4⟩ := hS.tankCells k (by rw [HN.out]; exact hlt)
      have HCg := Lib.hid fun w1 => HG.out w1 k (by rw [HN.out]; exact hlt)
      clear hS
      go_wp2_with fail
      refine (HCg.out _).mono ?_
      rintro e w1 ⟨rfl, hb1⟩
      have hb2 : Below w.heap.size w w1 := (hb.alloc hsz _).trans (hb1.mono (by simp; omega))
      have hs2 := hb2.size
      have hw1s : wr.heap.size + 1 ≤ w1.heap.size := by have := hb1.size; simpa using this
      have hown1 := World.ownsRow.of_below (hown.alloc _) hb1
      go_wp2_with (first | (at_builtin; refine wpList_append_own _ rfl _ _ 50 rfl w.heap.size 3 i0 (.int .i64 0) 1 8 Tryz.underlying50 hi0 hz0 hz1 hz2 rfl (by decide) _ _ _ rfl (hown1.alloc _) ⟨w1.heap.size, 0, none⟩ 1 1 [.int .i64 (F k)] rfl rfl ?c1 ?c2 ?c3 ?c4 ?c5 ?_))
      case c1 => exact cell_one_new _ _ _
      case c2 => intro u hu; simp at hu; subst hu; rfl
      case c3 => unfold maxLen; omega
      case c4 => omega
      case c5 => simp; omega
      intro v' w2 hown' hgrow _
      have hb3 : Below w.heap.size w w2 := (hb2.alloc hs2 _).grown hgrow (by simp; omega) (fun g hg => (hown1.lt g hg).1)
      clear hgrow hown hown1
      go_wp2_with fail
      go_roundw
      case rel => exact ⟨k + 1, by omega, by go_num, by rw [rowsL_succ1]; exact hown', hb3⟩
      case measure => simp [intOf]; omega
    · obtain rfl : k = n := by omega
      obtain ⟨A, c, rfl, hc⟩ := Cl.of_own (by omega) hown
      have HC := Lib.hid hc
      have HB := Lib.hid hb
      clear hc hb hown
      go_wp2_with fail
      go_ret
      have hn := HN.out
      unfold NewInts
      rw [hn]
      exact ⟨A, c, rfl, HC.out, HB.out⟩
set_option maxRecDepth 100000 in
set_option maxHeartbeats 2000000 in
theorem lost_any (w : World) (X : SX) (S : Sys) (h : SysAt w X S) :
    Calls Tryz.prog 33 #[.pointer (some ⟨X.sb, 0, none⟩)] w (NewInts w S.p.tanks.length fun i => (S.tank i).lost) := by
  have HE := Lib.hid (each_any w X S h 93 (fun i => (S.tank i).lost) (fun args w => by kernel_rfl) fun w1 i hi => by
    go_enter Tryz.func93, Tryz.ntmps93
    go_wp2_with fail
    go_ret
    exact ⟨rfl, by repeat first | exact Below.refl _ _ | refine Below.alloc ?_ (by simp) _⟩)
  clear h
  go_enter Tryz.func33, Tryz.ntmps33
  go_wp2_with fail
  refine HE.out.mono ?_
  rintro e w' ⟨A', c', rfl, hc, hb⟩
  have HC := Lib.hid hc
  have HB := Lib.hid hb
  clear hc hb
  go_wp2_with fail
  go_ret
  exact ⟨A', c', rfl, HC.out, HB.out⟩
set_option maxRecDepth 100000 in
set_option maxHeartbeats 2000000 in
theorem vented_any (w : World) (X : SX) (S : Sys) (h : SysAt w X S) :
    Calls Tryz.prog 34 #[.pointer (some ⟨X.sb, 0, none⟩)] w (NewInts w S.p.tanks.length fun i => (S.tank i).vented) := by
  have HE := Lib.hid (each_any w X S h 94 (fun i => (S.tank i).vented) (fun args w => by kernel_rfl) fun w1 i hi => by
    go_enter Tryz.func94, Tryz.ntmps94
    go_wp2_with fail
    go_ret
    exact ⟨rfl, by repeat first | exact Below.refl _ _ | refine Below.alloc ?_ (by simp) _⟩)
  clear h
  go_enter Tryz.func34, Tryz.ntmps34
  go_wp2_with fail
  refine HE.out.mono ?_
  rintro e w' ⟨A', c', rfl, hc, hb⟩
  have HC := Lib.hid hc
  have HB := Lib.hid hb
  clear hc hb
  go_wp2_with fail
  go_ret
  exact ⟨A', c', rfl, HC.out, HB.out⟩
end Go.Proofs.YtogobjmmgjfjjaaGreat
/- What is proved: a contract of ullagelaw07.due. Conditions: the plant and the state lie in memory; the state is a system's. -/
namespace Go.Proofs.YtogobjmmgjfjjaaGreat
open Go.RowKit
theorem info_act : (Tryz.prog.info? 57).map (fun i => i.size) = some 4 := by kernel_rfl
theorem SysOk.neverOk {S : Sys} (ok : SysOk S) : NeverOk S.p := plantOk_never ok.valid
theorem RefOne.back [Exc] {w : World} {S : Sys} {e : Ending} {w' : World} (h : RefOne w S e w') : ∃ R', e = .returned (.agg (SysA R' S)) ∧ RefAt w' w'.heap.size R' S ∧ Below w.heap.size w w' := h
set_option maxRecDepth 100000 in
set_option maxHeartbeats 4000000 in
theorem due_any [Exc] (w : World) (x : PV) (R : RX) (S : Sys) (hp : PlantAt w w.heap.size x S.p) (hr : RefAt w w.heap.size R S) (ok : SysOk S) (what a b c : Int) :
    Calls Tryz.prog 25 #[.agg (plantA x S.p), .agg (SysA R S), .agg #[.int .i64 what, .int .i64 a, .int .i64 b, .int .i64 c]] w (RefBack w (doesB S what a b c).2 (doesB S what a b c).1) := by
  obtain ⟨W, hW⟩ : ∃ W, W = ((((w.alloc (.cells (plantA x S.p) 27)).alloc (.cells (SysA R S) 53)).alloc (.cells (#[.int .i64 what, .int .i64 a, .int .i64 b, .int .i64 c]) 57)).alloc (.cells (refA nilR 0 0 0) 53)) := ⟨_, rfl⟩
  have hbW : Below w.heap.size w W := by rw [hW]; exact ((((Below.refl _ _).alloc (Nat.le_refl _) _).alloc (by simp) _).alloc (by simp; omega) _).alloc (by simp; omega) _
  have hWs : W.heap.size = w.heap.size + 4 := by rw [hW]; simp
  have hb0 : Bk W (w.heap.size) 27 (plantA x S.p) := by rw [hW]; exact (((Bk.new _ _ _).alloc _).alloc _).alloc _
  have hb1 : Bk W (w.heap.size + 1) 53 (SysA R S) := by rw [hW]; exact ((Bk.newAt _ _ _ _ (by simp)).alloc _).alloc _
  have hb2 : Bk W (w.heap.size + 1 + 1) 57 (#[.int .i64 what, .int .i64 a, .int .i64 b, .int .i64 c]) := by rw [hW]; exact (Bk.newAt _ _ _ _ (by simp)).alloc _
  have hb3 : Bk W (w.heap.size + 1 + 1 + 1) 53 (refA nilR 0 0 0) := by rw [hW]; exact Bk.newAt _ _ _ _ (by simp)
  have hpW := (hp.below hbW).mono (show w.heap.size ≤ W.heap.size by omega)
  have hrW := (hr.below hbW).mono (show w.heap.size ≤ W.heap.size by omega)
  have hsh : Short S.p := short_of ok.valid
  have HTOP : Hid (Exc.top ≤ w.heap.size) := Lib.hid hr.top
  have HPUT := Lib.hid (refPut_any W x R S hpW hrW hsh a b c)
  have HORD := Lib.hid (refOrder_any W x R S hpW hrW hsh ok.neverOk a (oddB b))
  have HSTI := Lib.hid (refStick_any W x R S hpW hrW hsh a (oddB b))
  have HLEA := Lib.hid (refLeak_any W x R S hpW hrW hsh a b)
  have HTIC := Lib.hid (refTick_any W x R S hpW hrW ok)
  have HB1 := Lib.hid hbW
  have HQ0 := Lib.hid hb0
  have HQ := Lib.hid hb1
  have HQ5 := Lib.hid hb3
  have HZ := Lib.hid hWs
  have HW := Lib.hid hW
  have a0 : W.cell? ⟨w.heap.size + 1 + 1, 0, none⟩ = some (.int .i64 what) := hb2.cell 0
  have a1 : W.cell? ⟨w.heap.size + 1 + 1, 1, none⟩ = some (.int .i64 a) := hb2.cell 1
  have a2 : W.cell? ⟨w.heap.size + 1 + 1, 2, none⟩ = some (.int .i64 b) := hb2.cell 2
  have a3 : W.cell? ⟨w.heap.size + 1 + 1, 3, none⟩ = some (.int .i64 c) := hb2.cell 3
  have FIN : Hid (∀ w1 wf R' S', RefAt w1 w1.heap.size R' S' → Below W.heap.size W w1 → Only (w.heap.size + 1 + 1 + 1) w1 wf → RefAt wf wf.heap.size R' S' ∧ Below w.heap.size w wf) := Lib.hid fun w1 wf R' S' h1 h2 h3 => by
    have hz := HZ.out
    have hk5 := HQ5.out.below h2 (by omega)
    refine ⟨((RefAt.refB (lo := w.heap.size + 1 + 1 + 1) (q := 1) h1 (by have := HTOP.out; omega) fun b' g1 g2 j u hu => ?_).only h3 (by omega) (by omega)).at_, (HB1.out.trans (h2.mono (by omega))).trans (h3.below (by omega))⟩
    obtain rfl : b' = w.heap.size + 1 + 1 + 1 := by omega
    rw [hk5.cell] at hu; exact refA_slices _ _ _ _ _ _ hu
  have HK5 : Hid (∀ w1, Below W.heap.size W w1 → Bk w1 (w.heap.size + 1 + 1 + 1) 53 (refA nilR 0 0 0)) := Lib.hid fun w1 h2 => HQ5.out.below h2 (by have := HZ.out; omega)
  simp only [nilR, refA, SysA, plantA] at HW
  clear hW hp hr hbW hWs hb0 hb1 hb2 hb3 hpW hrW hsh ok
  dsimp only [refA, SysA, plantA]
  by_cases k1 : what = 1
  · subst k1
    have Hf := Lib.hid (show doesB S 1 a b c = putB S a b c from rfl)
    go_enter Tryz.func25, Tryz.ntmps25
    go_wp2_with fail
    rw [← HW.out]
    go_wp2_with (first | (refine wpLoadAt rfl 53 _ rfl (w.heap.size + 1) 0 rfl (SysA R S) _ (fun j u hj => by rw [Nat.zero_add]; exact (HQ.out.cell j).trans hj) und_state rfl info_state ?_) | (refine wpLoadAt rfl 27 _ rfl w.heap.size 0 rfl (plantA x S.p) _ (fun j u hj => by rw [Nat.zero_add]; exact (HQ0.out.cell j).trans hj) und_plant rfl info_plant ?_))
    refine HPUT.out.mono ?_
    rintro e w1 ⟨R', rfl, hr1, hb1⟩
    have HR1 := Lib.hid hr1
    have HBB := Lib.hid hb1
    clear hr1 hb1
    go_wp2_with (refine wpStoreAt rfl rfl 53 _ _ rfl (w.heap.size + 1 + 1 + 1) 0 rfl (SysA R' (putB S a b c).2) rfl 53 _ (HK5.out w1 HBB.out) (by show 0 + 9 ≤ 9; omega) (refA_one _ _ _ _) info_state ?_; intro wf hkf hof)
    refine bodyPost_ret (results_cellS_tmp rfl _ _ (w.heap.size + 1 + 1 + 1) 53 (SysA R' (putB S a b c).2) _ rfl (by rw [splA_all _ _ (by rw [refA_size, refA_size])] at hkf; exact hkf) und_state rfl info_state) rfl ?_
    rw [Hf.out]
    exact ⟨R', rfl, (FIN.out w1 wf R' _ HR1.out HBB.out hof).1, (FIN.out w1 wf R' _ HR1.out HBB.out hof).2⟩
  by_cases k2 : what = 2
  · subst k2
    have Hf := Lib.hid (show doesB S 2 a b c = orderB S a (oddB b) from rfl)
    go_enter Tryz.func25, Tryz.ntmps25
    go_wp2_with fail
    rw [← HW.out]
    go_wp2_with (first | (refine wpLoadAt rfl 53 _ rfl (w.heap.size + 1) 0 rfl (SysA R S) _ (fun j u hj => by rw [Nat.zero_add]; exact (HQ.out.cell j).trans hj) und_state rfl info_state ?_) | (refine wpLoadAt rfl 27 _ rfl w.heap.size 0 rfl (plantA x S.p) _ (fun j u hj => by rw [Nat.zero_add]; exact (HQ0.out.cell j).trans hj) und_plant rfl info_plant ?_))
    refine HORD.out.mono ?_
    rintro e w1 ⟨R', rfl, hr1, hb1⟩
    have HR1 := Lib.hid hr1
    have HBB := Lib.hid hb1
    clear hr1 hb1
    go_wp2_with (refine wpStoreAt rfl rfl 53 _ _ rfl (w.heap.size + 1 + 1 + 1) 0 rfl (SysA R' (orderB S a (oddB b)).2) rfl 53 _ (HK5.out w1 HBB.out) (by show 0 + 9 ≤ 9; omega) (refA_one _ _ _ _) info_state ?_; intro wf hkf hof)
    refine bodyPost_ret (results_cellS_tmp rfl _ _ (w.heap.size + 1 + 1 + 1) 53 (SysA R' (orderB S a (oddB b)).2) _ rfl (by rw [splA_all _ _ (by rw [refA_size, refA_size])] at hkf; exact hkf) und_state rfl info_state) rfl ?_
    rw [Hf.out]
    exact ⟨R', rfl, (FIN.out w1 wf R' _ HR1.out HBB.out hof).1, (FIN.out w1 wf R' _ HR1.out HBB.out hof).2⟩
  by_cases k3 : what = 3
  · subst k3
    have Hf := Lib.hid (show doesB S 3 a b c = stickB S a (oddB b) from rfl)
    go_enter Tryz.func25, Tryz.ntmps25
    go_wp2_with fail
    rw [← HW.out]
    go_wp2_with (first | (refine wpLoadAt rfl 53 _ rfl (w.heap.size + 1) 0 rfl (SysA R S) _ (fun j u hj => by rw [Nat.zero_add]; exact (HQ.out.cell j).trans hj) und_state rfl info_state ?_) | (refine wpLoadAt rfl 27 _ rfl w.heap.size 0 rfl (plantA x S.p) _ (fun j u hj => by rw [Nat.zero_add]; exact (HQ0.out.cell j).trans hj) und_plant rfl info_plant ?_))
    refine HSTI.out.mono ?_
    rintro e w1 ⟨R', rfl, hr1, hb1⟩
    have HR1 := Lib.hid hr1
    have HBB := Lib.hid hb1
    clear hr1 hb1
    go_wp2_with (refine wpStoreAt rfl rfl 53 _ _ rfl (w.heap.size + 1 + 1 + 1) 0 rfl (SysA R' (stickB S a (oddB b)).2) rfl 53 _ (HK5.out w1 HBB.out) (by show 0 + 9 ≤ 9; omega) (refA_one _ _ _ _) info_state ?_; intro wf hkf hof)
    refine bodyPost_ret (results_cellS_tmp rfl _ _ (w.heap.size + 1 + 1 + 1) 53 (SysA R' (stickB S a (oddB b)).2) _ rfl (by rw [splA_all _ _ (by rw [refA_size, refA_size])] at hkf; exact hkf) und_state rfl info_state) rfl ?_
    rw [Hf.out]
    exact ⟨R', rfl, (FIN.out w1 wf R' _ HR1.out HBB.out hof).1, (FIN.out w1 wf R' _ HR1.out HBB.out hof).2⟩
  by_cases k4 : what = 4
  · subst k4
    have Hf := Lib.hid (show doesB S 4 a b c = leakB S a b from rfl)
    go_enter Tryz.func25, Tryz.ntmps25
    go_wp2_with fail
    rw [← HW.out]
    go_wp2_with (first | (refine wpLoadAt rfl 53 _ rfl (w.heap.size + 1) 0 rfl (SysA R S) _ (fun j u hj => by rw [Nat.zero_add]; exact (HQ.out.cell j).trans hj) und_state rfl info_state ?_) | (refine wpLoadAt rfl 27 _ rfl w.heap.size 0 rfl (plantA x S.p) _ (fun j u hj => by rw [Nat.zero_add]; exact (HQ0.out.cell j).trans hj) und_plant rfl info_plant ?_))
    refine HLEA.out.mono ?_
    rintro e w1 ⟨R', rfl, hr1, hb1⟩
    have HR1 := Lib.hid hr1
    have HBB := Lib.hid hb1
    clear hr1 hb1
    go_wp2_with (refine wpStoreAt rfl rfl 53 _ _ rfl (w.heap.size + 1 + 1 + 1) 0 rfl (SysA R' (leakB S a b).2) rfl 53 _ (HK5.out w1 HBB.out) (by show 0 + 9 ≤ 9; omega) (refA_one _ _ _ _) info_state ?_; intro wf hkf hof)
    refine bodyPost_ret (results_cellS_tmp rfl _ _ (w.heap.size + 1 + 1 + 1) 53 (SysA R' (leakB S a b).2) _ rfl (by rw [splA_all _ _ (by rw [refA_size, refA_size])] at hkf; exact hkf) und_state rfl info_state) rfl ?_
    rw [Hf.out]
    exact ⟨R', rfl, (FIN.out w1 wf R' _ HR1.out HBB.out hof).1, (FIN.out w1 wf R' _ HR1.out HBB.out hof).2⟩
  have Hf := Lib.hid (doesB_other (S := S) (a := a) (b := b) (c := c) k1 k2 k3 k4)
  go_enter Tryz.func25, Tryz.ntmps25
  go_wp2_with fail
  rw [← HW.out]
  go_wp2_with (first | (refine wpLoadAt rfl 53 _ rfl (w.heap.size + 1) 0 rfl (SysA R S) _ (fun j u hj => by rw [Nat.zero_add]; exact (HQ.out.cell j).trans hj) und_state rfl info_state ?_) | (refine wpLoadAt rfl 27 _ rfl w.heap.size 0 rfl (plantA x S.p) _ (fun j u hj => by rw [Nat.zero_add]; exact (HQ0.out.cell j).trans hj) und_plant rfl info_plant ?_))
  refine HTIC.out.mono ?_
  rintro e w1 ⟨R', rfl, hr1, hb1⟩
  have HR1 := Lib.hid hr1
  have HBB := Lib.hid hb1
  clear hr1 hb1
  go_wp2_with (refine wpStoreAt rfl rfl 53 _ _ rfl (w.heap.size + 1 + 1 + 1) 0 rfl (SysA R' (tickB S)) rfl 53 _ (HK5.out w1 HBB.out) (by show 0 + 9 ≤ 9; omega) (refA_one _ _ _ _) info_state ?_; intro wf hkf hof)
  refine bodyPost_ret (results_cellS_tmp rfl _ _ (w.heap.size + 1 + 1 + 1) 53 (SysA R' (tickB S)) _ rfl (by rw [splA_all _ _ (by rw [refA_size, refA_size])] at hkf; exact hkf) und_state rfl info_state) rfl ?_
  rw [Hf.out]
  exact ⟨R', rfl, (FIN.out w1 wf R' _ HR1.out HBB.out hof).1, (FIN.out w1 wf R' _ HR1.out HBB.out hof).2⟩
end Go.Proofs.YtogobjmmgjfjjaaGreat
/- What is proved: a contract of ullagelaw07.alike: it answers true. Conditions: the system and the state lie in memory and are of the same plain system. -/
namespace Go.Proofs.YtogobjmmgjfjjaaGreat
open Go.RowKit

theorem numberB_yes {S : Sys} {kind of_ : Int} (h : needB S.p kind of_ = true) : numberB S kind of_ = (numOf S kind of_, 0) := by unfold numberB; rw [if_pos h]
theorem numberB_no {S : Sys} {kind of_ : Int} (h : needB S.p kind of_ = false) : numberB S kind of_ = (0, 2) := by unfold numberB; rw [if_neg (by simp [h])]
theorem wantedB_yes {S : Sys} {i : Nat} (h : i < S.p.valves.length) : wantedB S i = ((S.at_ i).opn, 0) := by
  unfold wantedB; rw [if_pos (inB_iff.2 ⟨by omega, by omega⟩)]; rfl
theorem wantedB_end (S : Sys) : wantedB S S.p.valves.length = (false, 7) := by
  unfold wantedB; rw [if_neg (by intro h; have := inB_iff.1 h; omega)]
theorem allN_refl (n : Nat) (f : Nat → Int) : (decide (n = n) && allN n fun i => decide (f i = f i)) = true := by simp [allN]
theorem refIntsSame (w : World) (A1 A2 : Option Addr) (n c1 c2 : Nat) (f : Nat → Int) (h1 : Sl w w.heap.size 1 A1 n fun i _ => .int .i64 (f i)) (h2 : Sl w w.heap.size 1 A2 n fun i _ => .int .i64 (f i)) :
    Calls Tryz.prog 90 #[.slice A1 n c1, .slice A2 n c2] w fun e w' => e = .returned (.bool true) ∧ Below w.heap.size w w' := by
  have := refInts_any w A1 A2 n n c1 c2 f f h1 h2
  rw [allN_refl] at this
  exact this
set_option maxRecDepth 100000 in
set_option maxHeartbeats 8000000 in
theorem alike_any [Exc] (w : World) (X : SX) (x : PV) (R : RX) (S : Sys) (h : SysAt w X S) (hp : PlantAt w w.heap.size x S.p) (hr : RefAt w w.heap.size R S) :
    Calls Tryz.prog 31 #[.pointer (some ⟨X.sb, 0, none⟩), .agg (plantA x S.p), .agg (SysA R S)] w fun e w' => e = .returned (.bool true) ∧ Below w.heap.size w w' := by
  obtain ⟨W, hW⟩ : ∃ W, W = (w.alloc (.cells (plantA x S.p) 27)).alloc (.cells (SysA R S) 53) := ⟨_, rfl⟩
  have hbW : Below w.heap.size w W := by rw [hW]; exact ((Below.refl _ _).alloc (Nat.le_refl _) _).alloc (by simp) _
  have hWs : W.heap.size = w.heap.size + 2 := by rw [hW]; simp
  have hb0 : Bk W w.heap.size 27 (plantA x S.p) := by rw [hW]; exact (Bk.new _ _ _).alloc _
  have hb1 : Bk W (w.heap.size + 1) 53 (SysA R S) := by rw [hW]; exact Bk.newAt _ _ _ _ (by simp)
  have HPk : Hid (∀ z, Below W.heap.size W z → Bk z w.heap.size 27 (plantA x S.p)) := Lib.hid fun z hz => hb0.below hz hb0.lt
  have HSk : Hid (∀ z, Below W.heap.size W z → Bk z (w.heap.size + 1) 53 (SysA R S)) := Lib.hid fun z hz => hb1.below hz hb1.lt
  have hwz : ∀ z, Below W.heap.size W z → Below w.heap.size w z := fun z hz => hbW.trans (hz.mono hbW.size)
  have hsz : ∀ z, Below W.heap.size W z → w.heap.size ≤ z.heap.size := fun z hz => (hwz z hz).size
  have HWZ := Lib.hid hwz
  have hlen := h.lens
  have hsh := short_of h.ok.valid
  have HNum : Hid (∀ z, Below W.heap.size W z → ∀ k i : Int, Calls Tryz.prog 30 #[.pointer (some ⟨X.sb, 0, none⟩), .agg #[.int .i64 k, .int .i64 i, .int .i64 7, .int .i64 (-7)]] z
      fun e w' => e = .returned (.tuple #[.int .i64 (numberB S k i).1, .int .i64 (numberB S k i).2]) ∧ Below z.heap.size z w') := Lib.hid fun z hz k i => number_any z X S (h.below (hwz z hz)) k i 7 (-7)
  have HNd : Hid (∀ z (k i : Int), Calls Tryz.prog 77 #[.agg (plantA x S.p), .agg #[.int .i64 k, .int .i64 i, .int .i64 7, .int .i64 (-7)]] z
      fun e w' => e = .returned (.bool (needB S.p k i)) ∧ Below z.heap.size z w') := Lib.hid fun z k i => refNeed_any z x S.p (by obtain ⟨s1, s2, s3⟩ := hsh; exact ⟨by omega, by omega, by omega⟩) ⟨k, i, 7, -7⟩
  have HRN : Hid (∀ z, Below W.heap.size W z → ∀ k i : Int, needB S.p k i = true → Calls Tryz.prog 89 #[.agg (plantA x S.p), .agg (SysA R S), .agg #[.int .i64 k, .int .i64 i, .int .i64 7, .int .i64 (-7)]] z
      fun e w' => e = .returned (.int .i64 (numOf S k i)) ∧ Below z.heap.size z w') := Lib.hid fun z hz k i hn => refNumber_any z x R S ((hp.below (hwz z hz)).mono (hsz z hz)) ((hr.below (hwz z hz)).mono (hsz z hz)) h.ok k i 7 (-7) hn
  have HWa : Hid (∀ z, Below W.heap.size W z → ∀ v : Int, Calls Tryz.prog 38 #[.pointer (some ⟨X.sb, 0, none⟩), .int .i64 v] z
      fun e w' => e = .returned (.tuple #[.bool (wantedB S v).1, .int .i64 (wantedB S v).2]) ∧ Below z.heap.size z w') := Lib.hid fun z hz v => wanted_any z X S (h.below (hwz z hz)) v
  have HCa : Hid (∀ z, Below W.heap.size W z → Calls Tryz.prog 32 #[.pointer (some ⟨X.sb, 0, none⟩)] z (NewInts z S.p.lines.length S.carried)) := Lib.hid fun z hz => carried_any z X S (h.below (hwz z hz))
  have HLo : Hid (∀ z, Below W.heap.size W z → Calls Tryz.prog 33 #[.pointer (some ⟨X.sb, 0, none⟩)] z (NewInts z S.p.tanks.length fun i => (S.tank i).lost)) := Lib.hid fun z hz => lost_any z X S (h.below (hwz z hz))
  have HVe : Hid (∀ z, Below W.heap.size W z → Calls Tryz.prog 34 #[.pointer (some ⟨X.sb, 0, none⟩)] z (NewInts z S.p.tanks.length fun i => (S.tank i).vented)) := Lib.hid fun z hz => vented_any z X S (h.below (hwz z hz))
  have HRS : Hid (∀ z, Below W.heap.size W z → RefAt z z.heap.size R S) := Lib.hid fun z hz => (hr.below (hwz z hz)).mono (hsz z hz)
  have HKS : Hid (∀ z, Below W.heap.size W z → z.cell? ⟨w.heap.size + 1, 6, none⟩ = some (.slice (R.a 6) S.p.lines.length (R.c 6)) ∧ z.cell? ⟨w.heap.size + 1, 7, none⟩ = some (.slice (R.a 7) S.p.tanks.length (R.c 7)) ∧ z.cell? ⟨w.heap.size + 1, 8, none⟩ = some (.slice (R.a 8) S.p.tanks.length (R.c 8))) := Lib.hid fun z hz => ⟨(HSk.out z hz).cell 6, (HSk.out z hz).cell 7, (HSk.out z hz).cell 8⟩
  have HZ := Lib.hid hWs
  have HW := Lib.hid hW
  simp only [plantA, SysA, refA] at HW
  clear h hp hr hbW hWs hb0 hb1 hwz hsz hW hsh
  dsimp only [plantA, SysA, refA]
  go_enter Tryz.func31, Tryz.ntmps31
  go_wp2_with fail
  go_loopw [7] (fun i wr => ∃ k : Nat, k ≤ 4 ∧ i = .int .i64 k ∧ Hid (Below W.heap.size W wr)) (fun i _ => 4 - (intOf i).toNat)
  case atStart => exact ⟨0, by omega, rfl, Lib.hid (by rw [HW.out]; exact Below.refl _ _)⟩
  case round =>
    obtain ⟨k, hk, rfl, hb⟩ := hrel
    by_cases hlt : k < 4
    · have hki : (k : Int) < 4 := by omega
      go_wp2_with fail
      go_loopw [8] (fun i wr => ∃ m : Nat, m ≤ 35 ∧ i = .int .i64 ((m : Int) - 1) ∧ Hid (Below W.heap.size W wr)) (fun i _ => 35 - (intOf i + 1).toNat)
      case atStart => exact ⟨0, by omega, rfl, hb⟩
      case round =>
        obtain ⟨m, hm, rfl, hb⟩ := hrel
        have hbz := hb.out.size
        by_cases hlm : m < 35
        · have hmi : (m : Int) - 1 ≤ 33 := by omega
          obtain ⟨I, hI⟩ : ∃ I : Int, (m : Int) - 1 = I := ⟨_, rfl⟩
          rw [hI] at hmi ⊢
          have hIl : -1 ≤ I := by omega
          have HI := Lib.hid hI
          clear hI
          obtain ⟨W1, hW1⟩ : ∃ W1, W1 = wr.alloc (.cells #[.int .i64 k, .int .i64 I, .int .i64 7, .int .i64 (-7)] 70) := ⟨_, rfl⟩
          have HB1 : Hid (Below W.heap.size W W1) := Lib.hid (by rw [hW1]; exact hb.out.alloc hbz _)
          have HN1 : Hid (Bk W1 wr.heap.size 70 #[.int .i64 k, .int .i64 I, .int .i64 7, .int .i64 (-7)]) := Lib.hid (by rw [hW1]; exact Bk.new _ _ _)
          have HW1 := Lib.hid hW1
          clear hW1
          go_wp2_with fail
          rw [← HW1.out]
          refine (HNum.out W1 HB1.out k I).mono ?_
          rintro e w2 ⟨rfl, hb2⟩
          have HB2 := Lib.hid (HB1.out.trans (hb2.mono HB1.out.size))
          have HNb := Lib.hid (HN1.out.below hb2 HN1.out.lt)
          have HPb := Lib.hid (HPk.out w2 HB2.out)
          have n0 : w2.cell? ⟨wr.heap.size, 0, none⟩ = some (.int .i64 k) := HNb.out.cell 0
          have n1 : w2.cell? ⟨wr.heap.size, 1, none⟩ = some (.int .i64 I) := HNb.out.cell 1
          have n2 : w2.cell? ⟨wr.heap.size, 2, none⟩ = some (.int .i64 7) := HNb.out.cell 2
          have n3 : w2.cell? ⟨wr.heap.size, 3, none⟩ = some (.int .i64 (-7)) := HNb.out.cell 3
          clear hb2
          cases hq : needB S.p k I with
          | true =>
            have HY := Lib.hid (numberB_yes hq)
            have HQ := Lib.hid hq
            rw [HY.out]
            dsimp only
            clear hq
            go_wp2_with (refine wpLoadAt rfl 27 _ rfl w.heap.size 0 rfl (plantA x S.p) _ (fun j u hj => by rw [Nat.zero_add]; exact (HPb.out.cell j).trans hj) und_plant rfl info_plant ?_)
            refine (HNd.out w2 k I).mono ?_
            rintro e w3 ⟨rfl, hb3⟩
            rw [HQ.out]
            have HB3 := Lib.hid (HB2.out.trans (hb3.mono HB2.out.size))
            have HNc := Lib.hid (HNb.out.below hb3 HNb.out.lt)
            have HPc := Lib.hid (HPk.out w3 HB3.out)
            have HSc := Lib.hid (HSk.out w3 HB3.out)
            clear n0 n1 n2 n3 hb3
            have n0 : w3.cell? ⟨wr.heap.size, 0, none⟩ = some (.int .i64 k) := HNc.out.cell 0
            have n1 : w3.cell? ⟨wr.heap.size, 1, none⟩ = some (.int .i64 I) := HNc.out.cell 1
            have n2 : w3.cell? ⟨wr.heap.size, 2, none⟩ = some (.int .i64 7) := HNc.out.cell 2
            have n3 : w3.cell? ⟨wr.heap.size, 3, none⟩ = some (.int .i64 (-7)) := HNc.out.cell 3
            obtain ⟨v, hv⟩ : ∃ v, numOf S k I = v := ⟨_, rfl⟩
            rw [hv]
            have HV := Lib.hid hv
            clear hv
            go_wp2_with (first | (refine wpLoadAt rfl 53 _ rfl (w.heap.size + 1) 0 rfl (SysA R S) _ (fun j u hj => by rw [Nat.zero_add]; exact (HSc.out.cell j).trans hj) und_state rfl info_state ?_) | (refine wpLoadAt rfl 27 _ rfl w.heap.size 0 rfl (plantA x S.p) _ (fun j u hj => by rw [Nat.zero_add]; exact (HPc.out.cell j).trans hj) und_plant rfl info_plant ?_))
            refine (HRN.out w3 HB3.out k I HQ.out).mono ?_
            rintro e w4 ⟨rfl, hb4⟩
            rw [HV.out]
            have HB4 := Lib.hid (HB3.out.trans (hb4.mono HB3.out.size))
            clear hb4 n0 n1 n2 n3
            go_wp2_with fail
            go_roundw
            case rel => exact ⟨m + 1, by omega, by have := HI.out; go_num, HB4⟩
            case measure => have := HI.out; simp [intOf]; omega
          | false =>
            have HY := Lib.hid (numberB_no hq)
            have HQ := Lib.hid hq
            rw [HY.out]
            dsimp only
            clear hq
            go_wp2_with (refine wpLoadAt rfl 27 _ rfl w.heap.size 0 rfl (plantA x S.p) _ (fun j u hj => by rw [Nat.zero_add]; exact (HPb.out.cell j).trans hj) und_plant rfl info_plant ?_)
            refine (HNd.out w2 k I).mono ?_
            rintro e w3 ⟨rfl, hb3⟩
            rw [HQ.out]
            have HB3 := Lib.hid (HB2.out.trans (hb3.mono HB2.out.size))
            clear n0 n1 n2 n3 hb3
            go_wp2_with fail
            go_roundw
            case rel => exact ⟨m + 1, by omega, by have := HI.out; go_num, HB3⟩
            case measure => have := HI.out; simp [intOf]; omega
        · obtain rfl : m = 35 := by omega
          go_wp2_with fail
          go_roundw
          case rel => exact ⟨k + 1, by omega, by go_num, hb⟩
          case measure => simp [intOf]; omega
    · obtain rfl : k = 4 := by omega
      have hnv : S.p.valves.length ≤ 12 := by omega
      go_wp2_with fail
      obtain ⟨nv, hnV⟩ : ∃ nv, S.p.valves.length = nv := ⟨_, rfl⟩
      have HNV := Lib.hid hnV
      rw [hnV] at hnv
      clear hnV
      have HPC : Hid (∀ z, Below W.heap.size W z → z.cell? ⟨w.heap.size, 1, none⟩ = some (.slice x.vA nv x.vc)) := Lib.hid fun z hz => by rw [← HNV.out]; exact (HPk.out z hz).cell 1
      have HSC : Hid (∀ z, Below W.heap.size W z → z.cell? ⟨w.heap.size + 1, 3, none⟩ = some (.slice (R.a 3) nv (R.c 3))) := Lib.hid fun z hz => by rw [← HNV.out]; exact (HSk.out z hz).cell 3
      go_loopw [12] (fun i wr => ∃ m : Nat, m ≤ nv ∧ i = .int .i64 m ∧ Hid (Below W.heap.size W wr)) (fun i _ => nv - (intOf i).toNat)
      case atStart => exact ⟨0, Nat.zero_le _, rfl, hb⟩
      case round =>
        obtain ⟨m, hm, rfl, hb⟩ := hrel
        have p1 := HPC.out _ hb.out
        by_cases hlm : m < nv
        · have hmi : (m : Int) < (nv : Int) := by omega
          have hmS : m < S.p.valves.length := by rw [HNV.out]; exact hlm
          have HY := Lib.hid (wantedB_yes hmS)
          clear hmS
          go_wp2_with fail
          refine (HWa.out _ hb.out m).mono ?_
          rintro e w2 ⟨rfl, hb2⟩
          rw [HY.out]
          dsimp only
          have HB2 := Lib.hid (hb.out.trans (hb2.mono hb.out.size))
          have p2 := HSC.out _ HB2.out
          obtain ⟨b, o, hA, hB, hd⟩ := Sl.at1 (HRS.out w2 HB2.out 3 (by omega)).sl (by show m < S.p.valves.length; rw [HNV.out]; exact hlm)
          have hd' : w2.cell? ⟨b, o + m, none⟩ = some (.bool (S.at_ m).opn) := hd
          rw [hA] at p2
          clear hb2 hd
          obtain ⟨g, hg⟩ : ∃ g, (S.at_ m).opn = g := ⟨_, rfl⟩
          rw [hg] at hd' ⊢
          clear hg
          go_wp2_with fail
          go_roundw
          case rel => exact ⟨m + 1, by omega, by go_num, HB2⟩
          case measure => simp [intOf]; omega
        · obtain rfl : m = nv := by omega
          go_wp2_with fail
          refine (HWa.out _ hb.out m).mono ?_
          rintro e w2 ⟨rfl, hb2⟩
          have hend := wantedB_end S
          rw [HNV.out] at hend
          rw [hend]
          dsimp only
          clear hend
          have HB2 := Lib.hid (hb.out.trans (hb2.mono hb.out.size))
          clear hb2 p1
          go_wp2_with fail
          go_loud (go_region_held3 (fun z => z.cell? ⟨w.heap.size + 1, 6, none⟩ = some (.slice (R.a 6) S.p.lines.length (R.c 6)) ∧ z.cell? ⟨w.heap.size + 1, 7, none⟩ = some (.slice (R.a 7) S.p.tanks.length (R.c 7)) ∧ z.cell? ⟨w.heap.size + 1, 8, none⟩ = some (.slice (R.a 8) S.p.tanks.length (R.c 8))) (first | exact HKS.out _ HB2.out.drew | exact HKS.out _ HB3.out | exact HKS.out _ HB4.out | exact HKS.out _ HB5.out | exact HKS.out _ HB6.out | exact HKS.out _ HB7.out | exact HKS.out _ HB8.out)
            (first
              | (go_at_call 32; refine (HCa.out _ HB2.out.drew).mono ?_; rintro e w3 ⟨A3, c3, rfl, hc3, hb3⟩; have HB3 := Lib.hid (HB2.out.drew.trans (hb3.mono HB2.out.drew.size)); have HC3 := Lib.hid hc3; clear hc3 hb3)
              | (go_at_call 90; have q := refIntsSame w3 A3 (R.a 6) S.p.lines.length c3 (R.c 6) S.carried HC3.out.sl (HRS.out w3 HB3.out 6 (by omega)).sl; clear HC3; refine q.mono ?_; rintro e w4 ⟨rfl, hb4⟩; have HB4 := Lib.hid (HB3.out.trans (hb4.mono HB3.out.size)); clear q hb4)
              | (go_at_call 33; refine (HLo.out _ HB4.out).mono ?_; rintro e w5 ⟨A5, c5, rfl, hc5, hb5⟩; have HB5 := Lib.hid (HB4.out.trans (hb5.mono HB4.out.size)); have HC5 := Lib.hid hc5; clear hc5 hb5)
              | (go_at_call 90; have q := refIntsSame w5 A5 (R.a 7) S.p.tanks.length c5 (R.c 7) (fun i => (S.tank i).lost) HC5.out.sl (HRS.out w5 HB5.out 7 (by omega)).sl; clear HC5; refine q.mono ?_; rintro e w6 ⟨rfl, hb6⟩; have HB6 := Lib.hid (HB5.out.trans (hb6.mono HB5.out.size)); clear q hb6)
              | (go_at_call 34; refine (HVe.out _ HB6.out).mono ?_; rintro e w7 ⟨A7, c7, rfl, hc7, hb7⟩; have HB7 := Lib.hid (HB6.out.trans (hb7.mono HB6.out.size)); have HC7 := Lib.hid hc7; clear hc7 hb7)
              | (go_at_call 90; have q := refIntsSame w7 A7 (R.a 8) S.p.tanks.length c7 (R.c 8) (fun i => (S.tank i).vented) HC7.out.sl (HRS.out w7 HB7.out 8 (by omega)).sl; clear HC7; refine q.mono ?_; rintro e w8 ⟨rfl, hb8⟩; have HB8 := Lib.hid (HB7.out.trans (hb8.mono HB7.out.size)); clear q hb8)))
          go_wp2_with fail
          go_ret
          exact ⟨rfl, HWZ.out _ HB8.out⟩
end Go.Proofs.YtogobjmmgjfjjaaGreat
/- What is proved: how a system and the document's state lie side by side in a law. Conditions: those that each lemma states. -/
namespace Go.Proofs.YtogobjmmgjfjjaaGreat
open Go.RowKit

/-- The blocks of a system in which no list of a state lies. -/
@[reducible] def SX.exc (X : SX) : Exc := ⟨fun b => (b = X.sb ∨ b = X.tb ∨ b = X.cb) ∧ b < X.hi, X.hi, fun _ h => h.2⟩
theorem tickB_p (S : Sys) : (tickB S).p = S.p := by unfold tickB; rw [tanksK_p, linesK_p]; rfl
theorem doesB_p (S : Sys) (what a b c : Int) : (doesB S what a b c).2.p = S.p := by
  unfold doesB
  split
  · unfold putB; split
    · split <;> rfl
    · rfl
  · split
    · unfold orderB; split
      · split <;> rfl
      · rfl
    · split
      · unfold stickB; split <;> rfl
      · split
        · unfold leakB; split
          · split <;> rfl
          · rfl
        · exact tickB_p S
/-- A system S, and a state of T in the box sx. -/
structure Side (W : World) (X : SX) (sx : Nat) (p : PlantD) (wr : World) (S T : Sys) : Prop where
  sys : SysAt wr X S
  st : ∃ R, Bk wr sx 53 (SysA R T) ∧ @RefB X.exc wr sx (sx + 1) R T
  below : Below W.heap.size W wr
  hp : S.p = p
  tp : T.p = p
  lo : W.heap.size ≤ X.lo
  hi : X.hi ≤ sx
section
variable {W wr w1 wf : World} {X : SX} {sx : Nat} {p : PlantD} {S T S' T' : Sys}
theorem Side.later (h : Side W X sx p wr S T) (hb : Below wr.heap.size wr w1) : Side W X sx p w1 S T := by
  obtain ⟨R, h1, h2⟩ := h.st
  letI : Exc := X.exc
  exact ⟨h.sys.below hb, ⟨R, h1.below hb h1.lt, RefB.below h2 hb⟩, h.below.trans (hb.mono h.below.size), h.hp, h.tp, h.lo, h.hi⟩
theorem Side.wlt (h : Side W X sx p wr S T) : W.heap.size ≤ sx := by
  have := h.sys.lo; have := h.sys.hi; have := h.lo; have := h.hi; omega
theorem Side.does (h : Side W X sx p wr S T) (hs : SysAt w1 X S') (hc : Chg X wr w1) (hp : S'.p = S.p) : Side W X sx p w1 S' T := by
  letI : Exc := X.exc
  obtain ⟨R, h1, h2⟩ := h.st
  have l := h.sys.lo; have u := h.sys.hi; have l2 := h.lo; have u2 := h.hi; have l1 := h1.lt; have hsz := h.below.size; have hcs := hc.size
  refine ⟨hs, ⟨R, (hc.block sx l1 (by omega) (by omega) (by omega)).trans h1, h2.1, fun k hk => ?_⟩, h.below.trans (hc.below hsz (by omega) (by omega) (by omega)), hp.trans h.hp, h.tp, h.lo, h.hi⟩
  have hk' : @SlO X.exc _ _ _ _ _ := h2.2 k hk
  refine ⟨⟨hk'.sl.1, fun hn => ?_⟩, Nat.le_trans hk'.top hcs, hk'.out⟩
  obtain ⟨b, off, e, hD, hcell⟩ := hk'.sl.2 hn
  have hne := hk'.out b off hn e
  refine ⟨b, off, e, ⟨hD.1, by omega⟩, fun i hi j hj => ?_⟩
  have hb3 : b ≠ X.sb ∧ b ≠ X.tb ∧ b ≠ X.cb := by
    refine ⟨?_, ?_, ?_⟩ <;> (rintro rfl; exact hne ⟨by simp, by omega⟩)
  exact (World.cell?_of_block (hc.block b hD.2 hb3.1 hb3.2.1 hb3.2.2)).trans (hcell i hi j hj)
theorem RefAt.box {R R0 : RX} {nb a b c : Nat} (hr : @RefAt X.exc w1 w1.heap.size R T) (ht : X.hi ≤ nb + 1) (hb : Bk w1 nb 53 (refA R0 a b c)) (ho : Only nb w1 wf) : @RefB X.exc wf nb (nb + 1) R T := by
  letI : Exc := X.exc
  refine RefB.only (RefAt.refB (lo := nb) (q := 1) hr ht fun b' g1 g2 j u hu => ?_) ho (by omega) (by omega)
  obtain rfl : b' = nb := by omega
  rw [hb.cell] at hu; exact refA_slices _ _ _ _ _ _ hu
theorem Side.store {R' : RX} (h : Side W X sx p wr S T) (hb : Below wr.heap.size wr w1) (hr : @RefAt X.exc w1 w1.heap.size R' T') (hp : T'.p = T.p) (hk : Bk wf sx 53 (SysA R' T')) (ho : Only sx w1 wf) : Side W X sx p wf S T' := by
  letI : Exc := X.exc
  have h1 := h.later hb
  obtain ⟨R, g1, g2⟩ := h1.st
  have u2 := h.hi; have hw := h.wlt
  refine ⟨h1.sys.keep (fun b _ hh => ho.block b (by omega)) (by rw [ho.size]; exact Nat.le_refl _), ⟨R', hk, RefAt.box hr (by omega) g1 ho⟩, h1.below.trans (ho.below hw), h.hp, hp.trans h.tp, h.lo, h.hi⟩
/-- The cells of a state of the plant p. -/
def RA (p : PlantD) (R : RX) : Array Value := refA R p.tanks.length p.valves.length p.lines.length
theorem RA_of {S : Sys} (h : S.p = p) (R : RX) : SysA R S = RA p R := by subst h; rfl
theorem RA_spl (p : PlantD) (R R' : RX) : splA (RA p R) 0 (RA p R').toList = RA p R' := splA_all _ _ (by unfold RA; rw [refA_size, refA_size])
theorem RA_one (p : PlantD) (R : RX) : ∀ u ∈ (RA p R).toList, u.oneCell' = true := refA_one _ _ _ _
theorem RA_size (p : PlantD) (R : RX) : (RA p R).size = 9 := refA_size _ _ _ _
def Boxy (w : World) (nb : Nat) : Prop := ∃ R0 a b c, Bk w nb 53 (refA R0 a b c)
theorem Boxy.only {w w' : World} {g nb a b c : Nat} {R0 : RX} (h : Boxy w nb) (ho : Only g w w') (hg : Bk w' g 53 (refA R0 a b c)) : Boxy w' nb := by
  by_cases e : nb = g
  · subst e; exact ⟨_, _, _, _, hg⟩
  · obtain ⟨R1, a1, b1, c1, hb⟩ := h; exact ⟨_, _, _, _, hb.only ho e⟩
/-- What an operation does to the world: m stores a state into a box, the others make memory. -/
def SideE (X : SX) (T : Sys) (m j : Nat) (w1 w2 : World) : Prop :=
  (j ≠ m → Below w1.heap.size w1 w2) ∧ (j = m → (∀ R', @RefAt X.exc w1 w1.heap.size R' T → @RefAt X.exc w2 w2.heap.size R' T) ∧ ∀ nb, Boxy w1 nb → Boxy w2 nb)
/-- What is left by the operations of 'next, f := due(p, w, a)'. -/
def SideR (X : SX) (p : PlantD) (E : Int) (T : Sys) (wr : World) (ix : Nat) (u : Value) (d : Nat → Value) (w1 : World) : Prop :=
  (ix = 6 ∨ ix = 7 → ∃ R', u = .tuple #[.agg (RA p R'), .int .i64 E] ∧ @RefAt X.exc w1 w1.heap.size R' T) ∧ (ix = 8 → ∃ R', u = .agg (RA p R') ∧ @RefAt X.exc w1 w1.heap.size R' T) ∧
  (ix = 10 → ∃ nb, u = .pointer (some ⟨nb, 0, none⟩) ∧ wr.heap.size ≤ nb ∧ Boxy w1 nb) ∧
  (ix = 11 → ∃ R' nb, d 10 = .pointer (some ⟨nb, 0, none⟩) ∧ d 8 = .agg (RA p R') ∧ wr.heap.size ≤ nb ∧ Bk w1 nb 53 (RA p R'))
theorem SideR.keep {w2 : World} {E : Int} {i j : Nat} {u : Value} {d : Nat → Value} (hij : i ≠ j) (h : SideR X p E T wr i u d w1) (he : SideE X T 11 j w1 w2) : SideR X p E T wr i u d w2 := by
  letI : Exc := X.exc
  obtain ⟨h1, h2, h3, h4⟩ := h
  by_cases hj : j = 11
  · obtain ⟨k1, k2⟩ := he.2 hj
    refine ⟨fun e => ?_, fun e => ?_, fun e => ?_, fun e => absurd (e.trans hj.symm) hij⟩
    · obtain ⟨R', a, b⟩ := h1 e; exact ⟨R', a, k1 R' b⟩
    · obtain ⟨R', a, b⟩ := h2 e; exact ⟨R', a, k1 R' b⟩
    · obtain ⟨nb, a, b, c⟩ := h3 e; exact ⟨nb, a, b, k2 nb c⟩
  · have hb := he.1 hj
    refine ⟨fun e => ?_, fun e => ?_, fun e => ?_, fun e => ?_⟩
    · obtain ⟨R', a, b⟩ := h1 e; exact ⟨R', a, (RefAt.below b hb).mono hb.size⟩
    · obtain ⟨R', a, b⟩ := h2 e; exact ⟨R', a, (RefAt.below b hb).mono hb.size⟩
    · obtain ⟨nb, a, b, R1, a1, b1, c1, c⟩ := h3 e; exact ⟨nb, a, b, R1, a1, b1, c1, c.below hb c.lt⟩
    · obtain ⟨R', nb, a, b, c, d'⟩ := h4 e; exact ⟨R', nb, a, b, c, d'.below hb d'.lt⟩
theorem SideE.same (w : World) {j : Nat} (hj : j ≠ 11) : SideE X T 11 j w w := ⟨fun _ => Below.refl _ _, fun h => absurd h hj⟩
theorem SideE.below {w w' : World} {j : Nat} (hj : j ≠ 11) (hb : Below w.heap.size w w') : SideE X T 11 j w w' := ⟨fun _ => hb, fun h => absurd h hj⟩
theorem SideE.store {w w' : World} {nb a b c a' b' c' : Nat} {R0 R1 : RX} (ht : X.hi ≤ nb + 1) (h : Bk w nb 53 (refA R0 a b c)) (ho : Only nb w w') (h' : Bk w' nb 53 (refA R1 a' b' c')) : SideE X T 11 11 w w' := by
  letI : Exc := X.exc
  exact ⟨fun e => absurd rfl e, fun _ => ⟨fun R' hr => RefB.at_ (RefAt.box hr ht h ho), fun n hn => hn.only ho h'⟩⟩
theorem Side.start {R : RX} {nb a b c : Nat} {R0 : RX} {w4 : World} (hs : SysAt w4 X S) (hlo : W.heap.size ≤ X.lo) (hb : Below W.heap.size W w4) (hr : @RefAt X.exc w4 w4.heap.size R T) (hp : S.p = p) (ht : T.p = p)
    (hn : nb = w4.heap.size) (hk : Bk wf nb 53 (SysA R T)) (ho : Only nb (w4.alloc (.cells (refA R0 a b c) 53)) wf) : Side W X nb p wf S T := by
  letI : Exc := X.exc
  subst hn
  have hal : Below w4.heap.size w4 (w4.alloc (.cells (refA R0 a b c) 53)) := (Below.refl _ _).alloc (Nat.le_refl _) _
  have h5 := hs.hi.2.2.2.2
  have hsz := hb.size
  have hr1 := (RefAt.below hr hal).mono hal.size
  exact ⟨(hs.below hal).keep (fun b _ hh => ho.block b (by omega)) (by rw [ho.size]; exact Nat.le_refl _), ⟨R, hk, RefAt.box hr1 (by omega) (Bk.new _ _ _) ho⟩, (hb.trans (hal.mono hsz)).trans (ho.below hsz), hp, ht, hlo, h5⟩
end
end Go.Proofs.YtogobjmmgjfjjaaGreat
/- What is proved: the law EnginePlays answers true. Conditions: the plant and the acts lie in memory. -/
namespace Go.Proofs.YtogobjmmgjfjjaaGreat
open Go.RowKit
end Go.Proofs.YtogobjmmgjfjjaaGreat
