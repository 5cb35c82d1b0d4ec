/- What is proved: the texts Q2 R9 Ra Rb Rc, one behind the other; each says at its head what it proves, and under which conditions. -/
import Derived.Outline
import Derived.StillTailTactics
import Derived.Deep.CutBlock
import Derived.Deep.DeepCutAuto
import Derived.Test.YtogobjmmgjfjjaaGreatdPOwns6
/- What is proved: a rule for a region whose order is drawn, in which all is read, then one call makes memory, then one store turns old memory: one walk in the order of the text. Conditions: those that the rule states. -/
namespace Go.Proofs.YtogobjmmgjfjjaaGreat
open Go.RowKit
section
variable {P : Program} {l : List Oper} {ops : Array Oper} {C : World → Prop}
end
end Go.Proofs.YtogobjmmgjfjjaaGreat
/- What is proved: contracts of ullageref07's Pressure, Number, open. Conditions: the plant and the state lie in memory; the state's numbers are a system's. -/
namespace Go.Proofs.YtogobjmmgjfjjaaGreat
open Go.RowKit

set_option maxRecDepth 100000 in
set_option maxHeartbeats 2000000 in
theorem refPressure_any [Exc] (w : World) (x : PV) (R : RX) (S : Sys) (hp : PlantAt w w.heap.size x S.p) (hr : RefAt w w.heap.size R S) (ok : SysOk S) (i : Nat) (hi : i < S.p.tanks.length) :
    Calls Tryz.prog 147 #[.agg (plantA x S.p), .agg (SysA R S), .int .i64 i] w fun e w' => e = .returned (.int .i64 (pressB S i)) ∧ Below w.heap.size w w' := by
  have hii : (i : Int) < (S.p.tanks.length : Int) := by omega
  have h0i : (0 : Int) ≤ (i : Int) := by omega
  obtain ⟨bt, ot, hAt, hBt, _, d1, d2, _⟩ := hp.tanks.at4 hi
  simp only [tankC] at d1 d2
  obtain ⟨bc, oc, hAc, hBc, dc⟩ := (show Sl w w.heap.size 1 (R.a 0) S.p.tanks.length fun i _ => .int .i64 (S.tank i).content from (hr 0 (by omega)).sl).at1v hi
  obtain ⟨bg, og, hAg, hBg, dg⟩ := (show Sl w w.heap.size 1 (R.a 1) S.p.tanks.length fun i _ => .int .i64 (S.tank i).gas from (hr 1 (by omega)).sl).at1v hi
  obtain ⟨W, hW⟩ : ∃ W, W = (w.alloc (.cells (plantA x S.p) 27)).alloc (.cells (SysA R S) 53) := ⟨_, rfl⟩
  have hbW : Below w.heap.size w W := by rw [hW]; exact ((Below.refl _ _).alloc (Nat.le_refl _) _).alloc (by simp) _
  have hb0 : Bk W w.heap.size 27 (plantA x S.p) := by rw [hW]; exact (Bk.new _ _ _).alloc _
  have hb1 : Bk W (w.heap.size + 1) 53 (SysA R S) := by rw [hW]; exact Bk.newAt _ _ _ _ (by simp)
  have p0 : ∀ z : Ext W, z.w.cell? ⟨w.heap.size, 0, none⟩ = some (.slice (some ⟨bt, ot, none⟩) S.p.tanks.length x.tc) := Ext.cell (by rw [← hAt]; exact hb0.cell 0)
  have s0 : ∀ z : Ext W, z.w.cell? ⟨w.heap.size + 1, 0, none⟩ = some (.slice (some ⟨bc, oc, none⟩) S.p.tanks.length (R.c 0)) := Ext.cell (by rw [← hAc]; exact hb1.cell 0)
  have s1 : ∀ z : Ext W, z.w.cell? ⟨w.heap.size + 1, 1, none⟩ = some (.slice (some ⟨bg, og, none⟩) S.p.tanks.length (R.c 1)) := Ext.cell (by rw [← hAg]; exact hb1.cell 1)
  have q1 : ∀ z : Ext W, z.w.cell? ⟨bt, ot + i * 4 + 1, none⟩ = some (.int .i64 (S.p.tank i).room) := Ext.cell ((hbW.cell (p := ⟨bt, _, none⟩) hBt).trans d1)
  have q2 : ∀ z : Ext W, z.w.cell? ⟨bt, ot + i * 4 + 2, none⟩ = some (.int .i64 (S.p.tank i).least) := Ext.cell ((hbW.cell (p := ⟨bt, _, none⟩) hBt).trans d2)
  have q3 : ∀ z : Ext W, z.w.cell? ⟨bc, oc + i, none⟩ = some (.int .i64 (S.tank i).content) := Ext.cell ((hbW.cell (p := ⟨bc, _, none⟩) hBc).trans dc)
  have q4 : ∀ z : Ext W, z.w.cell? ⟨bg, og + i, none⟩ = some (.int .i64 (S.tank i).gas) := Ext.cell ((hbW.cell (p := ⟨bg, _, none⟩) hBg).trans dg)
  have HB := Lib.hid hbW
  have HW := Lib.hid hW
  simp only [plantA, refA, SysA] at HW
  have b1 := tankOk_of ok.valid i hi
  have b2 := ok.tanks i hi
  have b3 := ok.room i hi
  have HP := Lib.hid (show pressB S i = (S.tank i).gas * 100 / roomB S i from rfl)
  have HR := Lib.hid (show roomB S i = if (S.p.tank i).least < (S.p.tank i).room - (S.tank i).content then (S.p.tank i).room - (S.tank i).content else (S.p.tank i).least from max_go _ _)
  have hw : IntKind.i64.wrap ((S.p.tank i).room - (S.tank i).content) = (S.p.tank i).room - (S.tank i).content := IntWalk.i64_in _ (by omega)
  have hwg : IntKind.i64.wrap ((S.tank i).gas * 100) = (S.tank i).gas * 100 := IntWalk.i64_in _ (by omega)
  clear hW hbW hb0 hb1 hAt hAc hAg d1 d2 dc dg hp hr ok
  dsimp only [plantA, refA, SysA]
  generalize S.p.tanks.length = nt at *
  have key : ∀ d : Int, roomB S i = d → 0 < d → d ≤ 1073741824 → ((S.tank i).gas * 100).tdiv d = (S.tank i).gas * 100 / d ∧ (d == 0) = false ∧ IntKind.i64.wrap ((S.tank i).gas * 100 / d) = (S.tank i).gas * 100 / d := fun d _ h1 h2 => by
    have hlo : 0 ≤ (S.tank i).gas * 100 / d := Int.ediv_nonneg (by omega) (by omega)
    have hhi : (S.tank i).gas * 100 / d ≤ (S.tank i).gas * 100 := Int.ediv_le_self _ (by omega)
    exact ⟨Int.tdiv_eq_ediv_of_nonneg (by omega), by rw [beq_eq_false_iff_ne]; omega, IntWalk.i64_in _ (by omega)⟩
  by_cases hm : (S.p.tank i).least < (S.p.tank i).room - (S.tank i).content
  · have he : roomB S i = (S.p.tank i).room - (S.tank i).content := by rw [HR.out, if_pos hm]
    obtain ⟨k1, k2, k3⟩ := key _ he (by omega) (by omega)
    have HE := Lib.hid he
    clear he key b3
    go_enter Tryz.func147, Tryz.ntmps147
    go_wp2_with fail
    rw [← HW.out]
    refine wp_region_ext_quiet (by kernel_rfl) (by kernel_rfl) ?_
    repeat (go_big_quiet_step (fail))
    refine wpQuiet_nil ?_
    intro w1 hw1
    go_wp2_with fail
    go_ret
    exact ⟨ret_int (by rw [HP.out, HE.out]), HB.out.trans (hw1.mono HB.out.size)⟩
  · have he : roomB S i = (S.p.tank i).least := by rw [HR.out, if_neg hm]
    obtain ⟨k1, k2, k3⟩ := key _ he (by omega) (by omega)
    have HE := Lib.hid he
    clear he key b3
    go_enter Tryz.func147, Tryz.ntmps147
    go_wp2_with fail
    rw [← HW.out]
    refine wp_region_ext_quiet (by kernel_rfl) (by kernel_rfl) ?_
    repeat (go_big_quiet_step (fail))
    refine wpQuiet_nil ?_
    intro w1 hw1
    go_wp2_with fail
    go_ret
    exact ⟨ret_int (by rw [HP.out, HE.out]), HB.out.trans (hw1.mono HB.out.size)⟩

theorem needB_kind {p : PlantD} {kind of_ : Int} (h : needB p kind of_ = true) : (kind = 0 ∨ kind = 1 ∨ kind = 2 ∨ kind = 3) ∧ 0 ≤ of_ ∧
    (kind = 0 → of_ < p.tanks.length) ∧ (kind = 1 → of_ < p.tanks.length) ∧ (kind = 2 → of_ < p.lines.length) ∧ (kind = 3 → of_ < p.valves.length) := by
  unfold needB at h
  split at h
  · have := inB_iff.1 h; omega
  · split at h
    · have := inB_iff.1 h; omega
    · split at h
      · have := inB_iff.1 h; omega
      · split at h
        · have := inB_iff.1 h; omega
        · cases h
set_option maxRecDepth 100000 in
set_option maxHeartbeats 2000000 in
theorem refNumber_any [Exc] (w : World) (x : PV) (R : RX) (S : Sys) (hp : PlantAt w w.heap.size x S.p) (hr : RefAt w w.heap.size R S) (ok : SysOk S) (kind of_ low high : Int) (hn : needB S.p kind of_ = true) :
    Calls Tryz.prog 89 #[.agg (plantA x S.p), .agg (SysA R S), .agg #[.int .i64 kind, .int .i64 of_, .int .i64 low, .int .i64 high]] w fun e w' => e = .returned (.int .i64 (numOf S kind of_)) ∧ Below w.heap.size w w' := by
  obtain ⟨hk, h0, k0, k1, k2, k3⟩ := needB_kind hn
  obtain ⟨i, rfl⟩ := Int.eq_ofNat_of_zero_le h0
  obtain ⟨W, hW⟩ : ∃ W, W = ((w.alloc (.cells (plantA x S.p) 27)).alloc (.cells (SysA R S) 53)).alloc (.cells #[.int .i64 kind, .int .i64 i, .int .i64 low, .int .i64 high] 70) := ⟨_, rfl⟩
  have hbW : Below w.heap.size w W := by rw [hW]; exact (((Below.refl _ _).alloc (Nat.le_refl _) _).alloc (by simp) _).alloc (by simp; omega) _
  have hb0 : Bk W w.heap.size 27 (plantA x S.p) := by rw [hW]; exact ((Bk.new _ _ _).alloc _).alloc _
  have hb1 : Bk W (w.heap.size + 1) 53 (SysA R S) := by rw [hW]; exact (Bk.newAt _ _ _ _ (by simp)).alloc _
  have hb2 : Bk W (w.heap.size + 1 + 1) 70 #[.int .i64 kind, .int .i64 i, .int .i64 low, .int .i64 high] := by rw [hW]; exact Bk.newAt _ _ _ _ (by simp)
  have n0 : W.cell? ⟨w.heap.size + 1 + 1, 0, none⟩ = some (.int .i64 kind) := hb2.cell 0
  have n1 : W.cell? ⟨w.heap.size + 1 + 1, 1, none⟩ = some (.int .i64 i) := hb2.cell 1
  have HB := Lib.hid hbW
  have HW := Lib.hid hW
  simp only [plantA, refA, SysA] at HW
  have h0i : (0 : Int) ≤ (i : Int) := by omega
  have HR : Hid (∀ k, k < 9 → i < lenR S.p k → ∃ b off, R.a k = some ⟨b, off, none⟩ ∧ b < w.heap.size ∧ w.cell? ⟨b, off + i, none⟩ = some (valR S k i)) := Lib.hid fun k hk hi => (hr k hk).at1v hi
  have HPR : Hid (i < S.p.tanks.length → Calls Tryz.prog 147 #[.agg (plantA x S.p), .agg (SysA R S), .int .i64 i] W fun e w' => e = .returned (.int .i64 (pressB S i)) ∧ Below W.heap.size W w') := Lib.hid fun hi =>
    refPressure_any W x R S ((hp.below hbW).mono hbW.size) ((hr.below hbW).mono hbW.size) ok i hi
  have HPc := Lib.hid fun j => hb0.cell j
  have HSc := Lib.hid fun j => hb1.cell j
  have hnt := hp.tanks.1
  have hnl := hp.lines.1
  have hnv := hp.valves.1
  simp only [plantA, refA, SysA] at HPR
  clear hW hbW hb0 hb1 hb2 hp hr ok h0 hn
  dsimp only [plantA, refA, SysA]
  rcases hk with rfl | rfl | rfl | rfl
  · have hi : i < S.p.tanks.length := by have := k0 rfl; omega
    obtain ⟨b, off, hA, hB', d⟩ := HR.out 0 (by omega) hi
    have HF := Lib.hid (show numOf S 0 i = (S.tank i).content by unfold numOf; rw [if_pos rfl, Int.toNat_natCast])
    have hii : (i : Int) < (S.p.tanks.length : Int) := by omega
    simp only [valR] at d
    have hB2 : b < w.heap.size + 1 := by omega
    have hB3 : b < w.heap.size + 1 + 1 := by omega
    clear HR k0 k1 k2 k3
    have HBW : Hid (∀ o1 o2 o3, Below w.heap.size w (((w.alloc o1).alloc o2).alloc o3)) := Lib.hid fun o1 o2 o3 => (((Below.refl _ _).alloc (Nat.le_refl _) _).alloc (by simp) _).alloc (by simp; omega) _
    go_enter Tryz.func89, Tryz.ntmps89
    go_wp2_with fail
    go_ret
    exact ⟨ret_int (by rw [HF.out]), HBW.out _ _ _⟩
  · have hi : i < S.p.tanks.length := by have := k1 rfl; omega
    have HF := Lib.hid (show numOf S 1 i = pressB S i by unfold numOf; rw [if_neg (by omega), if_pos rfl, Int.toNat_natCast])
    have p0 : W.cell? ⟨w.heap.size, 0, none⟩ = some (.slice x.tA S.p.tanks.length x.tc) := HPc.out 0
    have p1 : W.cell? ⟨w.heap.size, 1, none⟩ = some (.slice x.vA S.p.valves.length x.vc) := HPc.out 1
    have p2 : W.cell? ⟨w.heap.size, 2, none⟩ = some (.slice x.lA S.p.lines.length x.lc) := HPc.out 2
    have p3 : W.cell? ⟨w.heap.size, 3, none⟩ = some (.slice x.nA S.p.never.length x.nc) := HPc.out 3
    have s0 : W.cell? ⟨w.heap.size + 1, 0, none⟩ = some (.slice (R.a 0) S.p.tanks.length (R.c 0)) := HSc.out 0
    have s1 : W.cell? ⟨w.heap.size + 1, 1, none⟩ = some (.slice (R.a 1) S.p.tanks.length (R.c 1)) := HSc.out 1
    have s2 : W.cell? ⟨w.heap.size + 1, 2, none⟩ = some (.slice (R.a 2) S.p.valves.length (R.c 2)) := HSc.out 2
    have s3 : W.cell? ⟨w.heap.size + 1, 3, none⟩ = some (.slice (R.a 3) S.p.valves.length (R.c 3)) := HSc.out 3
    have s4 : W.cell? ⟨w.heap.size + 1, 4, none⟩ = some (.slice (R.a 4) S.p.valves.length (R.c 4)) := HSc.out 4
    have s5 : W.cell? ⟨w.heap.size + 1, 5, none⟩ = some (.slice (R.a 5) S.p.tanks.length (R.c 5)) := HSc.out 5
    have s6 : W.cell? ⟨w.heap.size + 1, 6, none⟩ = some (.slice (R.a 6) S.p.lines.length (R.c 6)) := HSc.out 6
    have s7 : W.cell? ⟨w.heap.size + 1, 7, none⟩ = some (.slice (R.a 7) S.p.tanks.length (R.c 7)) := HSc.out 7
    have s8 : W.cell? ⟨w.heap.size + 1, 8, none⟩ = some (.slice (R.a 8) S.p.tanks.length (R.c 8)) := HSc.out 8
    have HPR2 := Lib.hid (HPR.out hi)
    clear HR k0 k1 k2 k3 HPR
    go_enter Tryz.func89, Tryz.ntmps89
    go_wp2_with fail
    rw [← HW.out]
    go_wp2_with fail
    refine HPR2.out.mono ?_
    rintro e w' ⟨rfl, hb⟩
    go_wp2_with fail
    go_ret
    exact ⟨ret_int (by rw [HF.out]), HB.out.trans (hb.mono HB.out.size)⟩
  · have hi : i < S.p.lines.length := by have := k2 rfl; omega
    obtain ⟨b, off, hA, hB', d⟩ := HR.out 6 (by omega) hi
    have HF := Lib.hid (show numOf S 2 i = S.carried i by unfold numOf; rw [if_neg (by omega), if_neg (by omega), if_pos rfl, Int.toNat_natCast])
    have hii : (i : Int) < (S.p.lines.length : Int) := by omega
    simp only [valR] at d
    have hB2 : b < w.heap.size + 1 := by omega
    have hB3 : b < w.heap.size + 1 + 1 := by omega
    clear HR k0 k1 k2 k3
    have HBW : Hid (∀ o1 o2 o3, Below w.heap.size w (((w.alloc o1).alloc o2).alloc o3)) := Lib.hid fun o1 o2 o3 => (((Below.refl _ _).alloc (Nat.le_refl _) _).alloc (by simp) _).alloc (by simp; omega) _
    go_enter Tryz.func89, Tryz.ntmps89
    go_wp2_with fail
    go_ret
    exact ⟨ret_int (by rw [HF.out]), HBW.out _ _ _⟩
  · have hi : i < S.p.valves.length := by have := k3 rfl; omega
    obtain ⟨b, off, hA, hB', d⟩ := HR.out 2 (by omega) hi
    have HF := Lib.hid (show numOf S 3 i = (S.at_ i).place by unfold numOf; rw [if_neg (by omega), if_neg (by omega), if_neg (by omega), Int.toNat_natCast])
    have hii : (i : Int) < (S.p.valves.length : Int) := by omega
    simp only [valR] at d
    have hB2 : b < w.heap.size + 1 := by omega
    have hB3 : b < w.heap.size + 1 + 1 := by omega
    clear HR k0 k1 k2 k3
    have HBW : Hid (∀ o1 o2 o3, Below w.heap.size w (((w.alloc o1).alloc o2).alloc o3)) := Lib.hid fun o1 o2 o3 => (((Below.refl _ _).alloc (Nat.le_refl _) _).alloc (by simp) _).alloc (by simp; omega) _
    go_enter Tryz.func89, Tryz.ntmps89
    go_wp2_with fail
    go_ret
    exact ⟨ret_int (by rw [HF.out]), HBW.out _ _ _⟩

set_option maxRecDepth 100000 in
set_option maxHeartbeats 2000000 in
theorem refInts_any (w : World) (A1 A2 : Option Addr) (n1 n2 c1 c2 : Nat) (f g : Nat → Int) (h1 : Sl w w.heap.size 1 A1 n1 fun i _ => .int .i64 (f i)) (h2 : Sl w w.heap.size 1 A2 n2 fun i _ => .int .i64 (g i)) :
    Calls Tryz.prog 90 #[.slice A1 n1 c1, .slice A2 n2 c2] w fun e w' => e = .returned (.bool (decide (n1 = n2) && allN n1 fun i => decide (f i = g i))) ∧ Below w.heap.size w w' := by
  have l1 := h1.1
  have l2 := h2.1
  by_cases hn : n1 = n2
  · subst hn
    have H1 := Lib.hid h1
    have H2 := Lib.hid h2
    clear h1 h2
    go_enter Tryz.func90, Tryz.ntmps90
    go_wp2_with fail
    go_loopw [5] (fun i wr => ∃ k : Nat, k ≤ n1 ∧ i = .int .i64 k ∧ Hid (∀ j, j < k → decide (f j = g j) = true) ∧ Hid (Below w.heap.size w wr)) (fun i _ => n1 - (intOf i).toNat)
    case atStart => exact ⟨0, Nat.zero_le _, rfl, Lib.hid fun j hj => absurd hj (by omega), Lib.hid (Below.refl _ _)⟩
    case round =>
      obtain ⟨k, hk, rfl, hok, hb⟩ := hrel
      by_cases hlt : k < n1
      · have hki : (k : Int) < (n1 : Int) := by omega
        have h0i : (0 : Int) ≤ (k : Int) := by omega
        obtain ⟨b1, o1, hA1, hB1, d1⟩ := (H1.out.below hb.out).at1v hlt
        obtain ⟨b2, o2, hA2, hB2, d2⟩ := (H2.out.below hb.out).at1v hlt
        subst hA1
        subst hA2
        have q1 : ∀ z : Ext wr, z.w.cell? ⟨b1, o1 + k, none⟩ = some (.int .i64 (f k)) := Ext.cell d1
        have q2 : ∀ z : Ext wr, z.w.cell? ⟨b2, o2 + k, none⟩ = some (.int .i64 (g k)) := Ext.cell d2
        clear d1 d2
        by_cases he : f k = g k
        · have HE := Lib.hid he
          rw [← he] at q2
          clear he
          go_wp2_with fail
          refine wp_region_ext_quiet (by kernel_rfl) (by kernel_rfl) ?_
          repeat (go_big_quiet_step (fail))
          refine wpQuiet_nil ?_
          intro w1 hw1
          have HB1 := Lib.hid (hb.out.trans (hw1.mono hb.out.size))
          clear hw1 q1 q2
          go_wp2_with fail
          go_roundw
          case rel => exact ⟨k + 1, by omega, by go_num, Lib.hid fun j hj => if e : j = k then by subst e; exact decide_eq_true HE.out else hok.out j (by omega), HB1⟩
          case measure => simp [intOf]; omega
        · have hd : (f k != g k) = true := by simpa using he
          have HE := Lib.hid he
          clear he
          go_wp2_with fail
          refine wp_region_ext_quiet (by kernel_rfl) (by kernel_rfl) ?_
          repeat (go_big_quiet_step (fail))
          refine wpQuiet_nil ?_
          intro w1 hw1
          go_wp2_with fail
          go_ret
          exact ⟨ret_bool (by rw [allN_false hlt (decide_eq_false HE.out)]; simp), hb.out.trans (hw1.mono hb.out.size)⟩
      · obtain rfl : k = n1 := by omega
        go_wp2_with fail
        go_ret
        exact ⟨ret_bool (by rw [allN_true hok.out]; simp), hb.out⟩
  · have hne : ((n1 : Int) != (n2 : Int)) = true := by simp; omega
    have HN := Lib.hid hn
    clear hn h1 h2
    go_enter Tryz.func90, Tryz.ntmps90
    go_wp2_with fail
    go_ret
    exact ⟨ret_bool (by rw [decide_eq_false HN.out]; rfl), Below.refl _ _⟩
end Go.Proofs.YtogobjmmgjfjjaaGreat
/- What is proved: a contract of ullageref07's open. Conditions: the plant and the state lie in memory; the line's valves are the plant's. -/
namespace Go.Proofs.YtogobjmmgjfjjaaGreat
open Go.RowKit

set_option maxRecDepth 100000 in
set_option maxHeartbeats 2000000 in
theorem refOpen_any [Exc] (w : World) (x : PV) (R : RX) (S : Sys) (hp : PlantAt w w.heap.size x S.p) (hr : RefAt w w.heap.size R S) (A : Option Addr) (c : Nat) (l : LineD) (hl : IntsAt w w.heap.size A l.valves)
    (hv : ∀ k, k < l.valves.length → 0 ≤ l.valves.getD k 0 ∧ l.valves.getD k 0 < S.p.valves.length) :
    Calls Tryz.prog 143 #[.agg (plantA x S.p), .agg (SysA R S), .agg (lineA A c l)] w fun e w' => e = .returned (.bool (openB S l)) ∧ Below w.heap.size w w' := by
  obtain ⟨W, hW⟩ : ∃ W, W = ((w.alloc (.cells (plantA x S.p) 27)).alloc (.cells (SysA R S) 53)).alloc (.cells (lineA A c l) 76) := ⟨_, rfl⟩
  have hbW : Below w.heap.size w W := by rw [hW]; exact (((Below.refl _ _).alloc (Nat.le_refl _) _).alloc (by simp) _).alloc (by simp; omega) _
  have hb0 : Bk W w.heap.size 27 (plantA x S.p) := by rw [hW]; exact ((Bk.new _ _ _).alloc _).alloc _
  have hb1 : Bk W (w.heap.size + 1) 53 (SysA R S) := by rw [hW]; exact (Bk.newAt _ _ _ _ (by simp)).alloc _
  have hb2 : Bk W (w.heap.size + 1 + 1) 76 (lineA A c l) := by rw [hW]; exact Bk.newAt _ _ _ _ (by simp)
  have HB := Lib.hid hbW
  have HW := Lib.hid hW
  have HP := Lib.hid (hp.below hbW)
  have HR := Lib.hid (hr.below hbW)
  have HL : Hid (Sl W w.heap.size 1 A l.valves.length fun i _ => .int .i64 (l.valves.getD i 0)) := Lib.hid (Sl.below hl hbW)
  have HB0 := Lib.hid hb0
  have HB1 := Lib.hid hb1
  have HB2 := Lib.hid hb2
  have HV := Lib.hid hv
  have hn := hl.1
  have HO := Lib.hid (show openB S l = allN l.valves.length fun k => decide ((S.at_ (l.valves.getD k 0).toNat).place = (S.p.valve (l.valves.getD k 0).toNat).travel) from rfl)
  simp only [plantA, refA, SysA, lineA] at HW
  clear hW hbW hb0 hb1 hb2 hp hr hl hv
  dsimp only [plantA, refA, SysA, lineA]
  go_enter Tryz.func143, Tryz.ntmps143
  go_wp2_with fail
  rw [← HW.out]
  obtain ⟨n, hnn⟩ : ∃ n, l.valves.length = n := ⟨_, rfl⟩
  rw [hnn] at hn ⊢
  have HN := Lib.hid hnn
  clear hnn
  go_loopw [7] (fun i wr => ∃ k : Nat, k ≤ n ∧ i = .int .i64 k ∧ Hid (∀ j, j < k → decide ((S.at_ (l.valves.getD j 0).toNat).place = (S.p.valve (l.valves.getD j 0).toNat).travel) = true) ∧ Hid (Below W.heap.size W wr)) (fun i _ => n - (intOf i).toNat)
  case atStart => exact ⟨0, Nat.zero_le _, rfl, Lib.hid fun j hj => absurd hj (by omega), Lib.hid (Below.refl _ _)⟩
  case round =>
    obtain ⟨k, hk, rfl, hok, hb⟩ := hrel
    have hbw := hb.out.mono HB.out.size
    have l4 : wr.cell? ⟨w.heap.size + 1 + 1, 4, none⟩ = some (.slice A n c) := by rw [← HN.out]; exact (HB2.out.below hb.out HB2.out.lt).cell 4
    by_cases hlt : k < n
    · have hki : (k : Int) < (n : Int) := by omega
      have h0i : (0 : Int) ≤ (k : Int) := by omega
      obtain ⟨bl, ol, hAl, hBl, dl⟩ := (HL.out.below hbw).at1v (by rw [HN.out]; exact hlt)
      subst hAl
      obtain ⟨hv0, hv1⟩ := HV.out k (by rw [HN.out]; exact hlt)
      obtain ⟨v, hve⟩ := Int.eq_ofNat_of_zero_le hv0
      rw [hve] at hv1
      have hvl : v < S.p.valves.length := by omega
      have hvi : (v : Int) < (S.p.valves.length : Int) := by omega
      have h0v : (0 : Int) ≤ (v : Int) := by omega
      obtain ⟨bv, ov, hAv, hBv, _, d1, _⟩ := (HP.out.below hbw).valves.at3 hvl
      simp only [valveC] at d1
      obtain ⟨bs, os, hAs, hBs, ds⟩ := (HR.out.below hbw).place.at1v hvl
      have q1 : ∀ z : Ext wr, z.w.cell? ⟨w.heap.size + 1 + 1, 4, none⟩ = some (.slice (some ⟨bl, ol, none⟩) n c) := Ext.cell l4
      have q2 : ∀ z : Ext wr, z.w.cell? ⟨bl, ol + k, none⟩ = some (.int .i64 v) := by rw [← hve]; exact Ext.cell dl
      have q3 : ∀ z : Ext wr, z.w.cell? ⟨w.heap.size, 1, none⟩ = some (.slice (some ⟨bv, ov, none⟩) S.p.valves.length x.vc) := Ext.cell (by rw [← hAv]; exact (HB0.out.below hb.out HB0.out.lt).cell 1)
      have q4 : ∀ z : Ext wr, z.w.cell? ⟨bv, ov + v * 3 + 1, none⟩ = some (.int .i64 (S.p.valve v).travel) := Ext.cell d1
      have q5 : ∀ z : Ext wr, z.w.cell? ⟨w.heap.size + 1, 2, none⟩ = some (.slice (some ⟨bs, os, none⟩) S.p.valves.length (R.c 2)) := Ext.cell (by rw [← hAs]; exact (HB1.out.below hb.out HB1.out.lt).cell 2)
      have q6 : ∀ z : Ext wr, z.w.cell? ⟨bs, os + v, none⟩ = some (.int .i64 (S.at_ v).place) := Ext.cell ds
      have HVE := Lib.hid hve
      clear hve hv0 hv1 hAv hAs d1 ds dl
      by_cases he : (S.at_ v).place = (S.p.valve v).travel
      · have HE := Lib.hid he
        rw [← he] at q4
        clear he
        go_wp2_with fail
        refine wp_region_ext_quiet (by kernel_rfl) (by kernel_rfl) ?_
        repeat (go_big_quiet_step (fail))
        refine wpQuiet_nil ?_
        intro w1 hw1
        have HB1 := Lib.hid (hb.out.trans (hw1.mono hb.out.size))
        clear hw1 q1 q2 q3 q4 q5 q6 l4
        go_wp2_with fail
        go_roundw
        case rel => exact ⟨k + 1, by omega, by go_num, Lib.hid fun j hj => if e : j = k then by subst e; rw [HVE.out]; exact decide_eq_true HE.out else hok.out j (by omega), HB1⟩
        case measure => simp [intOf]; omega
      · have hd : ((S.at_ v).place != (S.p.valve v).travel) = true := by simpa using he
        have HE := Lib.hid he
        clear he
        go_wp2_with fail
        refine wp_region_ext_quiet (by kernel_rfl) (by kernel_rfl) ?_
        repeat (go_big_quiet_step (fail))
        refine wpQuiet_nil ?_
        intro w1 hw1
        go_wp2_with fail
        go_ret
        exact ⟨ret_bool (by rw [HO.out, allN_false (by rw [HN.out]; exact hlt) (by rw [HVE.out]; exact decide_eq_false HE.out)]), HB.out.trans ((hb.out.trans (hw1.mono hb.out.size)).mono HB.out.size)⟩
    · obtain rfl : k = n := by omega
      go_wp2_with fail
      go_ret
      exact ⟨ret_bool (by rw [HO.out, HN.out, allN_true hok.out]), HB.out.trans (hb.out.mono HB.out.size)⟩
end Go.Proofs.YtogobjmmgjfjjaaGreat
/- What is proved: how a state of ullageref07 in a function's own box is kept from update to update. Conditions: those that each lemma states. -/
namespace Go.Proofs.YtogobjmmgjfjjaaGreat
open Go.RowKit

/-- The state S' in the box behind the plant's, the plant, and other boxes; q boxes in all. -/
structure StR [Exc] (w : World) (x : PV) (q : Nat) (Ex : List (Nat × TypeId × Array Value)) (wr : World) (S' : Sys) : Prop where
  st : ∃ R, Bk wr (w.heap.size + 1) 53 (SysA R S') ∧ RefB wr w.heap.size (w.heap.size + q) R S'
  pl : Bk wr w.heap.size 27 (plantA x S'.p)
  ex : ∀ e ∈ Ex, e.1 ≠ 1 ∧ e.1 < q ∧ Bk wr (w.heap.size + e.1) e.2.1 e.2.2
  plant : PlantAt wr w.heap.size x S'.p
  below : Below w.heap.size w wr
  size : w.heap.size + q ≤ wr.heap.size
  two : 2 ≤ q
section
variable {w wr w1 : World} {x : PV} {q : Nat} {Ex : List (Nat × TypeId × Array Value)} {S' S2 : Sys}
theorem StR.later [Exc] (h : StR w x q Ex wr S') (hb : Below wr.heap.size wr w1) : StR w x q Ex w1 S' := by
  obtain ⟨R, h1, h2⟩ := h.st
  have hs := h.size
  have ht := h.two
  exact ⟨⟨R, h1.below hb h1.lt, h2.below hb⟩, h.pl.below hb h.pl.lt, fun e he => ⟨(h.ex e he).1, (h.ex e he).2.1, (h.ex e he).2.2.below hb (h.ex e he).2.2.lt⟩, h.plant.below (hb.mono (by omega)), h.below.trans (hb.mono (by omega)), by have := hb.size; omega, ht⟩
theorem StR.step [Exc] (h : StR w x q Ex wr S') {R : RX} (h1 : Bk wr (w.heap.size + 1) 53 (SysA R S')) (h2 : RefB wr w.heap.size (w.heap.size + q) R S') (hb : Below wr.heap.size wr w1) {k : Nat} (hk : k < 9) {A : Option Addr} (c : Nat) {n : Nat} (hn : lenR S'.p k = n)
    (hA : SlD w1 (fun b => wr.heap.size ≤ b ∧ b < w1.heap.size) 1 A n fun i _ => valR S2 k i) (hp : S2.p = S'.p) (hv : ∀ j, j < 9 → j ≠ k → ∀ i, valR S2 j i = valR S' j i) :
    StR w x q Ex (w1.setCell ⟨w.heap.size + 1, k, none⟩ (.slice A n c)) S2 := by
  subst hn
  have hs := h.size
  have ht := h.two
  have hst := RefB.step h2 hs h1 (by omega) (by omega) hb hk c (S' := S2) hA hp hv
  have hO := Only.setCell w1 (w.heap.size + 1) k (.slice A (lenR S'.p k) c)
  have hbx : Below w.heap.size wr (w1.setCell ⟨w.heap.size + 1, k, none⟩ (.slice A (lenR S'.p k) c)) := (hb.mono (by omega)).trans (hO.below (by omega))
  refine ⟨⟨_, hst.1, hst.2⟩, ?_, fun e he => ?_, ?_, h.below.trans hbx, by rw [hO.size]; have := hb.size; omega, ht⟩
  · rw [hp]; exact (h.pl.below hb h.pl.lt).only hO (by omega)
  · obtain ⟨e1, e2, e3⟩ := h.ex e he
    exact ⟨e1, e2, (e3.below hb e3.lt).only hO (by omega)⟩
  · rw [hp]; exact h.plant.below hbx
end
theorem StR.upd [Exc] {w W : World} {x : PV} {q : Nat} {Ex : List (Nat × TypeId × Array Value)} {S1 : Sys} {k n idx : Nat} (h : StR w x q Ex W S1) (hk : k < 9) (hn : lenR S1.p k = n) (hidx : idx < n) (hlen : n ≤ 4096) (F : Nat → Int) (hF : ∀ i, valR S1 k i = .int .i64 (F i)) :
    ∃ b o c, W.cell? ⟨w.heap.size + 1, k, none⟩ = some (.slice (some ⟨b, o, none⟩) n c) ∧ W.cell? ⟨b, o + idx, none⟩ = some (.int .i64 (F idx)) ∧
      ∀ V S2, S2.p = S1.p → (∀ j, j < 9 → j ≠ k → ∀ i, valR S2 j i = valR S1 j i) → (∀ i, valR S2 k i = .int .i64 (if i = idx then V else F i)) →
        Calls Tryz.prog 113 #[.slice (some ⟨b, o, none⟩) n c, .int .i64 idx, .int .i64 V] W.drew fun e w1 => ∃ A' c', e = .returned (.slice A' n c') ∧ Below W.heap.size W w1 ∧ w1.cell? ⟨w.heap.size + 1, k, none⟩ = some (.slice (some ⟨b, o, none⟩) n c) ∧
          w1.frozen? ⟨w.heap.size + 1, k, none⟩ = false ∧ StR w x q Ex (w1.setCell ⟨w.heap.size + 1, k, none⟩ (.slice A' n c')) S2 := by
  subst hn
  obtain ⟨R, h1, h2⟩ := h.st
  have hl0 := h2.at_ k hk
  obtain ⟨b, o, hA, hB, hd⟩ := hl0.at1v hidx
  have hcell : W.cell? ⟨w.heap.size + 1, k, none⟩ = some (.slice (some ⟨b, o, none⟩) (lenR S1.p k) (R.c k)) := by rw [← hA]; exact (h1.cell k).trans (SysA_get R S1 k hk)
  refine ⟨b, o, R.c k, hcell, by rw [hd, hF], fun V S2 hp hv hV => ?_⟩
  have hdr : Below W.heap.size W W.drew := (Below.refl _ _).drew
  have hl : Sl W.drew W.drew.heap.size 1 (some ⟨b, o, none⟩) (lenR S1.p k) fun i _ => .int .i64 (F i) := by
    rw [← hA]
    have := Sl.below hl0.sl hdr
    exact ⟨this.1, fun h0 => by obtain ⟨b', o', e, g1, g2⟩ := this.2 h0; exact ⟨b', o', e, g1, fun i hi j hj => (g2 i hi j hj).trans (congrArg some (hF i))⟩⟩
  refine (rwith_any W.drew _ (lenR S1.p k) (R.c k) F hl hlen idx hidx V).mono ?_
  rintro e w1 ⟨A', c', rfl, hs, hb⟩
  have hb' : Below W.heap.size W w1 := hdr.trans hb
  have hbk := h1.below hb' h1.lt
  refine ⟨A', c', rfl, hb', by rw [hb'.cell (p := ⟨w.heap.size + 1, k, none⟩) h1.lt]; exact hcell, hbk.free k, ?_⟩
  exact h.step h1 h2 hb' hk c' rfl (hs.congr fun i _ j _ => (hV i).symm) hp hv
theorem valR_addGas (S : Sys) (t : Nat) (d : Int) : ∀ j, j < 9 → j ≠ 1 → ∀ i, valR (addN S true t d) j i = valR S j i := by
  intro j _ hne i
  match j, hne with
  | 0, _ => simp only [valR, addN, setT_at, numJ, setTank]; split <;> simp_all
  | 2, _ => rfl
  | 3, _ => rfl
  | 4, _ => rfl
  | 5, _ => simp only [valR, addN, setT_at, numJ, setTank]; split <;> simp_all
  | 6, _ => rfl
  | 7, _ => simp only [valR, addN, setT_at, numJ, setTank]; split <;> simp_all
  | n + 8, _ => simp only [valR, addN, setT_at, numJ, setTank]; split <;> simp_all
theorem valR_addCon (S : Sys) (t : Nat) (d : Int) : ∀ j, j < 9 → j ≠ 0 → ∀ i, valR (addN S false t d) j i = valR S j i := by
  intro j _ hne i
  match j, hne with
  | 1, _ => simp only [valR, addN, setT_at, numJ, setTank]; split <;> simp_all
  | 2, _ => rfl
  | 3, _ => rfl
  | 4, _ => rfl
  | 5, _ => simp only [valR, addN, setT_at, numJ, setTank]; split <;> simp_all
  | 6, _ => rfl
  | 7, _ => simp only [valR, addN, setT_at, numJ, setTank]; split <;> simp_all
  | n + 8, _ => simp only [valR, addN, setT_at, numJ, setTank]; split <;> simp_all
theorem addGas_val (S : Sys) (t : Nat) (d : Int) (i : Nat) : valR (addN S true t d) 1 i = .int .i64 (if i = t then (S.tank t).gas + d else (S.tank i).gas) := by
  simp only [valR, addN, setT_at, numJ, setTank, numB]; split <;> simp_all
theorem addCon_val (S : Sys) (t : Nat) (d : Int) (i : Nat) : valR (addN S false t d) 0 i = .int .i64 (if i = t then (S.tank t).content + d else (S.tank i).content) := by
  simp only [valR, addN, setT_at, numJ, setTank, numB]; split <;> simp_all
def Sys.setC (S : Sys) (i : Nat) (v : Int) : Sys := { S with carried := fun k => if k = i then v else S.carried k }
theorem valR_setC (S : Sys) (t : Nat) (d : Int) : ∀ j, j < 9 → j ≠ 6 → ∀ i, valR (S.setC t d) j i = valR S j i := by
  intro j _ hne i
  match j, hne with
  | 0, _ => rfl
  | 1, _ => rfl
  | 2, _ => rfl
  | 3, _ => rfl
  | 4, _ => rfl
  | 5, _ => rfl
  | 7, _ => rfl
  | n + 8, _ => rfl
theorem addN_comm (S : Sys) (gas : Bool) (s t : Nat) (a b : Int) (h : s ≠ t) : addN (addN S gas s a) gas t b = addN (addN S gas t b) gas s a := by
  have h1 : numB (addN S gas s a) gas t = numB S gas t := by rw [addN_num, if_neg (fun e => h e.symm)]
  have h2 : numB (addN S gas t b) gas s = numB S gas s := by rw [addN_num, if_neg h]
  unfold addN at *
  rw [h1, h2]
  unfold Sys.setT
  simp only [Sys.mk.injEq, true_and, and_true]
  funext k
  by_cases e1 : k = t
  · subst e1; simp [Ne.symm h]
  · by_cases e2 : k = s
    · subst e2; simp [h]
    · simp [e1, e2]
/-- What is common to all ways through carry. -/
structure CarryPre [Exc] (w : World) (x : PV) (R : RX) (S : Sys) (i : Nat) (sA : Option Addr) (sc : Nat) (l : LineD) : Prop where
  hp : PlantAt w w.heap.size x S.p
  hr : RefAt w w.heap.size R S
  ok : SysOk S
  hi : i < S.p.lines.length
  hs : Short S.p
  hl : S.p.line i = l
  hA : x.iA i = sA
  hc : x.ic i = sc
def carEx (sA : Option Addr) (sc : Nat) (l : LineD) : List (Nat × TypeId × Array Value) := [(2, 53, refA nilR 0 0 0), (3, 76, lineA sA sc l)]
end Go.Proofs.YtogobjmmgjfjjaaGreat
/- What is proved: a contract of ullageref07.carry. Conditions: the plant and the state lie in memory; the state is a system's. -/
namespace Go.Proofs.YtogobjmmgjfjjaaGreat
open Go.RowKit


set_option maxRecDepth 100000 in
set_option maxHeartbeats 4000000 in
theorem refCarry_trueSD [Exc] (w : World) (x : PV) (R : RX) (S : Sys) (i sn dn : Nat) (flow : Int) (vs : List Int) (sA : Option Addr) (sc : Nat) (H : CarryPre w x R S i sA sc ⟨(sn : Int), (dn : Int), flow, true, vs⟩) (m1 m2 : Int)
    (hm1 : (if (S.tank sn).gas < flow then (S.tank sn).gas else flow) = m1) (hm2 : (if 1073741824 - (S.tank dn).gas < m1 then 1073741824 - (S.tank dn).gas else m1) = m2) (hb0 : 0 ≤ m2 ∧ m2 ≤ 1073741824 ∧ 0 ≤ flow ∧ flow ≤ 1073741824) (hsd : sn ≠ dn) (hsn : sn < S.p.tanks.length) (hms : m2 ≤ (S.tank sn).gas) (hdn : dn < S.p.tanks.length) (hmd : (S.tank dn).gas + m2 ≤ 1073741824) :
    Calls Tryz.prog 144 #[.agg (plantA x S.p), .agg (SysA R S), .int .i64 i] w (RefOne w ((addN (addN S true sn (-m2)) true dn m2).setC i (wrap64 (S.carried i + m2)))) := by
  obtain ⟨hp, hr, ok, hi, hs, hl, hA, hc⟩ := H
  have hii : (i : Int) < (S.p.lines.length : Int) := by omega
  have h0i : (0 : Int) ≤ (i : Int) := by omega
  obtain ⟨bl, ol, hAl, hBl, l0, l1, l2, l3, l4⟩ := hp.lines.at5 hi
  rw [hl, hA, hc] at l0 l1 l2 l3 l4
  simp only [lineC] at l0 l1 l2 l3 l4
  obtain ⟨W0, hW⟩ : ∃ W0, W0 = (((w.alloc (.cells (plantA x S.p) 27)).alloc (.cells (SysA R S) 53)).alloc (.cells (refA nilR 0 0 0) 53)).alloc (.cells (lineA sA sc ⟨(sn : Int), (dn : Int), flow, true, vs⟩) 76) := ⟨_, rfl⟩
  have hbW : Below w.heap.size w W0 := by rw [hW]; exact ((((Below.refl _ _).alloc (Nat.le_refl _) _).alloc (by simp) _).alloc (by simp; omega) _).alloc (by simp; omega) _
  have hWs : W0.heap.size = w.heap.size + 4 := by rw [hW]; simp
  have hbk0 : Bk W0 w.heap.size 27 (plantA x S.p) := by rw [hW]; exact (((Bk.new _ _ _).alloc _).alloc _).alloc _
  have hbk1 : Bk W0 (w.heap.size + 1) 53 (SysA R S) := by rw [hW]; exact ((Bk.newAt _ _ _ _ (by simp)).alloc _).alloc _
  have hbk2 : Bk W0 (w.heap.size + 2) 53 (refA nilR 0 0 0) := by rw [hW]; exact (Bk.newAt _ _ _ _ (by simp)).alloc _
  have hbk3 : Bk W0 (w.heap.size + 3) 76 (lineA sA sc ⟨(sn : Int), (dn : Int), flow, true, vs⟩) := by rw [hW]; exact Bk.newAt _ _ _ _ (by simp)
  have HS0 : Hid (StR w x 4 (carEx sA sc ⟨(sn : Int), (dn : Int), flow, true, vs⟩) W0 S) := Lib.hid ⟨⟨R, hbk1, RefB.start hr hbW hWs⟩, hbk0, fun e he => by
    simp only [carEx, List.mem_cons, List.not_mem_nil, or_false] at he
    rcases he with rfl | rfl
    · exact ⟨by show 2 ≠ 1; omega, by show 2 < 4; omega, hbk2⟩
    · exact ⟨by show 3 ≠ 1; omega, by show 3 < 4; omega, hbk3⟩, hp.below hbW, hbW, by omega, by omega⟩
  have HWx := Lib.hid hW
  have hbl2 : bl < w.heap.size + 1 := by omega
  have hbl3 : bl < w.heap.size + 1 + 1 := by omega
  have hnt := ok.tanks
  have hcn : S.p.tanks.length ≤ 4096 := hs.1
  have hln : S.p.lines.length ≤ 4096 := hs.2.2
  have HOK := Lib.hid ok
  have ts := ok.tanks sn hsn
  have rs := tankOk_of ok.valid sn hsn
  have td := ok.tanks dn hdn
  have rd := tankOk_of ok.valid dn hdn
  have HL : Hid (∀ wx S', StR w x 4 (carEx sA sc ⟨(sn : Int), (dn : Int), flow, true, vs⟩) wx S' → wx.cell? ⟨w.heap.size + 1 + 1 + 1, 0, none⟩ = some (.int .i64 sn) ∧ wx.cell? ⟨w.heap.size + 1 + 1 + 1, 1, none⟩ = some (.int .i64 dn) ∧ wx.cell? ⟨w.heap.size + 1 + 1 + 1, 2, none⟩ = some (.int .i64 flow) ∧ wx.cell? ⟨w.heap.size + 1 + 1 + 1, 3, none⟩ = some (.bool true)) := Lib.hid fun wx S' h => by
    have h3 := (h.ex (3, 76, lineA sA sc ⟨(sn : Int), (dn : Int), flow, true, vs⟩) (by simp [carEx])).2.2
    exact ⟨h3.cell 0, h3.cell 1, h3.cell 2, h3.cell 3⟩
  simp only [plantA, refA, SysA, lineA, nilR, hAl] at HWx
  have hx := HL.out W0 S HS0.out
  obtain ⟨x0, x1, x2, x3⟩ := hx
  obtain ⟨R0, r10, r20⟩ := HS0.out.st
  obtain ⟨b0, o0, hA0, hB0, d0⟩ := (show Sl W0 W0.heap.size 1 (R0.a 1) S.p.tanks.length fun j _ => valR S 1 j from (r20.at_ 1 (by omega)).sl).at1v hsn
  have c0 : W0.cell? ⟨w.heap.size + 1, 1, none⟩ = some (.slice (some ⟨b0, o0, none⟩) S.p.tanks.length (R0.c 1)) := by rw [← hA0]; exact (r10.cell 1).trans (SysA_get R0 S 1 (by omega))
  have d0' : W0.cell? ⟨b0, o0 + sn, none⟩ = some (.int .i64 (S.tank sn).gas) := d0
  have hsi : (sn : Int) < (S.p.tanks.length : Int) := by omega
  have h0s : (0 : Int) ≤ (sn : Int) := by omega
  obtain ⟨b9, o9, hA9, hB9, d9⟩ := (show Sl W0 W0.heap.size 1 (R0.a 1) S.p.tanks.length fun j _ => valR S 1 j from (r20.at_ 1 (by omega)).sl).at1v hdn
  obtain ⟨rfl, rfl⟩ : b0 = b9 ∧ o0 = o9 := by rw [hA0] at hA9; simpa using hA9
  have d9' : W0.cell? ⟨b0, o0 + dn, none⟩ = some (.int .i64 (S.tank dn).gas) := d9
  have hdi : (dn : Int) < (S.p.tanks.length : Int) := by omega
  have h0d : (0 : Int) ≤ (dn : Int) := by omega
  have hwm : IntKind.i64.wrap (1073741824 - (S.tank dn).gas) = 1073741824 - (S.tank dn).gas := IntWalk.i64_in _ (by omega)
  have l2b : bl < w.heap.size + 1 + 1 := by omega
  clear hW hbW hWs hbk0 hbk1 hbk2 hbk3 hp hr hs hl hA hc hnt ok r10 r20 d0 hA0 d9 hA9 
  dsimp only [plantA, refA, SysA]
  go_enter Tryz.func144, Tryz.ntmps144
  go_upto_region 2 with (fail)
  rw [← HWx.out]
  go_wp2_with fail
  clear c0 d0' d9' x0 x1 x2 x3 l0 l1 l2 l3 l4
  obtain ⟨x0, x1, x2, x3⟩ := HL.out W0 _ HS0.out
  obtain ⟨b1, o1, c1, hc1, hv1, hcall1⟩ := HS0.out.upd (k := 1) (n := S.p.tanks.length) (idx := sn) (by omega) rfl hsn hcn (fun j => (S.tank j).gas) (fun _ => rfl)
  have HCL1 := Lib.hid (hcall1 ((S.tank sn).gas - m2) (addN S true sn (-m2)) rfl (valR_addGas S sn (-m2)) (fun j => addGas_val S sn (-m2) j))
  have hws : IntKind.i64.wrap ((S.tank sn).gas - m2) = (S.tank sn).gas - m2 := IntWalk.i64_in _ (by omega)
  clear hcall1
  go_still_tail 12, (by kernel_rfl)
  go_wp2_with (go_at_call 113; refine HCL1.out.mono ?_; rintro e w1 ⟨A1, C1, rfl, hb1, hcell1, hfr1, hst1⟩; clear x0 x1 x2 x3 hc1 hv1 HCL1; obtain ⟨x0, x1, x2, x3⟩ := HL.out w1 _ (HS0.out.later hb1))
  obtain ⟨W1, hW1⟩ : ∃ W1, W1 = w1.setCell ⟨w.heap.size + 1, 1, none⟩ (.slice A1 S.p.tanks.length C1) := ⟨_, rfl⟩
  rw [← hW1] at hst1 ⊢
  have HS1 := Lib.hid hst1
  clear hst1 hW1 hcell1 hfr1 hb1 x0 x1 x2 x3
  have addFar : ((addN S true sn (-m2)).tank dn).gas = (S.tank dn).gas := by have := addN_num S true sn (-m2) dn; rw [if_neg (Ne.symm hsd)] at this; exact this
  obtain ⟨x0, x1, x2, x3⟩ := HL.out W1 _ HS1.out
  obtain ⟨b2, o2, c2, hc2, hv2, hcall2⟩ := HS1.out.upd (k := 1) (n := S.p.tanks.length) (idx := dn) (by omega) rfl hdn hcn (fun j => ((addN S true sn (-m2)).tank j).gas) (fun _ => rfl)
  have HCL2 := Lib.hid (hcall2 ((S.tank dn).gas + m2) (addN (addN S true sn (-m2)) true dn m2) rfl (valR_addGas (addN S true sn (-m2)) dn m2) (fun j => by rw [addGas_val (addN S true sn (-m2)) dn m2 j]; rw [show ((addN S true sn (-m2)).tank dn).gas = (S.tank dn).gas from addFar]))
  have hwd : IntKind.i64.wrap ((S.tank dn).gas + m2) = (S.tank dn).gas + m2 := IntWalk.i64_in _ (by omega)
  rw [show ((addN S true sn (-m2)).tank dn).gas = (S.tank dn).gas from addFar] at hv2
  clear hcall2
  go_still_tail 12, (by kernel_rfl)
  go_wp2_with (go_at_call 113; refine HCL2.out.mono ?_; rintro e w1 ⟨A2, C2, rfl, hb2, hcell2, hfr2, hst2⟩; clear x0 x1 x2 x3 hc2 hv2 HCL2; obtain ⟨x0, x1, x2, x3⟩ := HL.out w1 _ (HS1.out.later hb2))
  obtain ⟨W2, hW2⟩ : ∃ W2, W2 = w1.setCell ⟨w.heap.size + 1, 1, none⟩ (.slice A2 S.p.tanks.length C2) := ⟨_, rfl⟩
  rw [← hW2] at hst2 ⊢
  have HS2 := Lib.hid hst2
  clear hst2 hW2 hcell2 hfr2 hb2 x0 x1 x2 x3
  obtain ⟨b3, o3, c3, hc3, hv3, hcall3⟩ := HS2.out.upd (k := 6) (n := S.p.lines.length) (idx := i) (by omega) rfl hi hln (fun j => S.carried j) (fun _ => rfl)
  have HCL3 := Lib.hid (hcall3 (wrap64 (S.carried i + m2)) ((addN (addN S true sn (-m2)) true dn m2).setC i (wrap64 (S.carried i + m2))) rfl (valR_setC (addN (addN S true sn (-m2)) true dn m2) i _) (fun j => rfl))
  clear hcall3
  go_still_tail 10, (by kernel_rfl)
  go_wp2_with (first | (go_at_call 113; refine HCL3.out.mono ?_; rintro e w1 ⟨A3, C3, rfl, hb3, hcell3, hfr3, hst3⟩; clear hc3 hv3 HCL3; have HST := Lib.hid hst3; clear hst3; obtain ⟨R4, r14, r24⟩ := HST.out.st; have HR14 := Lib.hid r14; have HR24 := Lib.hid r24; clear r14 r24) |
    (refine wpLoadAt rfl 53 _ rfl (w.heap.size + 1) 0 rfl (refA R4 S.p.tanks.length S.p.valves.length S.p.lines.length) _ (fun j u hj => by rw [Nat.zero_add]; exact (HR14.out.cell j).trans hj) und_state rfl info_state ?_) |
    (refine wpStoreAt rfl rfl 53 _ _ rfl (w.heap.size + 1 + 1) 0 rfl (refA R4 S.p.tanks.length S.p.valves.length S.p.lines.length) rfl 53 _ (HST.out.ex (2, 53, refA nilR 0 0 0) (by simp [carEx])).2.2 (by show 0 + 9 ≤ 9; omega) (refA_one _ _ _ _) info_state ?_; intro wf hkf hof))
  refine bodyPost_ret (results_cellS rfl _ _ (w.heap.size + 1 + 1) 53 (refA R4 S.p.tanks.length S.p.valves.length S.p.lines.length) _ rfl (by rw [splA_all _ _ (by rw [refA_size, refA_size])] at hkf; exact hkf) und_state rfl info_state) rfl ?_
  exact ⟨R4, rfl, (HR24.out.only hof (by omega) (by omega)).at_, HST.out.below.trans (hof.below (by omega))⟩

set_option maxRecDepth 100000 in
set_option maxHeartbeats 4000000 in
theorem refCarry_trueSN [Exc] (w : World) (x : PV) (R : RX) (S : Sys) (i sn : Nat) (flow : Int) (vs : List Int) (sA : Option Addr) (sc : Nat) (H : CarryPre w x R S i sA sc ⟨(sn : Int), (-1), flow, true, vs⟩) (m1 m2 : Int)
    (hm1 : (if (S.tank sn).gas < flow then (S.tank sn).gas else flow) = m1) (hm2 : m1 = m2) (hb0 : 0 ≤ m2 ∧ m2 ≤ 1073741824 ∧ 0 ≤ flow ∧ flow ≤ 1073741824) (hsn : sn < S.p.tanks.length) (hms : m2 ≤ (S.tank sn).gas) :
    Calls Tryz.prog 144 #[.agg (plantA x S.p), .agg (SysA R S), .int .i64 i] w (RefOne w ((addN S true sn (-m2)).setC i (wrap64 (S.carried i + m2)))) := by
  obtain ⟨hp, hr, ok, hi, hs, hl, hA, hc⟩ := H
  have hii : (i : Int) < (S.p.lines.length : Int) := by omega
  have h0i : (0 : Int) ≤ (i : Int) := by omega
  obtain ⟨bl, ol, hAl, hBl, l0, l1, l2, l3, l4⟩ := hp.lines.at5 hi
  rw [hl, hA, hc] at l0 l1 l2 l3 l4
  simp only [lineC] at l0 l1 l2 l3 l4
  obtain ⟨W0, hW⟩ : ∃ W0, W0 = (((w.alloc (.cells (plantA x S.p) 27)).alloc (.cells (SysA R S) 53)).alloc (.cells (refA nilR 0 0 0) 53)).alloc (.cells (lineA sA sc ⟨(sn : Int), (-1), flow, true, vs⟩) 76) := ⟨_, rfl⟩
  have hbW : Below w.heap.size w W0 := by rw [hW]; exact ((((Below.refl _ _).alloc (Nat.le_refl _) _).alloc (by simp) _).alloc (by simp; omega) _).alloc (by simp; omega) _
  have hWs : W0.heap.size = w.heap.size + 4 := by rw [hW]; simp
  have hbk0 : Bk W0 w.heap.size 27 (plantA x S.p) := by rw [hW]; exact (((Bk.new _ _ _).alloc _).alloc _).alloc _
  have hbk1 : Bk W0 (w.heap.size + 1) 53 (SysA R S) := by rw [hW]; exact ((Bk.newAt _ _ _ _ (by simp)).alloc _).alloc _
  have hbk2 : Bk W0 (w.heap.size + 2) 53 (refA nilR 0 0 0) := by rw [hW]; exact (Bk.newAt _ _ _ _ (by simp)).alloc _
  have hbk3 : Bk W0 (w.heap.size + 3) 76 (lineA sA sc ⟨(sn : Int), (-1), flow, true, vs⟩) := by rw [hW]; exact Bk.newAt _ _ _ _ (by simp)
  have HS0 : Hid (StR w x 4 (carEx sA sc ⟨(sn : Int), (-1), flow, true, vs⟩) W0 S) := Lib.hid ⟨⟨R, hbk1, RefB.start hr hbW hWs⟩, hbk0, fun e he => by
    simp only [carEx, List.mem_cons, List.not_mem_nil, or_false] at he
    rcases he with rfl | rfl
    · exact ⟨by show 2 ≠ 1; omega, by show 2 < 4; omega, hbk2⟩
    · exact ⟨by show 3 ≠ 1; omega, by show 3 < 4; omega, hbk3⟩, hp.below hbW, hbW, by omega, by omega⟩
  have HWx := Lib.hid hW
  have hbl2 : bl < w.heap.size + 1 := by omega
  have hbl3 : bl < w.heap.size + 1 + 1 := by omega
  have hnt := ok.tanks
  have hcn : S.p.tanks.length ≤ 4096 := hs.1
  have hln : S.p.lines.length ≤ 4096 := hs.2.2
  have HOK := Lib.hid ok
  have ts := ok.tanks sn hsn
  have rs := tankOk_of ok.valid sn hsn
  have HL : Hid (∀ wx S', StR w x 4 (carEx sA sc ⟨(sn : Int), (-1), flow, true, vs⟩) wx S' → wx.cell? ⟨w.heap.size + 1 + 1 + 1, 0, none⟩ = some (.int .i64 sn) ∧ wx.cell? ⟨w.heap.size + 1 + 1 + 1, 1, none⟩ = some (.int .i64 (-1)) ∧ wx.cell? ⟨w.heap.size + 1 + 1 + 1, 2, none⟩ = some (.int .i64 flow) ∧ wx.cell? ⟨w.heap.size + 1 + 1 + 1, 3, none⟩ = some (.bool true)) := Lib.hid fun wx S' h => by
    have h3 := (h.ex (3, 76, lineA sA sc ⟨(sn : Int), (-1), flow, true, vs⟩) (by simp [carEx])).2.2
    exact ⟨h3.cell 0, h3.cell 1, h3.cell 2, h3.cell 3⟩
  simp only [plantA, refA, SysA, lineA, nilR, hAl] at HWx
  have hx := HL.out W0 S HS0.out
  obtain ⟨x0, x1, x2, x3⟩ := hx
  obtain ⟨R0, r10, r20⟩ := HS0.out.st
  obtain ⟨b0, o0, hA0, hB0, d0⟩ := (show Sl W0 W0.heap.size 1 (R0.a 1) S.p.tanks.length fun j _ => valR S 1 j from (r20.at_ 1 (by omega)).sl).at1v hsn
  have c0 : W0.cell? ⟨w.heap.size + 1, 1, none⟩ = some (.slice (some ⟨b0, o0, none⟩) S.p.tanks.length (R0.c 1)) := by rw [← hA0]; exact (r10.cell 1).trans (SysA_get R0 S 1 (by omega))
  have d0' : W0.cell? ⟨b0, o0 + sn, none⟩ = some (.int .i64 (S.tank sn).gas) := d0
  have hsi : (sn : Int) < (S.p.tanks.length : Int) := by omega
  have h0s : (0 : Int) ≤ (sn : Int) := by omega
  have l2b : bl < w.heap.size + 1 + 1 := by omega
  clear hW hbW hWs hbk0 hbk1 hbk2 hbk3 hp hr hs hl hA hc hnt ok r10 r20 d0 hA0   
  dsimp only [plantA, refA, SysA]
  have hm3 := hm2.symm
  subst hm3
  go_enter Tryz.func144, Tryz.ntmps144
  go_upto_region 2 with (fail)
  rw [← HWx.out]
  go_wp2_with fail
  clear c0 d0'  x0 x1 x2 x3 l0 l1 l2 l3 l4
  obtain ⟨x0, x1, x2, x3⟩ := HL.out W0 _ HS0.out
  obtain ⟨b1, o1, c1, hc1, hv1, hcall1⟩ := HS0.out.upd (k := 1) (n := S.p.tanks.length) (idx := sn) (by omega) rfl hsn hcn (fun j => (S.tank j).gas) (fun _ => rfl)
  have HCL1 := Lib.hid (hcall1 ((S.tank sn).gas - m2) (addN S true sn (-m2)) rfl (valR_addGas S sn (-m2)) (fun j => addGas_val S sn (-m2) j))
  have hws : IntKind.i64.wrap ((S.tank sn).gas - m2) = (S.tank sn).gas - m2 := IntWalk.i64_in _ (by omega)
  clear hcall1
  go_still_tail 12, (by kernel_rfl)
  go_wp2_with (go_at_call 113; refine HCL1.out.mono ?_; rintro e w1 ⟨A1, C1, rfl, hb1, hcell1, hfr1, hst1⟩; clear x0 x1 x2 x3 hc1 hv1 HCL1; obtain ⟨x0, x1, x2, x3⟩ := HL.out w1 _ (HS0.out.later hb1))
  obtain ⟨W1, hW1⟩ : ∃ W1, W1 = w1.setCell ⟨w.heap.size + 1, 1, none⟩ (.slice A1 S.p.tanks.length C1) := ⟨_, rfl⟩
  rw [← hW1] at hst1 ⊢
  have HS1 := Lib.hid hst1
  clear hst1 hW1 hcell1 hfr1 hb1 x0 x1 x2 x3
  obtain ⟨b2, o2, c2, hc2, hv2, hcall2⟩ := HS1.out.upd (k := 6) (n := S.p.lines.length) (idx := i) (by omega) rfl hi hln (fun j => S.carried j) (fun _ => rfl)
  have HCL2 := Lib.hid (hcall2 (wrap64 (S.carried i + m2)) ((addN S true sn (-m2)).setC i (wrap64 (S.carried i + m2))) rfl (valR_setC (addN S true sn (-m2)) i _) (fun j => rfl))
  clear hcall2
  go_still_tail 10, (by kernel_rfl)
  go_wp2_with (first | (go_at_call 113; refine HCL2.out.mono ?_; rintro e w1 ⟨A2, C2, rfl, hb2, hcell2, hfr2, hst2⟩; clear hc2 hv2 HCL2; have HST := Lib.hid hst2; clear hst2; obtain ⟨R4, r14, r24⟩ := HST.out.st; have HR14 := Lib.hid r14; have HR24 := Lib.hid r24; clear r14 r24) |
    (refine wpLoadAt rfl 53 _ rfl (w.heap.size + 1) 0 rfl (refA R4 S.p.tanks.length S.p.valves.length S.p.lines.length) _ (fun j u hj => by rw [Nat.zero_add]; exact (HR14.out.cell j).trans hj) und_state rfl info_state ?_) |
    (refine wpStoreAt rfl rfl 53 _ _ rfl (w.heap.size + 1 + 1) 0 rfl (refA R4 S.p.tanks.length S.p.valves.length S.p.lines.length) rfl 53 _ (HST.out.ex (2, 53, refA nilR 0 0 0) (by simp [carEx])).2.2 (by show 0 + 9 ≤ 9; omega) (refA_one _ _ _ _) info_state ?_; intro wf hkf hof))
  refine bodyPost_ret (results_cellS rfl _ _ (w.heap.size + 1 + 1) 53 (refA R4 S.p.tanks.length S.p.valves.length S.p.lines.length) _ rfl (by rw [splA_all _ _ (by rw [refA_size, refA_size])] at hkf; exact hkf) und_state rfl info_state) rfl ?_
  exact ⟨R4, rfl, (HR24.out.only hof (by omega) (by omega)).at_, HST.out.below.trans (hof.below (by omega))⟩

set_option maxRecDepth 100000 in
set_option maxHeartbeats 4000000 in
theorem refCarry_trueND [Exc] (w : World) (x : PV) (R : RX) (S : Sys) (i dn : Nat) (flow : Int) (vs : List Int) (sA : Option Addr) (sc : Nat) (H : CarryPre w x R S i sA sc ⟨(-1), (dn : Int), flow, true, vs⟩) (m1 m2 : Int)
    (hm1 : flow = m1) (hm2 : (if 1073741824 - (S.tank dn).gas < m1 then 1073741824 - (S.tank dn).gas else m1) = m2) (hb0 : 0 ≤ m2 ∧ m2 ≤ 1073741824 ∧ 0 ≤ flow ∧ flow ≤ 1073741824) (hdn : dn < S.p.tanks.length) (hmd : (S.tank dn).gas + m2 ≤ 1073741824) :
    Calls Tryz.prog 144 #[.agg (plantA x S.p), .agg (SysA R S), .int .i64 i] w (RefOne w ((addN S true dn m2).setC i (wrap64 (S.carried i + m2)))) := by
  obtain ⟨hp, hr, ok, hi, hs, hl, hA, hc⟩ := H
  have hii : (i : Int) < (S.p.lines.length : Int) := by omega
  have h0i : (0 : Int) ≤ (i : Int) := by omega
  obtain ⟨bl, ol, hAl, hBl, l0, l1, l2, l3, l4⟩ := hp.lines.at5 hi
  rw [hl, hA, hc] at l0 l1 l2 l3 l4
  simp only [lineC] at l0 l1 l2 l3 l4
  obtain ⟨W0, hW⟩ : ∃ W0, W0 = (((w.alloc (.cells (plantA x S.p) 27)).alloc (.cells (SysA R S) 53)).alloc (.cells (refA nilR 0 0 0) 53)).alloc (.cells (lineA sA sc ⟨(-1), (dn : Int), flow, true, vs⟩) 76) := ⟨_, rfl⟩
  have hbW : Below w.heap.size w W0 := by rw [hW]; exact ((((Below.refl _ _).alloc (Nat.le_refl _) _).alloc (by simp) _).alloc (by simp; omega) _).alloc (by simp; omega) _
  have hWs : W0.heap.size = w.heap.size + 4 := by rw [hW]; simp
  have hbk0 : Bk W0 w.heap.size 27 (plantA x S.p) := by rw [hW]; exact (((Bk.new _ _ _).alloc _).alloc _).alloc _
  have hbk1 : Bk W0 (w.heap.size + 1) 53 (SysA R S) := by rw [hW]; exact ((Bk.newAt _ _ _ _ (by simp)).alloc _).alloc _
  have hbk2 : Bk W0 (w.heap.size + 2) 53 (refA nilR 0 0 0) := by rw [hW]; exact (Bk.newAt _ _ _ _ (by simp)).alloc _
  have hbk3 : Bk W0 (w.heap.size + 3) 76 (lineA sA sc ⟨(-1), (dn : Int), flow, true, vs⟩) := by rw [hW]; exact Bk.newAt _ _ _ _ (by simp)
  have HS0 : Hid (StR w x 4 (carEx sA sc ⟨(-1), (dn : Int), flow, true, vs⟩) W0 S) := Lib.hid ⟨⟨R, hbk1, RefB.start hr hbW hWs⟩, hbk0, fun e he => by
    simp only [carEx, List.mem_cons, List.not_mem_nil, or_false] at he
    rcases he with rfl | rfl
    · exact ⟨by show 2 ≠ 1; omega, by show 2 < 4; omega, hbk2⟩
    · exact ⟨by show 3 ≠ 1; omega, by show 3 < 4; omega, hbk3⟩, hp.below hbW, hbW, by omega, by omega⟩
  have HWx := Lib.hid hW
  have hbl2 : bl < w.heap.size + 1 := by omega
  have hbl3 : bl < w.heap.size + 1 + 1 := by omega
  have hnt := ok.tanks
  have hcn : S.p.tanks.length ≤ 4096 := hs.1
  have hln : S.p.lines.length ≤ 4096 := hs.2.2
  have HOK := Lib.hid ok
  have td := ok.tanks dn hdn
  have rd := tankOk_of ok.valid dn hdn
  have HL : Hid (∀ wx S', StR w x 4 (carEx sA sc ⟨(-1), (dn : Int), flow, true, vs⟩) wx S' → wx.cell? ⟨w.heap.size + 1 + 1 + 1, 0, none⟩ = some (.int .i64 (-1)) ∧ wx.cell? ⟨w.heap.size + 1 + 1 + 1, 1, none⟩ = some (.int .i64 dn) ∧ wx.cell? ⟨w.heap.size + 1 + 1 + 1, 2, none⟩ = some (.int .i64 flow) ∧ wx.cell? ⟨w.heap.size + 1 + 1 + 1, 3, none⟩ = some (.bool true)) := Lib.hid fun wx S' h => by
    have h3 := (h.ex (3, 76, lineA sA sc ⟨(-1), (dn : Int), flow, true, vs⟩) (by simp [carEx])).2.2
    exact ⟨h3.cell 0, h3.cell 1, h3.cell 2, h3.cell 3⟩
  simp only [plantA, refA, SysA, lineA, nilR, hAl] at HWx
  have hx := HL.out W0 S HS0.out
  obtain ⟨x0, x1, x2, x3⟩ := hx
  obtain ⟨R0, r10, r20⟩ := HS0.out.st
  obtain ⟨b0, o0, hA0, hB0, d9⟩ := (show Sl W0 W0.heap.size 1 (R0.a 1) S.p.tanks.length fun j _ => valR S 1 j from (r20.at_ 1 (by omega)).sl).at1v hdn
  have c0 : W0.cell? ⟨w.heap.size + 1, 1, none⟩ = some (.slice (some ⟨b0, o0, none⟩) S.p.tanks.length (R0.c 1)) := by rw [← hA0]; exact (r10.cell 1).trans (SysA_get R0 S 1 (by omega))
  have d9' : W0.cell? ⟨b0, o0 + dn, none⟩ = some (.int .i64 (S.tank dn).gas) := d9
  have hdi : (dn : Int) < (S.p.tanks.length : Int) := by omega
  have h0d : (0 : Int) ≤ (dn : Int) := by omega
  have hwm : IntKind.i64.wrap (1073741824 - (S.tank dn).gas) = 1073741824 - (S.tank dn).gas := IntWalk.i64_in _ (by omega)
  have l2b : bl < w.heap.size + 1 + 1 := by omega
  clear hW hbW hWs hbk0 hbk1 hbk2 hbk3 hp hr hs hl hA hc hnt ok r10 r20  d9  hA0
  dsimp only [plantA, refA, SysA]
  subst hm1
  go_enter Tryz.func144, Tryz.ntmps144
  go_upto_region 2 with (fail)
  rw [← HWx.out]
  go_wp2_with fail
  clear c0  d9' x0 x1 x2 x3 l0 l1 l2 l3 l4
  obtain ⟨x0, x1, x2, x3⟩ := HL.out W0 _ HS0.out
  obtain ⟨b1, o1, c1, hc1, hv1, hcall1⟩ := HS0.out.upd (k := 1) (n := S.p.tanks.length) (idx := dn) (by omega) rfl hdn hcn (fun j => (S.tank j).gas) (fun _ => rfl)
  have HCL1 := Lib.hid (hcall1 ((S.tank dn).gas + m2) (addN S true dn m2) rfl (valR_addGas S dn m2) (fun j => addGas_val S dn m2 j))
  have hwd : IntKind.i64.wrap ((S.tank dn).gas + m2) = (S.tank dn).gas + m2 := IntWalk.i64_in _ (by omega)
  clear hcall1
  go_still_tail 12, (by kernel_rfl)
  go_wp2_with (go_at_call 113; refine HCL1.out.mono ?_; rintro e w1 ⟨A1, C1, rfl, hb1, hcell1, hfr1, hst1⟩; clear x0 x1 x2 x3 hc1 hv1 HCL1; obtain ⟨x0, x1, x2, x3⟩ := HL.out w1 _ (HS0.out.later hb1))
  obtain ⟨W1, hW1⟩ : ∃ W1, W1 = w1.setCell ⟨w.heap.size + 1, 1, none⟩ (.slice A1 S.p.tanks.length C1) := ⟨_, rfl⟩
  rw [← hW1] at hst1 ⊢
  have HS1 := Lib.hid hst1
  clear hst1 hW1 hcell1 hfr1 hb1 x0 x1 x2 x3
  obtain ⟨b2, o2, c2, hc2, hv2, hcall2⟩ := HS1.out.upd (k := 6) (n := S.p.lines.length) (idx := i) (by omega) rfl hi hln (fun j => S.carried j) (fun _ => rfl)
  have HCL2 := Lib.hid (hcall2 (wrap64 (S.carried i + m2)) ((addN S true dn m2).setC i (wrap64 (S.carried i + m2))) rfl (valR_setC (addN S true dn m2) i _) (fun j => rfl))
  clear hcall2
  go_still_tail 10, (by kernel_rfl)
  go_wp2_with (first | (go_at_call 113; refine HCL2.out.mono ?_; rintro e w1 ⟨A2, C2, rfl, hb2, hcell2, hfr2, hst2⟩; clear hc2 hv2 HCL2; have HST := Lib.hid hst2; clear hst2; obtain ⟨R4, r14, r24⟩ := HST.out.st; have HR14 := Lib.hid r14; have HR24 := Lib.hid r24; clear r14 r24) |
    (refine wpLoadAt rfl 53 _ rfl (w.heap.size + 1) 0 rfl (refA R4 S.p.tanks.length S.p.valves.length S.p.lines.length) _ (fun j u hj => by rw [Nat.zero_add]; exact (HR14.out.cell j).trans hj) und_state rfl info_state ?_) |
    (refine wpStoreAt rfl rfl 53 _ _ rfl (w.heap.size + 1 + 1) 0 rfl (refA R4 S.p.tanks.length S.p.valves.length S.p.lines.length) rfl 53 _ (HST.out.ex (2, 53, refA nilR 0 0 0) (by simp [carEx])).2.2 (by show 0 + 9 ≤ 9; omega) (refA_one _ _ _ _) info_state ?_; intro wf hkf hof))
  refine bodyPost_ret (results_cellS rfl _ _ (w.heap.size + 1 + 1) 53 (refA R4 S.p.tanks.length S.p.valves.length S.p.lines.length) _ rfl (by rw [splA_all _ _ (by rw [refA_size, refA_size])] at hkf; exact hkf) und_state rfl info_state) rfl ?_
  exact ⟨R4, rfl, (HR24.out.only hof (by omega) (by omega)).at_, HST.out.below.trans (hof.below (by omega))⟩
end Go.Proofs.YtogobjmmgjfjjaaGreat
