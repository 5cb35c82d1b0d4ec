/- What is proved: a contract of engine.New. Conditions: the plant lies in memory. -/
import Derived.Test.YtogobjmmgjfjjaaF4
namespace Go.Proofs.Ytogobjmmgjfjjaa
open Go.RowKit

set_option maxRecDepth 100000 in
set_option maxHeartbeats 4000000 in
theorem new_any (w : World) (x : PV) (p : PlantD) (h : PlantAt w w.heap.size x p) :
    Calls Try.prog 9 #[.agg (plantA x p)] w fun e w' => Below w.heap.size w w' ∧
      if plantB p = true then ∃ X, e = .returned (.tuple #[.pointer (some ⟨X.sb, 0, none⟩), .int .i64 0]) ∧ SysAt w' X (startB p) ∧ w.heap.size ≤ X.lo
      else e = .returned (.tuple #[.pointer none, .int .i64 2]) := by
  have hb0 : ∀ o, Below w.heap.size w (w.alloc o) := fun o => (Below.refl _ _).alloc (Nat.le_refl _) _
  have HC := Lib.hid fun o => checkPlant_any (w.alloc o) x p ((h.below (hb0 o)).mono (by simp))
  have h0 := Lib.hid h
  clear h
  dsimp only [plantA] at HC ⊢
  obtain ⟨b, hbv⟩ : ∃ b, b = plantB p := ⟨_, rfl⟩
  simp only [← hbv] at HC ⊢
  have HBV := Lib.hid hbv
  clear hbv
  go_enter Try.func9, Try.ntmps9
  go_wp2_with fail
  obtain ⟨w0, hw0⟩ : ∃ w0, w0 = w.alloc (.cells #[.slice x.tA p.tanks.length x.tc, .slice x.vA p.valves.length x.vc, .slice x.lA p.lines.length x.lc, .slice x.nA p.never.length x.nc] 33) := ⟨_, rfl⟩
  have hB0 : Below w.heap.size w w0 := by rw [hw0]; exact hb0 _
  have hP0 : Bk w0 w.heap.size 33 (plantA x p) := by rw [hw0]; exact Bk.new _ _ _
  have HC0 := HC.out (.cells #[.slice x.tA p.tanks.length x.tc, .slice x.vA p.valves.length x.vc, .slice x.lA p.lines.length x.lc, .slice x.nA p.never.length x.nc] 33)
  rw [← hw0] at HC0 ⊢
  have hs0 : w0.heap.size = w.heap.size + 1 := by rw [hw0]; simp
  clear hw0 HC
  refine HC0.mono ?_
  rintro e W ⟨rfl, hBW⟩
  have hWB : Below w.heap.size w W := hB0.trans (hBW.mono (by omega))
  have hP := hP0.below hBW hP0.lt
  have hpl := hP.lt
  clear HC0 hBW hB0 hP0 hs0 hb0
  cases b with
  | false =>
    have HB := Lib.hid hWB
    clear hP hWB
    go_wp2_with fail
    go_ret2
    exact ⟨HB.out, rfl⟩
  | true =>
  have hv : plantB p = true := HBV.out.symm
  have hsz := plantB_sizes hv
  have HV := Lib.hid hv
  have hvo : ValvesOk p := (startB_ok hv).valid |> fun h => by
    unfold plantB at h
    simp only [Bool.and_eq_true] at h
    exact valvesOk_of _ h.1.1.1.1.2
  have hvoh := Lib.hid hvo
  clear hv hvo
  have HP := Lib.hid hP
  have HB := Lib.hid hWB
  clear hP hWB
  go_wp2_with fail
  refine wp_region_stepsJ (by kernel_rfl) (by kernel_rfl) (NewJ W p) NewE
    (fun i u d w1 => match i with
      | 0 | 2 => u = .agg (plantA x p)
      | 1 => ∃ x', u = .agg (plantA x' p)
      | 3 => u = .agg (spotsA (firstB p))
      | 4 => u = .pointer (some ⟨w.heap.size, 0, none⟩)
      | 5 => u = .slice x.tA p.tanks.length x.tc
      | 6 => u = .int .i64 p.tanks.length
      | 8 => u = .pointer (some ⟨w.heap.size, 2, none⟩)
      | 9 => u = .slice x.lA p.lines.length x.lc
      | 10 => u = .int .i64 p.lines.length
      | 7 => ∃ tb, u = .slice (some ⟨tb, 0, none⟩) p.tanks.length p.tanks.length ∧ Bk w1 tb 83 (tanksA p.tanks.length fun _ => zeroT)
      | 11 => ∃ cb, u = .slice (some ⟨cb, 0, none⟩) p.lines.length p.lines.length ∧ Bk w1 cb 3 (carrA p.lines.length fun _ => 0)
      | 12 => ∃ x' tb cb, d 1 = .agg (plantA x' p) ∧ d 7 = .slice (some ⟨tb, 0, none⟩) p.tanks.length p.tanks.length ∧ d 11 = .slice (some ⟨cb, 0, none⟩) p.lines.length p.lines.length ∧ u = .agg (sys0 x' p tb cb p.tanks.length p.lines.length)
      | 13 => ∃ sb cs, u = .pointer (some ⟨sb, 0, none⟩) ∧ d 12 = .agg cs ∧ Bk w1 sb 81 cs
      | 14 => ∃ gb cs, u = .pointer (some ⟨gb, 0, none⟩) ∧ cs.size = 1 ∧ Bk w1 gb 37 cs
      | 15 => ∃ gb, d 14 = .pointer (some ⟨gb, 0, none⟩) ∧ Bk w1 gb 37 #[d 13]
      | _ => True) ?_ ?_ ?_ ?_
  · intro vs
    exact ⟨(Below.refl _ _).drew, fun j _ hd => by simp at hd, fun hd => by simp at hd⟩
  · intro i j hij hanc u d w1 w2 hr hE
    match i with
    | 0 => exact hr
    | 1 => exact hr
    | 2 => exact hr
    | 3 => exact hr
    | 4 => exact hr
    | 5 => exact hr
    | 6 => exact hr
    | 7 => obtain ⟨b, e, hb⟩ := hr; exact ⟨b, e, hE.bk hb (by decide)⟩
    | 8 => exact hr
    | 9 => exact hr
    | 10 => exact hr
    | 11 => obtain ⟨b, e, hb⟩ := hr; exact ⟨b, e, hE.bk hb (by decide)⟩
    | 12 => exact hr
    | 13 => obtain ⟨b, cs, e, e2, hb⟩ := hr; exact ⟨b, cs, e, e2, hE.bk hb (by decide)⟩
    | 14 => obtain ⟨b, cs, e, e2, hb⟩ := hr; obtain ⟨cs', e3, hb'⟩ := hE.gb hb e2; exact ⟨b, cs', e, e3, hb'⟩
    | 15 => obtain ⟨b, e, hb⟩ := hr; exact ⟨b, e, hb.below (hE.1 (Ne.symm hij)) hb.lt⟩
    | n + 16 => trivial
  · refine ⟨?_, ?_, ?_, ?_, ?_, ?_, ?_, ?_, ?_, ?_, ?_, ?_, ?_, ?_, ?_, ?_, trivial⟩
    · intro a w1 vs K dn Hb Hb2 HJ HK HD HN k
      have HJB := HJ.below
      have k1 := HK 1 (by decide)
      exact wpo_loadS 33 (.tmp 1) rfl w.heap.size 0 (by simpa [Act.eval] using k1) (plantA x p) _ (fun j u hj => by rw [(HP.out.below HJB hpl).cell, Nat.zero_add]; exact hj) und_plant rfl info_plant (k _ _ (by simp) (HJ.step 0 _ (by decide) (Below.refl _ _) (fun h => by cases h)) (.of (Below.refl _ _)) rfl)
    · intro a w1 vs K dn Hb Hb2 HJ HK HD HN k
      have HJB := HJ.below
      have e0 := (HD 0 _ 8 rfl rfl rfl).1.trans (HD 0 _ 8 rfl rfl rfl).2
      exact wpo_call 22 _ _ rfl #[.agg (plantA x p)] (by simp [Act.eval, e0]) (fun args w => by kernel_rfl)
        ((copied_any w1 x p ((h0.out.below (HB.out.trans (HJB.mono (by omega)))).mono (by have := HJB.size; omega)) HV.out).mono fun e w' ⟨x', he, hp, hb⟩ => ⟨_, he, k _ _ (by simp) (HJ.copied x' hb hp) (.of hb) ⟨x', rfl⟩⟩)
    · intro a w1 vs K dn Hb Hb2 HJ HK HD HN k
      have HJB := HJ.below
      have k1 := HK 1 (by decide)
      exact wpo_loadS 33 (.tmp 1) rfl w.heap.size 0 (by simpa [Act.eval] using k1) (plantA x p) _ (fun j u hj => by rw [(HP.out.below HJB hpl).cell, Nat.zero_add]; exact hj) und_plant rfl info_plant (k _ _ (by simp) (HJ.step 2 _ (by decide) (Below.refl _ _) (fun h => by cases h)) (.of (Below.refl _ _)) rfl)
    · intro a w1 vs K dn Hb Hb2 HJ HK HD HN k
      have HJB := HJ.below
      have e2 := (HD 2 _ 10 rfl rfl rfl).1.trans (HD 2 _ 10 rfl rfl rfl).2
      exact wpo_call 23 _ _ rfl #[.agg (plantA x p)] (by simp [Act.eval, e2]) (fun args w => by kernel_rfl)
        ((first_any w1 x p ((h0.out.below (HB.out.trans (HJB.mono (by omega)))).mono (by have := HJB.size; omega)) hvoh.out).mono fun e w' ⟨he, hb⟩ => ⟨_, he, k _ _ (by simp) (HJ.step 3 _ (by decide) hb (fun h => by cases h)) (.of hb) rfl⟩)
    · intro a w1 vs K dn Hb Hb2 HJ HK HD HN k
      have HJB := HJ.below
      have k1 := HK 1 (by decide); go_simp; exact k _ _ (by simp) (HJ.step 4 _ (by decide) (Below.refl _ _) (fun h => by cases h)) (.of (Below.refl _ _)) rfl
    · intro a w1 vs K dn Hb Hb2 HJ HK HD HN k
      have HJB := HJ.below
      have e4 := (HD 4 _ 12 rfl rfl rfl).1.trans (HD 4 _ 12 rfl rfl rfl).2
      have hc : w1.cell? ⟨w.heap.size, 0, none⟩ = _ := (HP.out.below HJB hpl).cell 0
      simp [plantA] at hc
      go_simp; exact k _ _ (by simp) (HJ.step 5 _ (by decide) (Below.refl _ _) (fun h => by cases h)) (.of (Below.refl _ _)) rfl
    · intro a w1 vs K dn Hb Hb2 HJ HK HD HN k
      have HJB := HJ.below
      have e5 := (HD 5 _ 13 rfl rfl rfl).1.trans (HD 5 _ 13 rfl rfl rfl).2; go_simp; exact k _ _ (by simp) (HJ.step 6 _ (by decide) (Below.refl _ _) (fun h => by cases h)) (.of (Below.refl _ _)) rfl
    · intro a w1 vs K dn Hb Hb2 HJ HK HD HN k
      have HJB := HJ.below
      have e6 := (HD 6 _ 14 rfl rfl rfl).1.trans (HD 6 _ 14 rfl rfl rfl).2
      obtain ⟨i0, hi, hz0, hz1, hz2⟩ := info_parts infoC_tank
      refine wpo_make 76 83 (.tmp 14) (.tmp 14) rfl p.tanks.length (by simpa [Act.eval] using e6) (by simpa [Act.eval] using e6) i0 (.agg #[.int .i64 0, .int .i64 0, .int .i64 0, .int .i64 0, .int .i64 0]) 5 Try.underlying76 hi hz0 hz1 (by omega) (by omega) (by omega) ?_
      have hb : Below w1.heap.size w1 (w1.alloc (.cells (madeCells (Value.cells (.agg #[.int .i64 0, .int .i64 0, .int .i64 0, .int .i64 0, .int .i64 0])) (p.tanks.length * 5)) 83)) := (Below.refl _ _).alloc (Nat.le_refl _) _
      exact k _ _ (by simp) (HJ.step 7 _ (by decide) hb (fun _ => by simp [blk])) (.of hb) ⟨_, rfl, by rw [← made_tanks]; exact Bk.new _ _ _⟩
    · intro a w1 vs K dn Hb Hb2 HJ HK HD HN k
      have HJB := HJ.below
      have k1 := HK 1 (by decide); go_simp; exact k _ _ (by simp) (HJ.step 8 _ (by decide) (Below.refl _ _) (fun h => by cases h)) (.of (Below.refl _ _)) rfl
    · intro a w1 vs K dn Hb Hb2 HJ HK HD HN k
      have HJB := HJ.below
      have e8 := (HD 8 _ 16 rfl rfl rfl).1.trans (HD 8 _ 16 rfl rfl rfl).2
      have hc : w1.cell? ⟨w.heap.size, 2, none⟩ = _ := (HP.out.below HJB hpl).cell 2
      simp [plantA] at hc
      go_simp; exact k _ _ (by simp) (HJ.step 9 _ (by decide) (Below.refl _ _) (fun h => by cases h)) (.of (Below.refl _ _)) rfl
    · intro a w1 vs K dn Hb Hb2 HJ HK HD HN k
      have HJB := HJ.below
      have e9 := (HD 9 _ 17 rfl rfl rfl).1.trans (HD 9 _ 17 rfl rfl rfl).2; go_simp; exact k _ _ (by simp) (HJ.step 10 _ (by decide) (Below.refl _ _) (fun h => by cases h)) (.of (Below.refl _ _)) rfl
    · intro a w1 vs K dn Hb Hb2 HJ HK HD HN k
      have HJB := HJ.below
      have e10 := (HD 10 _ 18 rfl rfl rfl).1.trans (HD 10 _ 18 rfl rfl rfl).2
      obtain ⟨i0, hi, hz0, hz1, hz2⟩ := info_parts infoC_Int
      refine wpo_make 62 3 (.tmp 18) (.tmp 18) rfl p.lines.length (by simpa [Act.eval] using e10) (by simpa [Act.eval] using e10) i0 (.int .i64 0) 1 Try.underlying62 hi hz0 hz1 (by omega) (by omega) (by omega) ?_
      have hb : Below w1.heap.size w1 (w1.alloc (.cells (madeCells (Value.cells (.int .i64 0)) (p.lines.length * 1)) 3)) := (Below.refl _ _).alloc (Nat.le_refl _) _
      exact k _ _ (by simp) (HJ.step 11 _ (by decide) hb (fun _ => by simp [blk])) (.of hb) ⟨_, rfl, by rw [← made_carr]; exact Bk.new _ _ _⟩
    · intro a w1 vs K dn Hb Hb2 HJ HK HD HN k
      have HJB := HJ.below
      have e3 := (HD 3 _ 11 rfl rfl rfl).1.trans (HD 3 _ 11 rfl rfl rfl).2
      obtain ⟨q1, x', r1⟩ := HD 1 _ 9 rfl rfl rfl
      obtain ⟨q7, tb, r7, _⟩ := HD 7 _ 15 rfl rfl rfl
      obtain ⟨q11, cb, r11, _⟩ := HD 11 _ 19 rfl rfl rfl
      have e1 := q1.trans r1
      have e7 := q7.trans r7
      have e11 := q11.trans r11
      have hbu := built_sys x' p tb cb p.tanks.length p.lines.length
      have hev : (Array.map (fun (i, x) => (i, a.eval x)) #[(0, Operand.tmp 9), (1, .tmp 11), (3, .tmp 15), (4, .tmp 19), (6, .const (.bool true))]).toList = [(0, .agg (plantA x' p)), (1, .agg (spotsA (firstB p))), (3, .slice (some ⟨tb, 0, none⟩) p.tanks.length p.tanks.length), (4, .slice (some ⟨cb, 0, none⟩) p.lines.length p.lines.length), (6, .bool true)] := by
        simp [Act.eval, e1, e3, e7, e11]
      refine wp_build 81 _ rfl (by rw [hev, hbu]; rfl) ?_
      rw [hev, hbu]
      exact k _ _ (by simp) (HJ.step 12 _ (by decide) (Below.refl _ _) (fun h => by cases h)) (.of (Below.refl _ _)) ⟨x', tb, cb, r1, r7, r11, rfl⟩
    · intro a w1 vs K dn Hb Hb2 HJ HK HD HN k
      have HJB := HJ.below
      obtain ⟨q12, x', tb, cb, _, _, _, r12⟩ := HD 12 _ 20 rfl rfl rfl
      have e12 := q12.trans r12
      go_simp
      have hb : ∀ o, Below w1.heap.size w1 (w1.alloc o) := fun o => (Below.refl _ _).alloc (Nat.le_refl _) _
      exact k _ _ (by simp) (HJ.step 13 _ (by decide) (hb _) (fun _ => by simp [blk])) (.of (hb _)) ⟨_, _, rfl, r12, Bk.new _ _ _⟩
    · intro a w1 vs K dn Hb Hb2 HJ HK HD HN k
      have HJB := HJ.below
      go_simp
      have hb : ∀ o, Below w1.heap.size w1 (w1.alloc o) := fun o => (Below.refl _ _).alloc (Nat.le_refl _) _
      exact k _ _ (by simp) (HJ.step 14 _ (by decide) (hb _) (fun _ => by simp [blk])) (.of (hb _)) ⟨_, _, rfl, rfl, Bk.new _ _ _⟩
    · intro a w1 vs K dn Hb Hb2 HJ HK HD HN k
      have HJB := HJ.below
      obtain ⟨q13, sb, cs, r13, _, _⟩ := HD 13 _ 21 rfl rfl rfl
      obtain ⟨q14, gb, cg, r14, s14, b14⟩ := HD 14 _ 4 rfl rfl rfl
      have e13 := q13.trans r13
      have e14 := q14.trans r14
      have hc : w1.cell? ⟨gb, 0, none⟩ = some cg[0] := by rw [b14.cell]; simp [s14]
      have hf := b14.free 0
      have hd14 : dn 14 = true := Hb2 14 (by decide)
      go_simp
      have ho := Only.setCell w1 gb 0 (.pointer (some ⟨sb, 0, none⟩))
      have hset := b14.set 0 (.pointer (some ⟨sb, 0, none⟩))
      have hone : cg.setIfInBounds 0 (.pointer (some ⟨sb, 0, none⟩)) = #[.pointer (some ⟨sb, 0, none⟩)] := by
        apply Array.ext_getElem?
        intro m
        rw [Array.getElem?_setIfInBounds]
        match m with
        | 0 => simp [s14]
        | m + 1 => simp [s14]
      rw [hone] at hset
      refine k undef _ (by simp) (HJ.only hd14 (by rw [r14]; exact ho)) ⟨fun h => absurd rfl h, .inr ⟨gb, _, ho, ⟨cg, b14⟩, hset, rfl⟩⟩ ⟨gb, r14, ?_⟩
      show Bk _ gb _ #[vs 13]
      rw [r13]; exact hset
  · intro vs dn w1 hdn HJ hr
    obtain ⟨x', lo, hi, e1, l1, l2, hpl', hno⟩ := HJ.plant (hdn 1 (by decide))
    obtain ⟨tb, e7, b7⟩ := hr 7 _ rfl
    obtain ⟨cb, e11, b11⟩ := hr 11 _ rfl
    obtain ⟨sb, cs, e13, d12, b13⟩ := hr 13 _ rfl
    obtain ⟨x2, tb2, cb2, d1, d7, d11, e12⟩ := hr 12 _ rfl
    obtain ⟨gb, d14, b15⟩ := hr 15 _ rfl
    have d12 : vs 12 = _ := d12
    have d1 : vs 1 = _ := d1
    have d7 : vs 7 = _ := d7
    have d11 : vs 11 = _ := d11
    have d14 : vs 14 = _ := d14
    have b15 : Bk w1 gb 37 #[vs 13] := b15
    rw [e12] at d12
    rw [e1] at d1
    rw [e7] at d7
    rw [e11] at d11
    injection d12 with d12
    injection d1 with d1
    injection d7 with d7 _ _
    injection d7 with d7
    injection d7 with d7 _ _
    injection d11 with d11 _ _
    injection d11 with d11
    injection d11 with d11 _ _
    subst d7
    subst d11
    rw [← d12, sys0_congr d1.symm] at b13
    rw [e13] at b15
    have o7 := HJ.own 7 rfl (hdn 7 (by decide))
    have o11 := HJ.own 11 rfl (hdn 11 (by decide))
    have o13 := HJ.own 13 rfl (hdn 13 (by decide))
    have o14 := HJ.own 14 rfl (hdn 14 (by decide))
    have n7 := hno 7 rfl (hdn 7 (by decide))
    have n11 := hno 11 rfl (hdn 11 (by decide))
    have n13 := hno 13 rfl (hdn 13 (by decide))
    simp only [e7, e11, e13, d14, blk] at o7 o11 o13 o14 n7 n11 n13
    have hJB := HJ.below
    clear hr HJ hno hdn e1 e7 e11 e12 d1 d12
    have hne : gb ≠ sb := b15.ne b13 (by decide)
    have hne' : sb ≠ gb := Ne.symm hne
    have ns7 : tb ≠ sb := b7.ne b13 (by decide)
    have ns11 : cb ≠ sb := b11.ne b13 (by decide)
    have cg : w1.cell? ⟨gb, 0, none⟩ = some (.pointer (some ⟨sb, 0, none⟩)) := b15.cell 0
    have c42 : w1.cell? ⟨sb, 42, none⟩ = some .nilFunc := (b13.cell 42).trans (sys0_get _ _ _ _ _ _ 2)
    have c43 : w1.cell? ⟨sb, 43, none⟩ = some .nilFunc := (b13.cell 43).trans (sys0_get _ _ _ _ _ _ 3)
    have c44 : w1.cell? ⟨sb, 44, none⟩ = some .nilFunc := (b13.cell 44).trans (sys0_get _ _ _ _ _ _ 4)
    have c45 : w1.cell? ⟨sb, 45, none⟩ = some .nilFunc := (b13.cell 45).trans (sys0_get _ _ _ _ _ _ 5)
    have f42 := b13.free 42
    have f43 := b13.free 43
    have f44 := b13.free 44
    have f45 := b13.free 45
    have hWs := HB.out.size
    have hsb := b13.lt
    have hgb := b15.lt
    have B7 := Lib.hid b7
    have B11 := Lib.hid b11
    have B13 := Lib.hid b13
    have B15 := Lib.hid b15
    have HPL := Lib.hid hpl'
    have HJB := Lib.hid hJB
    clear b7 b11 b13 b15 hpl' hJB
    simp only [putAll, Act.put, d14]
    clear d14 e13
    go_simp
    go_wp2_with fail
    go_region
    go_wp2_with fail
    go_ret2
    obtain ⟨W4, hW4⟩ : ∃ W4, W4 = ((((w1.setCell ⟨sb, 42, none⟩ (.func (.func 24) #[] #[.pointer (some ⟨gb, 0, none⟩)])).setCell ⟨sb, 43, none⟩ (.func (.func 25) #[.pointer (some ⟨sb, 0, none⟩)] #[])).setCell ⟨sb, 44, none⟩
      (.func (.func 26) #[] #[.pointer (some ⟨gb, 0, none⟩)])).setCell ⟨sb, 45, none⟩ (.func (.func 27) #[] #[.pointer (some ⟨gb, 0, none⟩)])) := ⟨_, rfl⟩
    rw [← hW4]
    have ho : Only sb w1 W4 := by rw [hW4]; exact (((Only.setCell _ _ _ _).trans (Only.setCell _ _ _ _)).trans (Only.setCell _ _ _ _)).trans (Only.setCell _ _ _ _)
    have ho' : Only sb w1 W4.drew := ⟨ho.os, ho.tape, ho.output, ho.size, ho.block⟩
    have hS : Bk W4.drew sb 81 (sysA ⟨x', sb, tb, cb, gb, w.heap.size, w1.heap.size⟩ (startB p)) := by
      have := (((B13.out.set 42 (.func (.func 24) #[] #[.pointer (some ⟨gb, 0, none⟩)])).set 43 (.func (.func 25) #[.pointer (some ⟨sb, 0, none⟩)] #[])).set 44 (.func (.func 26) #[] #[.pointer (some ⟨gb, 0, none⟩)])).set 45 (.func (.func 27) #[] #[.pointer (some ⟨gb, 0, none⟩)])
      rw [← hW4, sys0_set x' p ⟨x', sb, tb, cb, gb, w.heap.size, w1.heap.size⟩ _ _ _ _ rfl rfl] at this
      exact this
    clear hW4
    refine ⟨(HB.out.trans (HJB.out.mono hWs)).trans (ho'.below (by omega)), ⟨x', sb, tb, cb, gb, w.heap.size, w1.heap.size⟩, rfl, ⟨hS, B7.out.only ho' ns7, B11.out.only ho' ns11, B15.out.only ho' hne, ?_, ?_, ?_, startB_ok HV.out⟩, Nat.le_refl _⟩
    · exact (HPL.out.keep fun b hb => ho'.block b (by rintro rfl; exact n13 hb)).mono fun b hb => ⟨by show w.heap.size ≤ b; omega, by show b < w1.heap.size; omega, by rintro rfl; exact n13 hb, by rintro rfl; exact n7 hb, by rintro rfl; exact n11 hb⟩
    · show w.heap.size ≤ sb ∧ w.heap.size ≤ tb ∧ w.heap.size ≤ cb ∧ w.heap.size ≤ gb; omega
    · show sb < w1.heap.size ∧ tb < w1.heap.size ∧ cb < w1.heap.size ∧ gb < w1.heap.size ∧ w1.heap.size ≤ W4.drew.heap.size; rw [ho'.size]; omega
end Go.Proofs.Ytogobjmmgjfjjaa
