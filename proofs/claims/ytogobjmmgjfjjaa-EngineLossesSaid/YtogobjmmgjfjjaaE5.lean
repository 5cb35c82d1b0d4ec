/- What is proved: a contract of Tick of engine.System. Conditions: the system lies in memory. -/
import Derived.Test.YtogobjmmgjfjjaaE4
namespace Go.Proofs.Ytogobjmmgjfjjaa
open Go.RowKit

theorem SysAt.loadStuck {w : World} {X : SX} {S : Sys} (h : SysAt w X S) : ∀ j u, (stuckA S.stuck)[j]? = some u → w.cell? ⟨X.sb, 28 + j, none⟩ = some u := fun j u hj => by
  rw [h.s.cell]; exact sysA_stuck X S j u hj
theorem und_stuck : Try.prog.underlying 77 = some (.array (match Try.prog.underlying 77 with | some (.array n _) => n | _ => 0) (match Try.prog.underlying 77 with | some (.array _ t) => t | _ => 0)) := by kernel_rfl
theorem SysAt.move {w w' : World} {X : SX} {S : Sys} (h : SysAt w X S) (ho : Only X.sb w w') (hr : Bk w' X.sb 81 (splA (sysA X S) 4 (spotsA S.move.at_).toList)) : SysAt w' X S.move ∧ Chg X w w' := by
  rw [sysA_setSpots] at hr
  obtain ⟨n1, n2, n3, _, _, _⟩ := h.ne
  exact ⟨h.turn (Chg.of_only ho (by simp)) rfl hr (h.t.only ho (Ne.symm n1)) (h.c.only ho (Ne.symm n2)) ⟨h.ok.valid, movedB_ok h.ok.spots _, safeB_moved _ h.ok.safe, h.ok.tanks⟩, Chg.of_only ho (by simp)⟩

set_option maxRecDepth 100000 in
set_option maxHeartbeats 4000000 in
theorem tick_any (w : World) (X : SX) (S : Sys) (h : SysAt w X S) :
    Calls Try.prog 12 #[.pointer (some ⟨X.sb, 0, none⟩)] w fun e w' => e = .returned (.int .i64 0) ∧ SysAt w' X (tickB S) ∧ Chg X w w' := by
  have HI := Lib.hid (is_any w X S h)
  have h0 := Lib.hid h
  clear h
  go_enter Try.func12, Try.ntmps12
  go_wp2_with (first | (go_at_call 36; refine HI.out.mono ?_; rintro e w' ⟨rfl, rfl⟩))
  have h := h0.out
  refine wp_region_stepsM (by kernel_rfl) (by kernel_rfl) 16 (by decide) (fun b w1 => if b = true then SysAt w1 X S.move ∧ Chg X w w1 else Below w.heap.size w w1)
    (fun _ _ _ => True)
    (fun i u d w1 => match i with
      | 0 | 1 | 2 | 5 | 6 | 9 | 10 | 3 | 14 => u = .pointer (some ⟨X.sb, 0, none⟩)
      | 7 | 15 => u = .pointer (some ⟨X.sb, 4, none⟩)
      | 11 => u = .pointer (some ⟨X.sb, 28, none⟩)
      | 4 => u = .agg (plantA X.pv S.p)
      | 8 => u = .agg (spotsA S.at_)
      | 12 => u = .agg (stuckA S.stuck)
      | 13 => u = .agg (spotsA S.move.at_)
      | _ => True) (Below.refl _ _).drew (fun _ _ _ _ _ _ _ _ h _ => h) ?_ ?_
  · have HS := Lib.hid fun (w1 : World) (hw1 : Below w.heap.size w w1) => h.below hw1
    have HC := Lib.hid fun (w1 : World) (hw1 : Below w.heap.size w w1) => moved_any w1 X.pv S.p (h.below hw1).plantAt h.valves S.at_ h.ok.spots S.stuck
    clear h HI h0
    refine ⟨?_, ?_, ?_, ?_, ?_, ?_, ?_, ?_, ?_, ?_, ?_, ?_, ?_, ?_, ?_, ?_, ?_, trivial⟩
    · intro a w1 vs K b Hb HJ HK HD HN k; obtain rfl : b = false := by cases b with | false => rfl | true => exact absurd (Hb rfl).2 (by decide)
      have HJ' : Below w.heap.size w w1 := HJ
      have k0 := HK 0 (by decide); go_simp; exact k _ _ (by simp) HJ trivial rfl
    · intro a w1 vs K b Hb HJ HK HD HN k; obtain rfl : b = false := by cases b with | false => rfl | true => exact absurd (Hb rfl).2 (by decide)
      have HJ' : Below w.heap.size w w1 := HJ
      have k0 := HK 0 (by decide); go_simp; exact k _ _ (by simp) HJ trivial rfl
    · intro a w1 vs K b Hb HJ HK HD HN k; obtain rfl : b = false := by cases b with | false => rfl | true => exact absurd (Hb rfl).2 (by decide)
      have HJ' : Below w.heap.size w w1 := HJ
      have e1 := (HD 1 _ 13 rfl rfl rfl).1.trans (HD 1 _ 13 rfl rfl rfl).2; go_simp; exact k _ _ (by simp) HJ trivial rfl
    · intro a w1 vs K b Hb HJ HK HD HN k; obtain rfl : b = false := by cases b with | false => rfl | true => exact absurd (Hb rfl).2 (by decide)
      have HJ' : Below w.heap.size w w1 := HJ
      have e2 := (HD 2 _ 14 rfl rfl rfl).1.trans (HD 2 _ 14 rfl rfl rfl).2; go_simp; exact k _ _ (by simp) HJ trivial rfl
    · intro a w1 vs K b Hb HJ HK HD HN k; obtain rfl : b = false := by cases b with | false => rfl | true => exact absurd (Hb rfl).2 (by decide)
      have HJ' : Below w.heap.size w w1 := HJ
      have e3 := (HD 3 _ 15 rfl rfl rfl).1.trans (HD 3 _ 15 rfl rfl rfl).2; exact wpo_loadS 33 (.tmp 15) rfl _ 0 (by simpa [Act.eval] using e3) (plantA X.pv S.p) _ (HS.out w1 HJ').loadPlant und_plant rfl info_plant (k _ _ (by simp) HJ trivial rfl)
    · intro a w1 vs K b Hb HJ HK HD HN k; obtain rfl : b = false := by cases b with | false => rfl | true => exact absurd (Hb rfl).2 (by decide)
      have HJ' : Below w.heap.size w w1 := HJ
      have k0 := HK 0 (by decide); go_simp; exact k _ _ (by simp) HJ trivial rfl
    · intro a w1 vs K b Hb HJ HK HD HN k; obtain rfl : b = false := by cases b with | false => rfl | true => exact absurd (Hb rfl).2 (by decide)
      have HJ' : Below w.heap.size w w1 := HJ
      have e5 := (HD 5 _ 17 rfl rfl rfl).1.trans (HD 5 _ 17 rfl rfl rfl).2; go_simp; exact k _ _ (by simp) HJ trivial rfl
    · intro a w1 vs K b Hb HJ HK HD HN k; obtain rfl : b = false := by cases b with | false => rfl | true => exact absurd (Hb rfl).2 (by decide)
      have HJ' : Below w.heap.size w w1 := HJ
      have e6 := (HD 6 _ 18 rfl rfl rfl).1.trans (HD 6 _ 18 rfl rfl rfl).2; go_simp; exact k _ _ (by simp) HJ trivial rfl
    · intro a w1 vs K b Hb HJ HK HD HN k; obtain rfl : b = false := by cases b with | false => rfl | true => exact absurd (Hb rfl).2 (by decide)
      have HJ' : Below w.heap.size w w1 := HJ
      have e7 := (HD 7 _ 19 rfl rfl rfl).1.trans (HD 7 _ 19 rfl rfl rfl).2; exact wpo_loadS 74 (.tmp 19) rfl _ 4 (by simpa [Act.eval] using e7) (spotsA S.at_) _ (HS.out w1 HJ').loadSpots und_spots rfl (info_spots_s _) (k _ _ (by simp) HJ trivial rfl)
    · intro a w1 vs K b Hb HJ HK HD HN k; obtain rfl : b = false := by cases b with | false => rfl | true => exact absurd (Hb rfl).2 (by decide)
      have HJ' : Below w.heap.size w w1 := HJ
      have k0 := HK 0 (by decide); go_simp; exact k _ _ (by simp) HJ trivial rfl
    · intro a w1 vs K b Hb HJ HK HD HN k; obtain rfl : b = false := by cases b with | false => rfl | true => exact absurd (Hb rfl).2 (by decide)
      have HJ' : Below w.heap.size w w1 := HJ
      have e9 := (HD 9 _ 21 rfl rfl rfl).1.trans (HD 9 _ 21 rfl rfl rfl).2; go_simp; exact k _ _ (by simp) HJ trivial rfl
    · intro a w1 vs K b Hb HJ HK HD HN k; obtain rfl : b = false := by cases b with | false => rfl | true => exact absurd (Hb rfl).2 (by decide)
      have HJ' : Below w.heap.size w w1 := HJ
      have e10 := (HD 10 _ 22 rfl rfl rfl).1.trans (HD 10 _ 22 rfl rfl rfl).2; go_simp; exact k _ _ (by simp) HJ trivial rfl
    · intro a w1 vs K b Hb HJ HK HD HN k; obtain rfl : b = false := by cases b with | false => rfl | true => exact absurd (Hb rfl).2 (by decide)
      have HJ' : Below w.heap.size w w1 := HJ
      have e11 := (HD 11 _ 23 rfl rfl rfl).1.trans (HD 11 _ 23 rfl rfl rfl).2; exact wpo_loadS 77 (.tmp 23) rfl _ 28 (by simpa [Act.eval] using e11) (stuckA S.stuck) _ (HS.out w1 HJ').loadStuck und_stuck rfl info_stuck (k _ _ (by simp) HJ trivial rfl)
    · intro a w1 vs K b Hb HJ HK HD HN k; obtain rfl : b = false := by cases b with | false => rfl | true => exact absurd (Hb rfl).2 (by decide)
      have HJ' : Below w.heap.size w w1 := HJ
      have e4 := (HD 4 _ 16 rfl rfl rfl).1.trans (HD 4 _ 16 rfl rfl rfl).2; have e8 := (HD 8 _ 20 rfl rfl rfl).1.trans (HD 8 _ 20 rfl rfl rfl).2; have e12 := (HD 12 _ 24 rfl rfl rfl).1.trans (HD 12 _ 24 rfl rfl rfl).2
      exact wpo_call 37 _ _ rfl #[.agg (plantA X.pv S.p), .agg (spotsA S.at_), .agg (stuckA S.stuck)] (by simp [Act.eval, e4, e8, e12]) (fun args w => by kernel_rfl)
        ((HC.out w1 HJ').mono fun e w' ⟨he, hb⟩ => ⟨_, he, k _ _ (by simp) (HJ'.trans (hb.mono HJ'.size)) trivial rfl⟩)
    · intro a w1 vs K b Hb HJ HK HD HN k; obtain rfl : b = false := by cases b with | false => rfl | true => exact absurd (Hb rfl).2 (by decide)
      have HJ' : Below w.heap.size w w1 := HJ
      have e0 := (HD 0 _ 12 rfl rfl rfl).1.trans (HD 0 _ 12 rfl rfl rfl).2; go_simp; exact k _ _ (by simp) HJ trivial rfl
    · intro a w1 vs K b Hb HJ HK HD HN k; obtain rfl : b = false := by cases b with | false => rfl | true => exact absurd (Hb rfl).2 (by decide)
      have HJ' : Below w.heap.size w w1 := HJ
      have e14 := (HD 14 _ 26 rfl rfl rfl).1.trans (HD 14 _ 26 rfl rfl rfl).2; go_simp; exact k _ _ (by simp) HJ trivial rfl
    · intro a w1 vs K b Hb HJ HK HD HN k; obtain rfl : b = false := by cases b with | false => rfl | true => exact absurd rfl (Hb rfl).1
      have HJ' : Below w.heap.size w w1 := HJ
      have e13 := (HD 13 _ 25 rfl rfl rfl).1.trans (HD 13 _ 25 rfl rfl rfl).2; have e15 := (HD 15 _ 27 rfl rfl rfl).1.trans (HD 15 _ 27 rfl rfl rfl).2
      refine wpo_storeS 74 (.tmp 27) (.tmp 25) rfl rfl X.sb 4 (by simpa [Act.eval] using e15) (spotsA S.move.at_) (by simpa [Act.eval] using e13) _ (sysA X S) (HS.out w1 HJ').s (by rw [spotsA_size, sysA_size]; omega) (spotsA_one _) (info_spots_s _) ?_
      intro w2 hk2 ho2
      obtain ⟨q1, q2⟩ := (HS.out w1 HJ').move ho2 hk2
      exact k _ _ (by simp) ⟨q1, (Chg.of_below HJ').trans q2⟩ trivial trivial
  · intro vs w1 hw1 hr
    have hw2 : SysAt w1 X S.move ∧ Chg X w w1 := hw1
    obtain ⟨h1, hC⟩ := hw2
    clear hw1 hr h h0 HI
    obtain ⟨A, hA⟩ : ∃ A, X.pv.lA = A := ⟨_, rfl⟩
    obtain ⟨n, hn⟩ : ∃ n, n = S.p.lines.length := ⟨_, rfl⟩
    obtain ⟨m, hm⟩ : ∃ m, m = S.p.tanks.length := ⟨_, rfl⟩
    have c2 := h1.cells.c2
    have c3 := h1.cells.c40
    rw [hA, show S.move.p = S.p from rfl, ← hn] at c2
    have H1 := Lib.hid h1
    have HC := Lib.hid hC
    have HA := Lib.hid hA
    have HN := Lib.hid hn
    have HM := Lib.hid hm
    have hn32 : n ≤ 32 := by have := h1.lens; have e : S.move.p = S.p := rfl; rw [e] at this; omega
    clear h1 hC hA hn hm
    simp only [putAll, Act.put]
    go_simp
    go_wp2_with fail
    go_loopw [34] (fun i wr => ∃ k : Nat, k ≤ n ∧ i = .int .i64 k ∧ SysAt wr X (linesK S.move k) ∧ Chg X w wr) (fun i _ => n - (intOf i).toNat)
    case atStart => exact ⟨0, Nat.zero_le _, rfl, H1.out, HC.out⟩
    case round =>
      obtain ⟨k, hk, rfl, hS, hCr⟩ := hrel
      have hp : (linesK S.move k).p = S.p := linesK_p _ _
      by_cases hlt : k < n
      · have hkl : k < (linesK S.move k).p.lines.length := by rw [hp, ← HN.out]; exact hlt
        have hki : (k : Int) < (n : Int) := by omega
        have h0i : (0 : Int) ≤ (k : Int) := by omega
        obtain ⟨b, off, hA', hB, d0, d1, d2, d3, d4⟩ := hS.plantAt.lines.at5 hkl
        simp only [lineC] at d0 d1 d2 d3 d4
        rw [HA.out] at hA'
        subst hA'
        have hb0 : ∀ o, Below wr.heap.size wr (wr.alloc o) := fun o => (Below.refl _ _).alloc (Nat.le_refl _) _
        have HO := Lib.hid fun o => open_any (wr.alloc o) X (linesK S.move k) (hS.below (hb0 o)) k hkl
        simp only [lineC] at HO
        rw [hp] at d0 d1 d2 d3 d4 HO
        have HCA := Lib.hid fun w2 hw2 => carry_any w2 X (linesK S.move k) hw2 k hkl
        have HS := Lib.hid hS
        have HCr := Lib.hid hCr
        have hsucc := Lib.hid (show linesK S.move (k + 1) = if openB (linesK S.move k) (S.p.line k) then carryB (linesK S.move k) k else linesK S.move k from rfl)
        clear hS hCr hp hkl
        go_wp2_with fail
        refine (HO.out _).mono ?_
        rintro e w2 ⟨rfl, hbo⟩
        have hS2 : SysAt w2 X (linesK S.move k) := (HS.out.below (hb0 _)).below hbo
        have hC2 : Chg X w w2 := HCr.out.trans (Chg.of_below ((hb0 _).trans (hbo.mono (by simp))))
        cases ho : openB (linesK S.move k) (S.p.line k) with
        | true =>
          have HH := Lib.hid ho
          clear ho hbo
          have HS2 := Lib.hid hS2
          have HC2 := Lib.hid hC2
          clear hS2 hC2
          go_wp2_with fail
          refine (HCA.out w2 HS2.out).mono ?_
          rintro e w3 ⟨rfl, hS3, hC3⟩
          have HS3 := Lib.hid hS3
          have HC3 := Lib.hid hC3
          clear hS3 hC3
          go_wp2_with fail
          go_roundw
          case rel => exact ⟨k + 1, by omega, by go_num, by rw [hsucc.out, HH.out]; exact HS3.out, HC2.out.trans HC3.out⟩
          case measure => simp [intOf]; omega
        | false =>
          have HH := Lib.hid ho
          clear ho hbo
          have HS2 := Lib.hid hS2
          have HC2 := Lib.hid hC2
          clear hS2 hC2
          go_wp2_with fail
          go_roundw
          case rel => exact ⟨k + 1, by omega, by go_num, by rw [hsucc.out, HH.out]; exact HS2.out, HC2.out⟩
          case measure => simp [intOf]; omega
      · obtain rfl : k = n := by omega
        clear H1 HC c2 c3 hlt
        have c3 := hS.cells.c40
        rw [hp, ← HM.out] at c3
        have HS := Lib.hid hS
        have HCr := Lib.hid hCr
        clear hS hCr hp
        go_wp2_with fail
        obtain ⟨SL, hSL⟩ : ∃ SL, SL = linesK S.move k := ⟨_, rfl⟩
        have HSL := Lib.hid hSL
        have HPL := Lib.hid (show SL.p = S.p by rw [hSL]; exact linesK_p _ _)
        rw [← hSL] at HS
        have hm16 : m ≤ 16 := by have := HS.out.lens; rw [HPL.out, ← HM.out] at this; omega
        clear hSL
        go_loopw [51] (fun i wr => ∃ k : Nat, k ≤ m ∧ i = .int .i64 k ∧ SysAt wr X (tanksK SL k) ∧ Chg X w wr) (fun i _ => m - (intOf i).toNat)
        case atStart => exact ⟨0, Nat.zero_le _, rfl, HS.out, HCr.out⟩
        case round =>
          clear HS HCr c3
          obtain ⟨j, hj, rfl, hS, hCr⟩ := hrel
          have hp : (tanksK SL j).p = S.p := (tanksK_p _ _).trans HPL.out
          have c3 := hS.cells.c40
          rw [hp, ← HM.out] at c3
          by_cases hlt : j < m
          · have hsucc := Lib.hid (show tanksK SL (j + 1) = ventS (leakS (tanksK SL j) j) j from rfl)
            obtain ⟨ST, hST⟩ : ∃ ST, ST = tanksK SL j := ⟨_, rfl⟩
            rw [← hST] at hS hp hsucc
            have HST := Lib.hid hST
            clear hST
            have hjl : j < ST.p.tanks.length := by rw [hp, ← HM.out]; exact hlt
            obtain ⟨t0, t1, t2, t3, t4⟩ := hS.tankCells j hjl
            have o1 := hS.ok.lost j hjl
            have o2 := hS.ok.tanks j hjl
            have o3 := tankOk_of hS.ok.valid j hjl
            have hmin : (if (ST.tank j).content < (ST.tank j).leak then (ST.tank j).content else (ST.tank j).leak) = lostB ST j := (min_go _ _).symm
            have hw1 : IntKind.i64.wrap ((ST.tank j).content - lostB ST j) = (ST.tank j).content - lostB ST j := IntWalk.i64_in _ (by omega)
            have hji : (j : Int) < (m : Int) := by omega
            have h0i : (0 : Int) ≤ (j : Int) := by omega
            have f0 := hS.t.free (j * 5)
            have f3 := hS.t.free (j * 5 + 3)
            have HS := Lib.hid hS
            have HCr := Lib.hid hCr
            have HP := Lib.hid hp
            clear hS hCr hp
            go_wp2_with fail
            go_region
            go_wp2_with fail
            go_region
            go_wp2_with fail
            obtain ⟨W, hW⟩ : ∃ W, W = ((wr.setCell ⟨X.tb, j * 5, none⟩ (.int .i64 ((ST.tank j).content - lostB ST j))).setCell ⟨X.tb, j * 5 + 3, none⟩ (.int .i64 (wrap64 ((ST.tank j).lost + lostB ST j)))).drew.drew := ⟨_, rfl⟩
            rw [← hW]
            have hT : SysAt W X (leakS ST j) ∧ Chg X wr W := by
              have := HS.out.setNums j hjl 0 3 (by omega) (by omega) ((ST.tank j).content - lostB ST j) (wrap64 ((ST.tank j).lost + lostB ST j)) (leakS ST j) rfl (HS.out.ok.setT j _ (by simp only [setTank]; omega)) (HS.out.ok.leakS j hjl)
              rw [hW]
              exact ⟨this.1.keep (fun _ _ _ => rfl) (Nat.le_refl _), this.2.trans (Chg.of_below (below_drewN (Below.refl _ _) 2))⟩
            obtain ⟨hT, hCT⟩ := hT
            have hCr2 := HCr.out.trans hCT
            clear hW hCT t0 t1 t2 t3 t4 f0 f3 c3 hmin hw1 o1 o2 o3
            obtain ⟨T, hTE⟩ : ∃ T, T = leakS ST j := ⟨_, rfl⟩
            rw [← hTE] at hT hsucc
            have hp : T.p = S.p := by rw [hTE]; exact HP.out
            have HTE := Lib.hid hTE
            clear hTE HS HCr HST HP hjl
            have hjl : j < T.p.tanks.length := by rw [hp, ← HM.out]; exact hlt
            obtain ⟨t0, t1, t2, t3, t4⟩ := hT.tankCells j hjl
            have c3 := hT.cells.c40
            have c0 := hT.cells.c0
            obtain ⟨b, off, hA', hB, _, _, _, d3⟩ := hT.plantAt.tanks.at4 hjl
            simp only [tankC] at d3
            rw [hA'] at c0
            have o2 := hT.ok.tanks j hjl
            have o3 := tankOk_of hT.ok.valid j hjl
            have o4 := hT.ok.vent j hjl
            have o5 := hT.ok.limit j hjl
            have f1 := hT.t.free (j * 5 + 1)
            have f4 := hT.t.free (j * 5 + 4)
            rw [hp, ← HM.out] at c3 c0
            have HR := Lib.hid fun n => room_any (W.drewN n) X T (hT.keep (fun _ _ _ => rfl) (Nat.le_refl _)) j hjl
            have hw1 : IntKind.i64.wrap ((T.p.tank j).limit + 1) = (T.p.tank j).limit + 1 := IntWalk.i64_in _ (by omega)
            have hw2 : IntKind.i64.wrap (((T.p.tank j).limit + 1) * roomB T j) = ((T.p.tank j).limit + 1) * roomB T j := IntWalk.i64_in _ (by omega)
            have hw3 : IntKind.i64.wrap (((T.p.tank j).limit + 1) * roomB T j - 1) = ((T.p.tank j).limit + 1) * roomB T j - 1 := IntWalk.i64_in _ (by omega)
            have hq : (((T.p.tank j).limit + 1) * roomB T j - 1).tdiv 100 = (((T.p.tank j).limit + 1) * roomB T j - 1) / 100 := Int.tdiv_eq_ediv_of_nonneg (by omega)
            have hw4 : IntKind.i64.wrap ((((T.p.tank j).limit + 1) * roomB T j - 1) / 100) = (((T.p.tank j).limit + 1) * roomB T j - 1) / 100 := IntWalk.i64_in _ (by omega)
            have hw5 : IntKind.i64.wrap ((T.tank j).gas - (((T.p.tank j).limit + 1) * roomB T j - 1) / 100) = (T.tank j).gas - (((T.p.tank j).limit + 1) * roomB T j - 1) / 100 := IntWalk.i64_in _ (by omega)
            have hmax : (if (((T.p.tank j).limit + 1) * roomB T j - 1) / 100 < (T.tank j).gas then (T.tank j).gas - (((T.p.tank j).limit + 1) * roomB T j - 1) / 100 else 0) = ventB T j := by unfold ventB; split <;> omega
            have hw6 : IntKind.i64.wrap ((T.tank j).gas - ventB T j) = (T.tank j).gas - ventB T j := IntWalk.i64_in _ (by omega)
            have HT := Lib.hid hT
            have HCr := Lib.hid hCr2
            have HP := Lib.hid hp
            have HO := Lib.hid o5
            clear hT hCr2 hp hA' o5
            go_quiet ((go_at_call 40; exact Calls.quiet_of (HR.out _)))
            go_wp2_with fail
            go_region
            go_wp2_with fail
            have hv := (HT.out.keep (w' := W.drewN nq) (fun _ _ _ => rfl) (Nat.le_refl _)).setNums j hjl 1 4 (by omega) (by omega) ((T.tank j).gas - ventB T j) (wrap64 ((T.tank j).vented + ventB T j)) (ventS T j) rfl (HT.out.ok.setT j _ (by simp only [setTank]; omega)) (HT.out.ok.ventS j hjl)
            go_roundw
            case rel => exact ⟨j + 1, by omega, by go_num, by rw [hsucc.out]; exact hv.1.keep (fun _ _ _ => rfl) (Nat.le_refl _), (HCr.out.trans (Chg.of_below (below_drewN (Below.refl _ _) _))).trans (hv.2.trans (Chg.of_below (below_drewN (Below.refl _ _) 1)))⟩
            case measure => simp [intOf]; omega
          · obtain rfl : j = m := by omega
            have HS := Lib.hid hS
            have HCr := Lib.hid hCr
            clear hS hCr hp c3 hlt
            go_wp2_with fail
            go_ret
            refine ⟨rfl, ?_, HCr.out⟩
            have e : tickB S = tanksK SL j := by rw [HM.out, HSL.out, HN.out]; rfl
            rw [e]; exact HS.out
end Go.Proofs.Ytogobjmmgjfjjaa
