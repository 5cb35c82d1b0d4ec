/- What is proved: a contract of Number of engine.System. Conditions: the system lies in memory. -/
import Derived.Test.YtogobjmmgjfjjaaF7
namespace Go.Proofs.Ytogobjmmgjfjjaa
open Go.RowKit

theorem und_need : Try.prog.underlying 57 = some (.struct (match Try.prog.underlying 57 with | some (.struct f) => f | _ => #[])) := by kernel_rfl
theorem info_need : (Try.prog.info? 57).map (·.size) = some 4 := by kernel_rfl
def numOf (S : Sys) (kind of : Int) : Int := if kind = 0 then (S.tank of.toNat).content else if kind = 1 then pressB S of.toNat else if kind = 2 then S.carried of.toNat else (S.at_ of.toNat).place
def numberB (S : Sys) (kind of : Int) : Int × Int := if needB S.p kind of then (numOf S kind of, 0) else (0, 2)

set_option maxRecDepth 100000 in
set_option maxHeartbeats 4000000 in
theorem number_any (w : World) (X : SX) (S : Sys) (h : SysAt w X S) (kind of low high : Int) :
    Calls Try.prog 16 #[.pointer (some ⟨X.sb, 0, none⟩), .agg #[.int .i64 kind, .int .i64 of, .int .i64 low, .int .i64 high]] w
      fun e w' => e = .returned (.tuple #[.int .i64 (numberB S kind of).1, .int .i64 (numberB S kind of).2]) ∧ Below w.heap.size w w' := by
  have hb0 : ∀ ob, Below w.heap.size w (w.alloc ob) := fun ob => (Below.refl _ _).alloc (Nat.le_refl _) _
  have HI := Lib.hid fun ob => is_any (w.alloc ob) X S (h.below (hb0 ob))
  have hl := h.lens
  have h0 := Lib.hid h
  obtain ⟨b, hbv⟩ : ∃ b, b = needB S.p kind of := ⟨_, rfl⟩
  have Hn := Lib.hid (show numberB S kind of = if b then (numOf S kind of, 0) else (0, 2) by rw [hbv]; rfl)
  have HBV := Lib.hid hbv
  clear hbv h
  go_enter Try.func16, Try.ntmps16
  go_wp2_with (first | (go_at_call 36; refine (HI.out _).mono ?_; rintro e w' ⟨rfl, rfl⟩))
  obtain ⟨W, hW⟩ : ∃ W, W = w.alloc (.cells #[.int .i64 kind, .int .i64 of, .int .i64 low, .int .i64 high] 57) := ⟨_, rfl⟩
  have hWs : W.heap.size = w.heap.size + 1 := by rw [hW]; simp
  have hbW : Below w.heap.size w W := by rw [hW]; exact hb0 _
  have hob : Bk W w.heap.size 57 #[.int .i64 kind, .int .i64 of, .int .i64 low, .int .i64 high] := by rw [hW]; exact Bk.new _ _ _
  rw [← hW]
  clear hW
  have hSW := h0.out.below hbW
  refine wp_region_steps (by kernel_rfl) (by kernel_rfl) (fun w1 => Below W.heap.size W w1) (fun _ _ _ => True)
    (fun i u _ _ => match i with
      | 0 | 1 | 2 => u = .pointer (some ⟨X.sb, 0, none⟩)
      | 3 => u = .agg (plantA X.pv S.p)
      | 4 => u = .agg #[.int .i64 kind, .int .i64 of, .int .i64 low, .int .i64 high]
      | 5 => u = .bool b
      | _ => u = .bool (!b)) (Below.refl _ _).drew (fun _ _ _ _ _ _ _ _ h _ _ => h) ?_ ?_
  · have HS := Lib.hid fun (w1 : World) (hw1 : Below W.heap.size W w1) => hSW.below hw1
    have HO := Lib.hid fun (w1 : World) (hw1 : Below W.heap.size W w1) => hob.below hw1 hob.lt
    clear hSW hob HI hbW hb0 hWs
    refine ⟨?_, ?_, ?_, ?_, ?_, ?_, ?_, ?_, trivial⟩
    · intro a w vs K HJ HK HD HN k; have k0 := HK 0 (by decide); go_simp; exact k _ _ (by simp) HJ trivial rfl
    · intro a w vs K HJ HK HD HN k; have e0 := (HD 0 _ 11 rfl rfl rfl).1.trans (HD 0 _ 11 rfl rfl rfl).2; go_simp; exact k _ _ (by simp) HJ trivial rfl
    · intro a w vs K HJ HK HD HN k; have e1 := (HD 1 _ 12 rfl rfl rfl).1.trans (HD 1 _ 12 rfl rfl rfl).2; go_simp; exact k _ _ (by simp) HJ trivial rfl
    · intro a w vs K HJ HK HD HN k; have e2 := (HD 2 _ 13 rfl rfl rfl).1.trans (HD 2 _ 13 rfl rfl rfl).2
      exact wpo_loadS 33 (.tmp 13) rfl _ 0 (by simpa [Act.eval] using e2) (plantA X.pv S.p) _ (HS.out w HJ).loadPlant und_plant rfl info_plant (k _ _ (by simp) HJ trivial rfl)
    · intro a w1 vs K HJ HK HD HN k; have k3 := HK 3 (by decide)
      exact wpo_loadS 57 (.tmp 3) rfl w.heap.size 0 (by simpa [Act.eval] using k3) #[.int .i64 kind, .int .i64 of, .int .i64 low, .int .i64 high] _ (fun j u hj => by rw [(HO.out w1 HJ).cell, Nat.zero_add]; exact hj) und_need rfl info_need (k _ _ (by simp) HJ trivial rfl)
    · intro a w1 vs K HJ HK HD HN k
      have e3 := (HD 3 _ 14 rfl rfl rfl).1.trans (HD 3 _ 14 rfl rfl rfl).2; have e4 := (HD 4 _ 15 rfl rfl rfl).1.trans (HD 4 _ 15 rfl rfl rfl).2
      exact wpo_call 46 _ _ rfl #[.agg (plantA X.pv S.p), .agg #[.int .i64 kind, .int .i64 of, .int .i64 low, .int .i64 high]] (by simp [Act.eval, e3, e4]) (fun args w => by kernel_rfl)
        ((needed_any w1 X.pv S.p ⟨by omega, by omega, by omega⟩ kind of low high).mono fun e w' ⟨he, hb⟩ => ⟨_, he, k _ _ (by simp) (HJ.trans (hb.mono HJ.size)) trivial (by show Value.bool _ = _; rw [HBV.out])⟩)
    · intro a w vs K HJ HK HD HN k; have e5 := (HD 5 _ 16 rfl rfl rfl).1.trans (HD 5 _ 16 rfl rfl rfl).2; go_simp; exact k _ _ (by simp) HJ trivial rfl
    · intro a w vs K HJ HK HD HN k; have e6 := (HD 6 _ 17 rfl rfl rfl).1.trans (HD 6 _ 17 rfl rfl rfl).2; go_simp; exact k _ _ (by simp) HJ trivial rfl
  · intro vs w5 hw5 hr
    have h7 : vs 7 = .bool (!b) := hr 7 _ rfl
    have hS5 := hSW.below hw5
    have hbw5 : Below w.heap.size w w5 := hbW.trans (hw5.mono (by omega))
    have hob5 := hob.below hw5 hob.lt
    have c0 : w5.cell? ⟨w.heap.size, 0, none⟩ = some (.int .i64 kind) := hob5.cell 0
    have c1 : w5.cell? ⟨w.heap.size, 1, none⟩ = some (.int .i64 of) := hob5.cell 1
    clear hr hSW hob HI hb0 hob5 hw5 hbW hWs
    simp only [putAll, Act.put, h7]
    clear h7
    have HB := Lib.hid hbw5
    clear hbw5
    cases b with
    | false =>
      go_simp
      go_wp2
      go_ret2
      rw [Hn.out]
      exact ⟨rfl, HB.out⟩
    | true =>
      have hneed : needB S.p kind of = true := HBV.out.symm
      unfold needB at hneed
      by_cases k0 : kind = 0
      · subst k0
        have hin : inB of 0 (S.p.tanks.length - 1) = true := by simpa using hneed
        obtain ⟨g0, g1⟩ := inB_iff.1 hin
        obtain ⟨i, rfl⟩ := Int.eq_ofNat_of_zero_le g0
        have hi : i < S.p.tanks.length := by omega
        have cc : w5.cell? ⟨X.sb, 42, none⟩ = some (.func (.func 24) #[] #[.pointer (some ⟨X.gb, 0, none⟩)]) := (hS5.s.cell 42).trans (sysA_rest X S 2)
        have HC := Lib.hid fun n => newContent_any (w5.drewN n) X S (hS5.keep (fun _ _ _ => rfl) (Nat.le_refl _)) i hi
        clear hneed hin g0 g1 hS5
        go_simp
        go_wp2_with fail
        go_quiet ((go_at_call 24; exact Calls.quiet_of (HC.out _)))
        go_wp2
        go_ret2
        rw [Hn.out]
        exact ⟨rfl, below_drewN HB.out _⟩
      by_cases k1 : kind = 1
      · subst k1
        have hin : inB of 0 (S.p.tanks.length - 1) = true := by simpa using hneed
        obtain ⟨g0, g1⟩ := inB_iff.1 hin
        obtain ⟨i, rfl⟩ := Int.eq_ofNat_of_zero_le g0
        have hi : i < S.p.tanks.length := by omega
        have cc : w5.cell? ⟨X.sb, 43, none⟩ = some (.func (.func 25) #[.pointer (some ⟨X.sb, 0, none⟩)] #[]) := (hS5.s.cell 43).trans (sysA_rest X S 3)
        have HC := Lib.hid fun n => pressure_any (w5.drewN n) X S (hS5.keep (fun _ _ _ => rfl) (Nat.le_refl _)) i hi
        clear hneed hin g0 g1 hS5
        go_simp
        go_wp2_with fail
        go_quiet ((go_at_call 25; exact Calls.quiet_of (HC.out _)))
        go_wp2
        go_ret2
        rw [Hn.out]
        exact ⟨rfl, below_drewN HB.out _⟩
      by_cases k2 : kind = 2
      · subst k2
        have hin : inB of 0 (S.p.lines.length - 1) = true := by simpa using hneed
        obtain ⟨g0, g1⟩ := inB_iff.1 hin
        obtain ⟨i, rfl⟩ := Int.eq_ofNat_of_zero_le g0
        have hi : i < S.p.lines.length := by omega
        have cc : w5.cell? ⟨X.sb, 44, none⟩ = some (.func (.func 26) #[] #[.pointer (some ⟨X.gb, 0, none⟩)]) := (hS5.s.cell 44).trans (sysA_rest X S 4)
        have HC := Lib.hid fun n => newCarried_any (w5.drewN n) X S (hS5.keep (fun _ _ _ => rfl) (Nat.le_refl _)) i hi
        clear hneed hin g0 g1 hS5
        go_simp
        go_wp2_with fail
        go_quiet ((go_at_call 26; exact Calls.quiet_of (HC.out _)))
        go_wp2
        go_ret2
        rw [Hn.out]
        exact ⟨rfl, below_drewN HB.out _⟩
      by_cases k3 : kind = 3
      · subst k3
        have hin : inB of 0 (S.p.valves.length - 1) = true := by simpa using hneed
        obtain ⟨g0, g1⟩ := inB_iff.1 hin
        obtain ⟨i, rfl⟩ := Int.eq_ofNat_of_zero_le g0
        have hi : i < S.p.valves.length := by omega
        have cc : w5.cell? ⟨X.sb, 45, none⟩ = some (.func (.func 27) #[] #[.pointer (some ⟨X.gb, 0, none⟩)]) := (hS5.s.cell 45).trans (sysA_rest X S 5)
        have HC := Lib.hid fun n => newPlace_any (w5.drewN n) X S (hS5.keep (fun _ _ _ => rfl) (Nat.le_refl _)) i hi
        clear hneed hin g0 g1 hS5
        go_simp
        go_wp2_with fail
        go_quiet ((go_at_call 27; exact Calls.quiet_of (HC.out _)))
        go_wp2
        go_ret2
        rw [Hn.out]
        exact ⟨rfl, below_drewN HB.out _⟩
      · exfalso
        rw [if_neg k0, if_neg k1, if_neg k2, if_neg k3] at hneed
        cases hneed
end Go.Proofs.Ytogobjmmgjfjjaa
