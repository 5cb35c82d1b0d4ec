/- What is proved: a contract of engine.CheckPlant. Conditions: the plant lies in memory as the plain data say. -/
import Derived.Test.YtogobjmmgjfjjaaB4
namespace Go.Proofs.Ytogobjmmgjfjjaa
open Go.RowKit

theorem valvesOk_of (p : PlantD) (h : valvedB p = true) : ValvesOk p := by
  unfold valvedB apartB allN at h
  simp only [Bool.and_eq_true, List.all_eq_true, List.mem_range] at h
  obtain ⟨⟨_, h1⟩, h2⟩ := h
  unfold inB at h1
  simp at h1
  refine ⟨by omega, fun i hi => ?_⟩
  have := h2 i hi
  unfold valveOk inB at this
  simpa using this
theorem neverOk_of (p : PlantD) (h : (allN p.never.length fun i => litsOk p.valves.length (p.nev i) 4) = true) : NeverOk p := by
  intro i hi k hk
  unfold allN at h
  rw [List.all_eq_true] at h
  have h1 := h i (by simpa using hi)
  unfold litsOk allN at h1
  simp only [Bool.and_eq_true, List.all_eq_true, List.mem_range] at h1
  have h2 := h1.2 k hk
  unfold inB at h2
  rw [Bool.and_eq_true, decide_eq_true_eq, decide_eq_true_eq] at h2
  exact ⟨h2.1, by have := h2.2; omega⟩
theorem firstB_ok (p : PlantD) (h : ValvesOk p) : PlacesOk (firstB p) := by
  intro i
  unfold firstB
  by_cases hi : i < p.valves.length ∧ (p.valve i).opn
  · rw [if_pos hi]; have := h.2 i hi.1; simp only; omega
  · rw [if_neg hi]; simp [SpotD.zero]

set_option maxHeartbeats 1000000 in
theorem litsClos_any (w : World) (x : PV) (p : PlantD) (h : PlantAt w w.heap.size x p) (i : Nat) (hi : i < p.never.length) (pb : Nat) (hpb : Bk w pb 33 (plantA x p)) :
    Calls Try.prog 52 #[.slice (x.jA i) (p.nev i).length (x.jc i), .pointer (some ⟨pb, 0, none⟩)] w
      fun e w' => e = .returned (.bool (litsOk p.valves.length (p.nev i) 4)) ∧ Below w.heap.size w w' := by
  have c0 := hpb.cell 0
  have c1 := hpb.cell 1
  have c2 := hpb.cell 2
  have c3 := hpb.cell 3
  have HL := Lib.hid (literals_any w x p h (x.jA i) (x.jc i) (p.nev i) (h.nv i hi) 4)
  simp only [plantA, pval] at c0 c1 c2 c3 HL
  clear h hpb
  go_enter Try.func52, Try.ntmps52
  go_wp2_with fail
  refine HL.out.mono ?_
  rintro e w' ⟨rfl, hb⟩
  go_wp2_with fail
  go_ret
  exact ⟨rfl, hb⟩

set_option maxRecDepth 100000 in
set_option maxHeartbeats 2000000 in
theorem checkPlant_any (w : World) (x : PV) (p : PlantD) (h : PlantAt w w.heap.size x p) :
    Calls Try.prog 21 #[.agg (plantA x p)] w fun e w' => e = .returned (.bool (plantB p)) ∧ Below w.heap.size w w' := by
  have HP := Lib.hid fun (w1 : World) (hb : Below w.heap.size w w1) => (h.below hb).mono hb.size
  have hb0 : ∀ o, Below w.heap.size w (w.alloc o) := fun o => (Below.refl _ _).alloc (Nat.le_refl _) _
  have hn : p.never.length ≤ 9223372036854775807 := h.never.1
  have HK := Lib.hid fun (w1 : World) (hb : Below (w.alloc (.cells (plantA x p) 33)).heap.size (w.alloc (.cells (plantA x p) 33)) w1) => (Bk.new w 33 (plantA x p)).below hb (by simp)
  have hc : ∀ (w1 : World), Below (w.heap.size + 1) (w.alloc (.cells (plantA x p) 33)) w1 → w1.cell? ⟨w.heap.size, 0, none⟩ = some (.slice x.tA p.tanks.length x.tc) ∧ w1.cell? ⟨w.heap.size, 1, none⟩ = some (.slice x.vA p.valves.length x.vc) ∧ w1.cell? ⟨w.heap.size, 2, none⟩ = some (.slice x.lA p.lines.length x.lc) ∧ w1.cell? ⟨w.heap.size, 3, none⟩ = some (.slice x.nA p.never.length x.nc) := fun w1 hb => by
    have := (Bk.new w 33 (plantA x p)).below hb (by omega)
    exact ⟨this.cell 0, this.cell 1, this.cell 2, this.cell 3⟩
  have HC := Lib.hid hc
  clear hc h
  have HV := Lib.hid (valvesOk_of p)
  have HNV := Lib.hid (neverOk_of p)
  have hP : plantB p = (tankedB p && valvedB p && linedB p && decide ((p.never.length : Int) ≤ 32) && (allN p.never.length fun i => litsOk p.valves.length (p.nev i) 4) && safeB p (firstB p)) := rfl
  have HPB := Lib.hid hP
  clear hP
  simp only [plantA] at HK HC ⊢
  go_enter Try.func21, Try.ntmps21
  go_wp2_with fail
  obtain ⟨W, hW⟩ : ∃ W, W = w.alloc (.cells #[.slice x.tA p.tanks.length x.tc, .slice x.vA p.valves.length x.vc, .slice x.lA p.lines.length x.lc, .slice x.nA p.never.length x.nc] 33) := ⟨_, rfl⟩
  have hbW : Below w.heap.size w W := by rw [hW]; exact hb0 _
  have hWs : W.heap.size = w.heap.size + 1 := by rw [hW]; simp
  rw [← hW] at HC HK ⊢
  have HW := Lib.hid hW
  clear hW
  refine (tanked_any _ x p (HP.out _ hbW)).mono ?_
  rintro e w1 ⟨rfl, hb1⟩
  obtain ⟨c0, c1, c2, c3⟩ := HC.out w1 (hb1.mono (by omega))
  have hbw1 := hbW.trans (hb1.mono hbW.size)
  cases h1 : tankedB p with
  | false =>
    have H1 := Lib.hid h1; clear h1
    go_wp2_with fail
    go_ret
    exact ⟨ret_bool (by rw [HPB.out, H1.out]; rfl), hbw1⟩
  | true =>
  have H1 := Lib.hid h1; clear h1
  go_wp2_with fail
  refine (valved_any w1 x p (HP.out _ hbw1)).mono ?_
  clear c0 c1 c2 c3
  rintro e w2 ⟨rfl, hb2⟩
  have hWw2 := hb1.trans (hb2.mono hb1.size)
  have hbw2 := hbw1.trans (hb2.mono hbw1.size)
  clear hb2 hbw1 hb1
  obtain ⟨c0, c1, c2, c3⟩ := HC.out w2 (hWw2.mono (by omega))
  cases h2 : valvedB p with
  | false =>
    have H2 := Lib.hid h2; clear h2
    go_wp2_with fail
    go_ret
    exact ⟨ret_bool (by rw [HPB.out, H1.out, H2.out]; rfl), hbw2⟩
  | true =>
  have H2 := Lib.hid h2; clear h2
  go_wp2_with fail
  refine (lined_any w2 x p (HP.out _ hbw2)).mono ?_
  clear c0 c1 c2 c3
  rintro e w3 ⟨rfl, hb3⟩
  have hWw3 := hWw2.trans (hb3.mono hWw2.size)
  have hbw3 := hbw2.trans (hb3.mono hbw2.size)
  clear hb3 hWw2 hbw2
  obtain ⟨c0, c1, c2, c3⟩ := HC.out w3 (hWw3.mono (by omega))
  cases h3 : linedB p with
  | false =>
    have H3 := Lib.hid h3; clear h3
    go_wp2_with fail
    go_ret
    exact ⟨ret_bool (by rw [HPB.out, H1.out, H2.out, H3.out]; rfl), hbw3⟩
  | true =>
  have H3 := Lib.hid h3; clear h3
  by_cases h4 : (p.never.length : Int) ≤ 32
  case neg =>
    have h4' : (32 : Int) < (p.never.length : Int) := by omega
    have H4 := Lib.hid (decide_eq_false h4); clear h4
    go_wp2_with fail
    go_ret
    exact ⟨ret_bool (by rw [HPB.out, H1.out, H2.out, H3.out, H4.out]; rfl), hbw3⟩
  case pos =>
  have H4 := Lib.hid (decide_eq_true h4)
  have HALL := Lib.hid (allLits w3 x.nA p.never.length x.nc _ (HP.out _ hbw3).never 52 #[.pointer (some ⟨w.heap.size, 0, none⟩)] (fun i => litsOk p.valves.length (p.nev i) 4) (fun args w => by kernel_rfl) (fun w4 hw4 i hi =>
    litsClos_any w4 x p (HP.out _ (hbw3.trans (hw4.mono hbw3.size))) i hi w.heap.size (HK.out w4 (hWw3.trans (hw4.mono hWw3.size)))))
  go_wp2_with fail
  refine HALL.out.mono ?_
  clear c0 c1 c2 c3
  rintro e w4 ⟨rfl, hb4⟩
  have hWw4 := hWw3.trans (hb4.mono hWw3.size)
  have hbw4 := hbw3.trans (hb4.mono hbw3.size)
  clear hb4 hWw3 hbw3 HALL
  obtain ⟨c0, c1, c2, c3⟩ := HC.out w4 (hWw4.mono (by omega))
  cases h5 : (allN p.never.length fun i => litsOk p.valves.length (p.nev i) 4) with
  | false =>
    have H5 := Lib.hid h5; clear h5
    go_wp2_with fail
    go_ret
    exact ⟨ret_bool (by rw [HPB.out, H1.out, H2.out, H3.out, H4.out, H5.out]; rfl), hbw4⟩
  | true =>
  have H5 := Lib.hid h5; clear h5
  go_wp2_with fail
  have hok := HV.out H2.out
  refine wp_region_steps (by kernel_rfl) (by kernel_rfl) (fun w5 => Below w4.heap.size w4 w5) (fun _ _ _ => True)
    (fun i u _ _ => match i with
      | 0 | 1 => u = .agg (plantA x p)
      | 2 => u = .agg (spotsA (firstB p))
      | _ => u = .bool (safeB p (firstB p))) (Below.refl _ _).drew (fun _ _ _ _ _ _ _ _ h _ _ => h) ?_ ?_
  · have HK4 := Lib.hid fun (w5 : World) (hw5 : Below w4.heap.size w4 w5) => HK.out w5 (hWw4.trans (hw5.mono hWw4.size))
    have HP4 := Lib.hid fun (w5 : World) (hw5 : Below w4.heap.size w4 w5) => HP.out w5 (hbw4.trans (hw5.mono hbw4.size))
    clear c0 c1 c2 c3 HK HC HP
    refine ⟨?_, ?_, ?_, ?_, ?_, trivial⟩
    · intro a w vs K HJ HK HD HN k; have k1 := HK 1 (by decide)
      exact wpo_loadS 33 (.tmp 1) rfl _ 0 (by simpa [Act.eval] using k1) (plantA x p) _ (fun j u hj => by rw [(HK4.out w HJ).cell, Nat.zero_add]; exact hj) und_plant rfl info_plant (k _ _ (by simp) HJ trivial rfl)
    · intro a w vs K HJ HK HD HN k; have k1 := HK 1 (by decide)
      exact wpo_loadS 33 (.tmp 1) rfl _ 0 (by simpa [Act.eval] using k1) (plantA x p) _ (fun j u hj => by rw [(HK4.out w HJ).cell, Nat.zero_add]; exact hj) und_plant rfl info_plant (k _ _ (by simp) HJ trivial rfl)
    · intro a w vs K HJ HK HD HN k; have e1 := (HD 1 _ 28 rfl rfl rfl).1.trans (HD 1 _ 28 rfl rfl rfl).2
      exact wpo_call 23 _ _ rfl #[.agg (plantA x p)] (by simp [Act.eval, e1]) (fun args w => by kernel_rfl)
        ((first_any w x p (HP4.out w HJ) hok).mono fun e w' ⟨he, hb⟩ => ⟨_, he, k _ _ (by simp) (HJ.trans (hb.mono HJ.size)) trivial rfl⟩)
    · intro a w vs K HJ HK HD HN k; have e0 := (HD 0 _ 27 rfl rfl rfl).1.trans (HD 0 _ 27 rfl rfl rfl).2; have e2 := (HD 2 _ 29 rfl rfl rfl).1.trans (HD 2 _ 29 rfl rfl rfl).2
      exact wpo_call 53 _ _ rfl #[.agg (plantA x p), .agg (spotsA (firstB p))] (by simp [Act.eval, e0, e2]) (fun args w => by kernel_rfl)
        ((safe_any w x p (HP4.out w HJ) (firstB p) (firstB_ok p hok) hok.1 (HNV.out H5.out)).mono fun e w' ⟨he, hb⟩ => ⟨_, he, k _ _ (by simp) (HJ.trans (hb.mono HJ.size)) trivial rfl⟩)
    · intro a w vs K HJ HK HD HN k; have e3 := (HD 3 _ 30 rfl rfl rfl).1.trans (HD 3 _ 30 rfl rfl rfl).2; go_simp; exact k _ _ (by simp) HJ trivial rfl
  · intro vs w5 hw5 hr
    have h4 : vs 4 = _ := hr 4 _ rfl
    clear hr c0 c1 c2 c3
    simp only [putAll, Act.put, h4]
    go_simp
    go_wp2
    go_ret
    exact ⟨ret_bool (by rw [HPB.out, H1.out, H2.out, H3.out, H4.out, H5.out]; rfl), hbw4.trans (hw5.mono hbw4.size)⟩
end Go.Proofs.Ytogobjmmgjfjjaa
