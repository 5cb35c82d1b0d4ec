/- What is proved: a contract of engine.order. Conditions: the plant lies in memory as the plain data say and is valid; the valve is one of the plant. -/
import Derived.Test.YtogobjmmgjfjjaaC1
namespace Go.Proofs.Ytogobjmmgjfjjaa
open Go.RowKit

/-- What an order makes of the wants. -/
def wantB (s : Spots) (v : Nat) (o : Bool) : Spots := fun k => if k = v then ⟨(s v).place, o⟩ else s k
theorem wantB_ok {p : PlantD} {s : Spots} (h : SpotsOk p s) {v : Nat} (hv : v < p.valves.length) (o : Bool) : SpotsOk p (wantB s v o) := by
  refine ⟨fun i hi => ?_, fun i hi => ?_⟩
  · unfold wantB
    split
    · exact h.1 v hv |> fun hh => by rename_i e; subst e; exact hh
    · exact h.1 i hi
  · unfold wantB; rw [if_neg (by omega)]; exact h.2 i hi
theorem und_order : Try.prog.underlying 45 = some (.struct (match Try.prog.underlying 45 with | some (.struct f) => f | _ => #[])) := by kernel_rfl
theorem info_order : (Try.prog.info? 45).map (·.size) = some 2 := by kernel_rfl

set_option maxRecDepth 100000 in
set_option maxHeartbeats 2000000 in
theorem order_any (w : World) (x : PV) (p : PlantD) (h : PlantAt w w.heap.size x p) (hv : ValvesOk p) (hN : NeverOk p) (s : Spots) (hs : SpotsOk p s) (v : Nat) (o : Bool) (hvl : v < p.valves.length) :
    Calls Try.prog 35 #[.agg (plantA x p), .agg (spotsA s), .agg #[.int .i64 v, .bool o]] w
      fun e w' => e = .returned (.tuple #[.agg (spotsA (wantB s v o)), .bool (safeB p (wantB s v o))]) ∧ Below w.heap.size w w' := by
  have h12 := hv.1
  have hz := spotsA_size s
  have hso := spots_opn s v (by omega) o
  have hvi : (v : Int) < (12 : Int) := by omega
  have h0i : (0 : Int) ≤ (v : Int) := by omega
  have hst : SpotsOk p (wantB s v o) := wantB_ok hs hvl o
  have HP := Lib.hid fun (w1 : World) (hb : Below w.heap.size w w1) => safe_any w1 x p ((h.below hb).mono hb.size) (wantB s v o) (hst.places hv) h12 hN
  have g := spots_get s v (by omega)
  have hg := g.2
  clear h hs hst hv hN g
  go_enter Try.func35, Try.ntmps35
  go_wp2
  clear hso hg
  obtain ⟨W, hW⟩ : ∃ W, W = (((w.alloc (.cells (plantA x p) 33)).alloc (.cells (spotsA (wantB s v o)) 74)).alloc (.cells #[.int .i64 v, .bool o] 45)).alloc (.cells (spotsA zeroS) 74) := ⟨_, rfl⟩
  have hWs : W.heap.size = w.heap.size + 4 := by rw [hW]; simp
  have hbW : Below w.heap.size w W := by rw [hW]; exact ((((Below.refl _ _).alloc (Nat.le_refl _) _).alloc (by simp <;> omega) _).alloc (by simp <;> omega) _).alloc (by simp <;> omega) _
  have b0 : Bk W w.heap.size 33 (plantA x p) := by rw [hW]; exact (((Bk.newAt _ _ _ _ (by simp)).alloc _).alloc _).alloc _
  have b1 : Bk W (w.heap.size + 1) 74 (spotsA (wantB s v o)) := by rw [hW]; exact ((Bk.newAt _ _ _ _ (by simp)).alloc _).alloc _
  have b3 : Bk W (w.heap.size + 1 + 1 + 1) 74 (spotsA zeroS) := by rw [hW]; exact Bk.newAt _ _ _ _ (by simp)
  change Code.wp _ _ _ _ ((((w.alloc (.cells (plantA x p) 33)).alloc (.cells (spotsA (wantB s v o)) 74)).alloc (.cells #[.int .i64 v, .bool o] 45)).alloc (.cells (spotsA zeroS) 74))
  rw [← hW]
  clear hW
  refine wp_region_steps (by kernel_rfl) (by kernel_rfl)
    (fun w1 => Below w.heap.size w w1 ∧ Bk w1 w.heap.size 33 (plantA x p) ∧ Bk w1 (w.heap.size + 1) 74 (spotsA (wantB s v o)) ∧ ∃ cs, cs.size = 24 ∧ Bk w1 (w.heap.size + 1 + 1 + 1) 74 cs)
    (fun j w1 w2 => j ≠ 4 → Below w1.heap.size w1 w2)
    (fun i u _ w1 => match i with
      | 0 | 2 => u = .agg (spotsA (wantB s v o))
      | 1 => u = .agg (plantA x p)
      | 4 => Bk w1 (w.heap.size + 1 + 1 + 1) 74 (spotsA (wantB s v o))
      | _ => u = .bool (safeB p (wantB s v o))) ⟨hbW.drew, b0, b1, _, spotsA_size zeroS, b3⟩ ?_ ?_ ?_
  · intro i j hij _ u d w1 w2 hr hJ hE
    by_cases h4 : i = 4
    · subst h4
      exact Bk.below hr (hE (Ne.symm hij)) (Bk.lt hr)
    · match i, h4, hr with
      | 0, _, hr => exact hr
      | 1, _, hr => exact hr
      | 2, _, hr => exact hr
      | 3, _, hr => exact hr
      | n + 5, _, hr => exact hr
  · clear b0 b1 b3
    refine ⟨?_, ?_, ?_, ?_, ?_, ?_, trivial⟩
    · intro a w1 vs K HJ HK HD HN k; have k4 := HK 4 (by decide)
      exact wpo_loadS 74 (.tmp 4) rfl _ 0 (by simpa [Act.eval] using k4) (spotsA (wantB s v o)) _ (fun j u hj => by rw [HJ.2.2.1.cell, Nat.zero_add]; exact hj) und_spots rfl (info_spots_s _) (k _ _ (by simp) HJ (fun _ => Below.refl _ _) rfl)
    · intro a w1 vs K HJ HK HD HN k; have k3 := HK 3 (by decide)
      exact wpo_loadS 33 (.tmp 3) rfl _ 0 (by simpa [Act.eval] using k3) (plantA x p) _ (fun j u hj => by rw [HJ.2.1.cell, Nat.zero_add]; exact hj) und_plant rfl info_plant (k _ _ (by simp) HJ (fun _ => Below.refl _ _) rfl)
    · intro a w1 vs K HJ HK HD HN k; have k4 := HK 4 (by decide)
      exact wpo_loadS 74 (.tmp 4) rfl _ 0 (by simpa [Act.eval] using k4) (spotsA (wantB s v o)) _ (fun j u hj => by rw [HJ.2.2.1.cell, Nat.zero_add]; exact hj) und_spots rfl (info_spots_s _) (k _ _ (by simp) HJ (fun _ => Below.refl _ _) rfl)
    · intro a w1 vs K HJ HK HD HN k; have e1 := (HD 1 _ 15 rfl rfl rfl).1.trans (HD 1 _ 15 rfl rfl rfl).2; have e2 := (HD 2 _ 16 rfl rfl rfl).1.trans (HD 2 _ 16 rfl rfl rfl).2
      exact wpo_call 53 _ _ rfl #[.agg (plantA x p), .agg (spotsA (wantB s v o))] (by simp [Act.eval, e1, e2]) (fun args w => by kernel_rfl)
        ((HP.out w1 HJ.1).mono fun e w' ⟨he, hb⟩ => ⟨_, he, k _ _ (by simp)
          ⟨HJ.1.trans (hb.mono HJ.1.size), HJ.2.1.below hb HJ.2.1.lt, HJ.2.2.1.below hb HJ.2.2.1.lt, by obtain ⟨cs, h1, h2⟩ := HJ.2.2.2; exact ⟨cs, h1, h2.below hb h2.lt⟩⟩ (fun _ => hb) rfl⟩)
    · intro a w1 vs K HJ HK HD HN k; have k6 := HK 6 (by decide); have e0 := (HD 0 _ 14 rfl rfl rfl).1.trans (HD 0 _ 14 rfl rfl rfl).2
      obtain ⟨hJ1, hJ2, hJ3, cs, hcs, hJ4⟩ := HJ
      refine wpo_storeS 74 (.tmp 6) (.tmp 14) rfl rfl _ 0 (by simpa [Act.eval] using k6) (spotsA (wantB s v o)) (by simpa [Act.eval] using e0) _ cs hJ4 (by rw [spotsA_size, hcs]; omega) (spotsA_one _) (info_spots_s _) ?_
      intro w2 hk2 ho2
      rw [splA_all _ _ (by rw [spotsA_size, hcs])] at hk2
      exact k _ _ (by simp) ⟨hJ1.trans (ho2.below (by omega)), hJ2.only ho2 (by omega), hJ3.only ho2 (by omega), _, spotsA_size _, hk2⟩ (fun h => absurd rfl h) hk2
    · intro a w1 vs K HJ HK HD HN k; have e3 := (HD 3 _ 17 rfl rfl rfl).1.trans (HD 3 _ 17 rfl rfl rfl).2; go_simp; exact k _ _ (by simp) HJ (fun _ => Below.refl _ _) rfl
  · intro vs w5 hw5 hr
    have h5 : vs 5 = _ := hr 5 _ rfl
    have h4 : Bk w5 _ _ _ := hr 4 _ rfl
    have hw := hw5.1
    clear hr b0 b1 b3 hw5 HP
    simp only [putAll, Act.put, h5]
    have H4 := Lib.hid h4; clear h4
    go_simp
    go_wp2
    refine bodyPost_ret (v := .tuple #[.agg (spotsA (wantB s v o)), .bool (safeB p (wantB s v o))]) ?_ rfl ⟨rfl, hw⟩
    exact results_cellS_tmp (p := 6) (u := 7) (ty := 74) rfl _ _ _ _ _ _ rfl H4.out und_spots rfl (info_spots_s _)
end Go.Proofs.Ytogobjmmgjfjjaa
