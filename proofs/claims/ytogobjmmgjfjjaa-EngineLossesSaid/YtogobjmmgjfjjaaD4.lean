/- What is proved: a contract of Order of engine.System. Conditions: the system lies in memory. -/
import Derived.Test.YtogobjmmgjfjjaaD3
namespace Go.Proofs.Ytogobjmmgjfjjaa
open Go.RowKit

def orderB (S : Sys) (v : Int) (o : Bool) : Int × Sys :=
  if inB v 0 (S.p.valves.length - 1) then
    if safeB S.p (wantB S.at_ v.toNat o) then (0, { S with at_ := wantB S.at_ v.toNat o }) else (9, S)
  else (7, S)

theorem SysAt.valves {w : World} {X : SX} {S : Sys} (h : SysAt w X S) : ValvesOk S.p := by
  have hv := h.ok.valid
  unfold plantB at hv
  simp only [Bool.and_eq_true] at hv
  exact valvesOk_of _ hv.1.1.1.1.2
theorem SysAt.never {w : World} {X : SX} {S : Sys} (h : SysAt w X S) : NeverOk S.p := by
  have hv := h.ok.valid
  unfold plantB at hv
  simp only [Bool.and_eq_true] at hv
  exact neverOk_of _ hv.1.2
theorem SysAt.loadPlant {w : World} {X : SX} {S : Sys} (h : SysAt w X S) : ∀ j u, (plantA X.pv S.p)[j]? = some u → w.cell? ⟨X.sb, 0 + j, none⟩ = some u := fun j u hj => by
  rw [h.s.cell, Nat.zero_add]; exact sysA_plant X S j u hj
theorem SysAt.loadSpots {w : World} {X : SX} {S : Sys} (h : SysAt w X S) : ∀ j u, (spotsA S.at_)[j]? = some u → w.cell? ⟨X.sb, 4 + j, none⟩ = some u := fun j u hj => by
  rw [h.s.cell]; exact sysA_spots X S j u hj

set_option maxRecDepth 100000 in
set_option maxHeartbeats 2000000 in
theorem sysOrder_any (w : World) (X : SX) (S : Sys) (h : SysAt w X S) (v : Int) (o : Bool) :
    Calls Try.prog 11 #[.pointer (some ⟨X.sb, 0, none⟩), .agg #[.int .i64 v, .bool o]] w fun e w' => e = .returned (.int .i64 (orderB S v o).1) ∧ SysAt w' X (orderB S v o).2 ∧ Chg X w w' := by
  have hb0 : ∀ ob, Below w.heap.size w (w.alloc ob) := fun ob => (Below.refl _ _).alloc (Nat.le_refl _) _
  have HH := Lib.hid fun ob => hasValve_any (w.alloc ob) X S (h.below (hb0 ob)) v
  have h0 := Lib.hid h
  by_cases h1 : inB v 0 (S.p.valves.length - 1) = true
  case neg =>
    have He : hasE v S.p.valves.length = 7 := by unfold hasE; rw [if_neg h1]
    rw [He] at HH
    have Hf := Lib.hid (show orderB S v o = (7, S) by unfold orderB; rw [if_neg h1])
    clear h1 h He
    go_enter Try.func11, Try.ntmps11
    go_wp2_with (first | (go_at_call 33; refine (HH.out _).mono ?_; rintro e w' ⟨rfl, rfl⟩))
    go_ret
    rw [Hf.out]
    exact ⟨rfl, h0.out.below (hb0 _), Chg.of_below (hb0 _)⟩
  case pos =>
  obtain ⟨g1, g2⟩ := inB_iff.1 h1
  obtain ⟨n, rfl⟩ := Int.eq_ofNat_of_zero_le g1
  have hn : n < S.p.valves.length := by omega
  have He : hasE n S.p.valves.length = 0 := by unfold hasE; rw [h1]; rfl
  rw [He] at HH
  have Hf := Lib.hid (show orderB S n o = if safeB S.p (wantB S.at_ n o) then (0, { S with at_ := wantB S.at_ n o }) else (9, S) by unfold orderB; rw [if_pos h1, Int.toNat_natCast])
  clear He h1 g1 g2
  go_enter Try.func11, Try.ntmps11
  go_wp2_with (first | (go_at_call 33; refine (HH.out _).mono ?_; rintro e w' ⟨rfl, rfl⟩))
  obtain ⟨W, hW⟩ : ∃ W, W = w.alloc (.cells #[.int .i64 n, .bool o] 45) := ⟨_, rfl⟩
  have hWs : W.heap.size = w.heap.size + 1 := by rw [hW]; simp
  have hbW : Below w.heap.size w W := by rw [hW]; exact hb0 _
  have hob : Bk W w.heap.size 45 #[.int .i64 n, .bool o] := by rw [hW]; exact Bk.new _ _ _
  rw [← hW]
  clear hW
  have hSW := h.below hbW
  have hok : SpotsOk S.p (wantB S.at_ n o) := wantB_ok h.ok.spots hn o
  refine wp_region_steps (by kernel_rfl) (by kernel_rfl) (fun w1 => Below W.heap.size W w1)
    (fun j w1 w2 => (j ≠ 14 → Below w1.heap.size w1 w2) ∧ ∀ (g : Nat) (cs : Array Value), cs.size = 24 → Bk w1 g 74 cs → ∃ cs', cs'.size = 24 ∧ Bk w2 g 74 cs')
    (fun i u d w1 => (match i with
      | 0 | 1 | 2 | 4 | 5 => u = .pointer (some ⟨X.sb, 0, none⟩)
      | 6 => u = .pointer (some ⟨X.sb, 4, none⟩)
      | 3 => u = .agg (plantA X.pv S.p)
      | 7 => u = .agg (spotsA S.at_)
      | 8 => u = .agg #[.int .i64 n, .bool o]
      | 9 | 10 => u = .tuple #[.agg (spotsA (wantB S.at_ n o)), .bool (safeB S.p (wantB S.at_ n o))]
      | 11 => u = .agg (spotsA (wantB S.at_ n o))
      | 12 | 15 => u = .bool (safeB S.p (wantB S.at_ n o))
      | _ => True) ∧ (i = 13 → ∃ g, u = .pointer (some ⟨g, 0, none⟩) ∧ W.heap.size ≤ g ∧ ∃ cs, cs.size = 24 ∧ Bk w1 g 74 cs) ∧
      (i = 14 → ∃ g, d 13 = .pointer (some ⟨g, 0, none⟩) ∧ W.heap.size ≤ g ∧ Bk w1 g 74 (spotsA (wantB S.at_ n o)))) (Below.refl _ _).drew ?_ ?_ ?_
  · rintro i j hij _ u d w1 w2 ⟨hr1, hr2, hr3⟩ hJ ⟨hE1, hE2⟩
    refine ⟨hr1, fun e => ?_, fun e => ?_⟩
    · obtain ⟨g, e1, e2, cs, e3, e4⟩ := hr2 e; exact ⟨g, e1, e2, hE2 g cs e3 e4⟩
    · obtain ⟨g, e1, e2, e3⟩ := hr3 e; exact ⟨g, e1, e2, e3.below (hE1 fun h => hij (e.trans h.symm)) e3.lt⟩
  · have HS := Lib.hid fun (w1 : World) (hw1 : Below W.heap.size W w1) => hSW.below hw1
    have HO := Lib.hid fun (w1 : World) (hw1 : Below W.heap.size W w1) => hob.below hw1 hob.lt
    have HC := Lib.hid fun (w1 : World) (hw1 : Below W.heap.size W w1) => order_any w1 X.pv S.p (hSW.below hw1).plantAt h.valves h.never S.at_ h.ok.spots n o hn
    have eE : ∀ (j : Nat) (w1 w2 : World), Below w1.heap.size w1 w2 → (j ≠ 14 → Below w1.heap.size w1 w2) ∧ ∀ (g : Nat) (cs : Array Value), cs.size = 24 → Bk w1 g 74 cs → ∃ cs', cs'.size = 24 ∧ Bk w2 g 74 cs' := fun j w1 w2 hb => ⟨fun _ => hb, fun g cs h1 h2 => ⟨cs, h1, h2.below hb h2.lt⟩⟩
    have EE := Lib.hid eE
    have HW2 := Lib.hid hWs
    clear hSW hob h HH eE hbW hb0 hok hWs
    refine ⟨?_, ?_, ?_, ?_, ?_, ?_, ?_, ?_, ?_, ?_, ?_, ?_, ?_, ?_, ?_, ?_, trivial⟩
    · intro a w vs K HJ HK HD HN k; have k0 := HK 0 (by decide); go_simp; exact k _ _ (by simp) HJ (EE.out _ _ _ (Below.refl _ _)) ⟨rfl, fun e => by omega, fun e => by omega⟩
    · intro a w vs K HJ HK HD HN k; have e0 := (HD 0 _ 18 rfl rfl rfl).1.trans (HD 0 _ 18 rfl rfl rfl).2.1; go_simp; exact k _ _ (by simp) HJ (EE.out _ _ _ (Below.refl _ _)) ⟨rfl, fun e => by omega, fun e => by omega⟩
    · intro a w vs K HJ HK HD HN k; have e1 := (HD 1 _ 19 rfl rfl rfl).1.trans (HD 1 _ 19 rfl rfl rfl).2.1; go_simp; exact k _ _ (by simp) HJ (EE.out _ _ _ (Below.refl _ _)) ⟨rfl, fun e => by omega, fun e => by omega⟩
    · intro a w vs K HJ HK HD HN k; have e2 := (HD 2 _ 20 rfl rfl rfl).1.trans (HD 2 _ 20 rfl rfl rfl).2.1
      exact wpo_loadS 33 (.tmp 20) rfl _ 0 (by simpa [Act.eval] using e2) (plantA X.pv S.p) _ (HS.out w HJ).loadPlant und_plant rfl info_plant (k _ _ (by simp) HJ (EE.out _ _ _ (Below.refl _ _)) ⟨rfl, fun e => by omega, fun e => by omega⟩)
    · intro a w vs K HJ HK HD HN k; have k0 := HK 0 (by decide); go_simp; exact k _ _ (by simp) HJ (EE.out _ _ _ (Below.refl _ _)) ⟨rfl, fun e => by omega, fun e => by omega⟩
    · intro a w vs K HJ HK HD HN k; have e4 := (HD 4 _ 22 rfl rfl rfl).1.trans (HD 4 _ 22 rfl rfl rfl).2.1; go_simp; exact k _ _ (by simp) HJ (EE.out _ _ _ (Below.refl _ _)) ⟨rfl, fun e => by omega, fun e => by omega⟩
    · intro a w vs K HJ HK HD HN k; have e5 := (HD 5 _ 23 rfl rfl rfl).1.trans (HD 5 _ 23 rfl rfl rfl).2.1; go_simp; exact k _ _ (by simp) HJ (EE.out _ _ _ (Below.refl _ _)) ⟨rfl, fun e => by omega, fun e => by omega⟩
    · intro a w vs K HJ HK HD HN k; have e6 := (HD 6 _ 24 rfl rfl rfl).1.trans (HD 6 _ 24 rfl rfl rfl).2.1
      exact wpo_loadS 74 (.tmp 24) rfl _ 4 (by simpa [Act.eval] using e6) (spotsA S.at_) _ (HS.out w HJ).loadSpots und_spots rfl (info_spots_s _) (k _ _ (by simp) HJ (EE.out _ _ _ (Below.refl _ _)) ⟨rfl, fun e => by omega, fun e => by omega⟩)
    · intro a w1 vs K HJ HK HD HN k; have k3 := HK 3 (by decide)
      exact wpo_loadS 45 (.tmp 3) rfl w.heap.size 0 (by simpa [Act.eval] using k3) #[.int .i64 n, .bool o] _ (fun j u hj => by rw [(HO.out w1 HJ).cell, Nat.zero_add]; exact hj) und_order rfl info_order (k _ _ (by simp) HJ (EE.out _ _ _ (Below.refl _ _)) ⟨rfl, fun e => by omega, fun e => by omega⟩)
    · intro a w vs K HJ HK HD HN k
      have e3 := (HD 3 _ 21 rfl rfl rfl).1.trans (HD 3 _ 21 rfl rfl rfl).2.1; have e7 := (HD 7 _ 25 rfl rfl rfl).1.trans (HD 7 _ 25 rfl rfl rfl).2.1; have e8 := (HD 8 _ 26 rfl rfl rfl).1.trans (HD 8 _ 26 rfl rfl rfl).2.1
      exact wpo_call 35 _ _ rfl #[.agg (plantA X.pv S.p), .agg (spotsA S.at_), .agg #[.int .i64 n, .bool o]] (by simp [Act.eval, e3, e7, e8]) (fun args w => by kernel_rfl)
        ((HC.out w HJ).mono fun e w' ⟨he, hb⟩ => ⟨_, he, k _ _ (by simp) (HJ.trans (hb.mono HJ.size)) (EE.out _ _ _ hb) ⟨rfl, fun e => by omega, fun e => by omega⟩⟩)
    · intro a w vs K HJ HK HD HN k; have e9 := (HD 9 _ 27 rfl rfl rfl).1.trans (HD 9 _ 27 rfl rfl rfl).2.1; go_simp; exact k _ _ (by simp) HJ (EE.out _ _ _ (Below.refl _ _)) ⟨rfl, fun e => by omega, fun e => by omega⟩
    · intro a w vs K HJ HK HD HN k; have e10 := (HD 10 _ 17 rfl rfl rfl).1.trans (HD 10 _ 17 rfl rfl rfl).2.1; go_simp; exact k _ _ (by simp) HJ (EE.out _ _ _ (Below.refl _ _)) ⟨rfl, fun e => by omega, fun e => by omega⟩
    · intro a w vs K HJ HK HD HN k; have e10 := (HD 10 _ 17 rfl rfl rfl).1.trans (HD 10 _ 17 rfl rfl rfl).2.1; go_simp; exact k _ _ (by simp) HJ (EE.out _ _ _ (Below.refl _ _)) ⟨rfl, fun e => by omega, fun e => by omega⟩
    · intro a w vs K HJ HK HD HN k
      go_simp
      refine k _ _ (by simp) (HJ.alloc HJ.size _) (EE.out _ _ _ ((Below.refl _ _).alloc (Nat.le_refl _) _)) ⟨trivial, fun _ => ⟨_, rfl, HJ.size, _, spotsA_size zeroS, Bk.new _ _ (spotsA zeroS)⟩, fun e => by omega⟩
    · intro a w vs K HJ HK HD HN k
      have e11 := (HD 11 _ 28 rfl rfl rfl).1.trans (HD 11 _ 28 rfl rfl rfl).2.1
      obtain ⟨e13, r13⟩ := HD 13 _ 6 rfl rfl rfl
      obtain ⟨g, q1, q2, cs, q3, q4⟩ := r13.2.1 rfl
      refine wpo_storeS 74 (.tmp 6) (.tmp 28) rfl rfl g 0 (by simpa [Act.eval] using e13.trans q1) (spotsA (wantB S.at_ n o)) (by simpa [Act.eval] using e11) _ cs q4 (by rw [spotsA_size, q3]; omega) (spotsA_one _) (info_spots_s _) ?_
      intro w2 hk2 ho2
      rw [splA_all _ _ (by rw [spotsA_size, q3])] at hk2
      refine k _ _ (by simp) (HJ.trans (ho2.below q2)) ⟨fun h => absurd rfl h, fun g' cs' h1 h2 => ?_⟩ ⟨trivial, fun e => by omega, fun _ => ⟨g, q1, q2, hk2⟩⟩
      by_cases e : g' = g
      · subst e; exact ⟨_, spotsA_size _, hk2⟩
      · exact ⟨cs', h1, h2.only ho2 e⟩
    · intro a w vs K HJ HK HD HN k; have e12 := (HD 12 _ 29 rfl rfl rfl).1.trans (HD 12 _ 29 rfl rfl rfl).2.1; go_simp; exact k _ _ (by simp) HJ (EE.out _ _ _ (Below.refl _ _)) ⟨rfl, fun e => by omega, fun e => by omega⟩
  · intro vs w5 hw5 hr
    have h15 : vs 15 = _ := (hr 15 _ rfl).1
    obtain ⟨g, h13, hg1, hg2⟩ := (hr 14 _ rfl).2.2 rfl
    have h13' : vs 13 = .pointer (some ⟨g, 0, none⟩) := h13
    have hS5 := hSW.below hw5
    have hbw5 : Below w.heap.size w w5 := hbW.trans (hw5.mono (by omega))
    clear hr hSW hob h HH h13 hb0
    simp only [putAll, Act.put, h15, h13']
    clear h15 h13'
    have HS5 := Lib.hid hS5
    have HG := Lib.hid hg2
    have HB := Lib.hid hbw5
    have HOK := Lib.hid hok
    have hne : X.sb ≠ g := by have := hS5.hi; have := h0.out.hi; omega
    clear hS5 hg2 hbw5 hok hw5
    cases hq : safeB S.p (wantB S.at_ n o) with
    | false =>
      have HQ := Lib.hid hq; clear hq
      go_simp
      go_wp2
      go_ret
      rw [Hf.out, HQ.out]
      exact ⟨rfl, HS5.out, Chg.of_below HB.out⟩
    | true =>
      have HQ := Lib.hid hq; clear hq
      go_simp
      go_wp2_with (first | (refine wpLoadAt rfl 74 _ rfl g 0 rfl (spotsA (wantB S.at_ n o)) _ (fun j u hj => by rw [HG.out.cell, Nat.zero_add]; exact hj) und_spots rfl (info_spots_s _) ?_) | (refine wpStoreAt rfl rfl 74 _ _ rfl X.sb 4 rfl (spotsA (wantB S.at_ n o)) rfl 81 _ HS5.out.s (by rw [spotsA_size, sysA_size]; omega) (spotsA_one _) (info_spots_s _) ?_; intro w' hr ho))
      go_ret
      rw [Hf.out, HQ.out]
      rw [sysA_setSpots] at hr
      obtain ⟨n1, n2, n3, _, _, _⟩ := HS5.out.ne
      have hc := (Chg.of_below (X := X) HB.out).trans (Chg.of_only ho (by simp))
      exact ⟨rfl, HS5.out.turn (Chg.of_only ho (by simp)) rfl hr (HS5.out.t.only ho (Ne.symm n1)) (HS5.out.c.only ho (Ne.symm n2)) ⟨HS5.out.ok.valid, HOK.out, HQ.out, HS5.out.ok.tanks⟩, hc⟩
end Go.Proofs.Ytogobjmmgjfjjaa
