/- What is proved: a contract of engine.search.follow. Conditions: the search and the row lie in memory; the row's state is one of the plant's. -/
import Derived.Test.YtogobjmmgjfjjaaG8
namespace Go.Proofs.Ytogobjmmgjfjjaa
open Go.RowKit

theorem trysS_step (p : PlantD) (g : List LitD) (r : RowC) (N q : Nat) (s : Srch) (hq : q < N) :
    trysS p g r (N - q) q s = if (try1S p g r (q / 2) (q % 2 == 1) s).1 then trysS p g r (N - (q + 1)) (q + 1) (try1S p g r (q / 2) (q % 2 == 1) s).2 else (false, (try1S p g r (q / 2) (q % 2 == 1) s).2) := by
  obtain ⟨m, hm⟩ : ∃ m, N - q = m + 1 := ⟨N - q - 1, by omega⟩
  rw [hm, show N - (q + 1) = m from by omega, trysS]
def InR (w : World) (B : Nat) (X : SrX) (p : PlantD) (g : List LitD) (r : RowC) (st : Srch) (wr : World) (q : Nat) (s : Srch) : Prop :=
  SrIn wr B X p g s ∧ Fr B w wr ∧ trysS p g r (2 * p.valves.length) 0 st = trysS p g r (2 * p.valves.length - q) q s

theorem SrIn.below {w w' : World} {B : Nat} {X : SrX} {p : PlantD} {g : List LitD} {st : Srch} (h : SrIn w B X p g st) (hb : Below w.heap.size w w') : SrIn w' B X p g st := by
  obtain ⟨qv, fv, rb, h⟩ := h
  exact ⟨qv, fv, rb, h.below hb⟩
theorem SrIn.lt {w : World} {B : Nat} {X : SrX} {p : PlantD} {g : List LitD} {st : Srch} (h : SrIn w B X p g st) : B ≤ w.heap.size := by
  obtain ⟨qv, fv, rb, h⟩ := h
  exact h.lt
theorem SrIn.loadPlant {w : World} {B : Nat} {X : SrX} {p : PlantD} {g : List LitD} {st : Srch} (h : SrIn w B X p g st) : ∀ j u, (plantA X.pv p)[j]? = some u → w.cell? ⟨X.sb, 0 + j, none⟩ = some u := fun j u hj => by
  obtain ⟨qv, fv, rb, h⟩ := h
  rw [Nat.zero_add]; exact (h.s.cell j).trans (searchA_plant _ _ _ _ _ _ _ j u hj)
theorem SrIn.plant {w : World} {B : Nat} {X : SrX} {p : PlantD} {g : List LitD} {st : Srch} (h : SrIn w B X p g st) : PlantAt w w.heap.size X.pv p := by
  obtain ⟨qv, fv, rb, h⟩ := h
  exact h.plant.mono h.lt
theorem RowIn.load {w : World} {r : RowC} {b : Nat} (h : RowIn w r b) : ∀ j u, (spotsA r.at_)[j]? = some u → w.cell? ⟨b, 0 + j, none⟩ = some u := fun j u hj => by
  obtain ⟨f, o, h⟩ := h.bk
  rw [Nat.zero_add]; exact (h.cell j).trans (rowA_at _ _ _ j u hj)
theorem InR.below {w : World} {B : Nat} {X : SrX} {p : PlantD} {g : List LitD} {r : RowC} {st : Srch} {wr w2 : World} {q : Nat} {s : Srch} (h : InR w B X p g r st wr q s) (hb : Below wr.heap.size wr w2) : InR w B X p g r st w2 q s :=
  ⟨h.1.below hb, h.2.1.trans (Fr.of_below hb h.1.lt), h.2.2⟩
/-- One order more: it was not taken up, or its row was new and the search goes on. -/
theorem InR.next {w : World} {B : Nat} {X : SrX} {p : PlantD} {g : List LitD} {r : RowC} {st : Srch} {wr w2 : World} {k m : Nat} {o : Bool} {s s2 : Srch} (h : InR w B X p g r st wr (2 * k + m) s) (hk : k < p.valves.length) (hm : m < 2) (ho : o = (m == 1))
    (ht : try1S p g r k o s = (true, s2)) (hs : SrIn w2 B X p g s2) (hf : Fr B wr w2) : InR w B X p g r st w2 (2 * k + (m + 1)) s2 := by
  refine ⟨hs, h.2.1.trans hf, h.2.2.trans ?_⟩
  rw [trysS_step p g r _ _ s (by omega), show (2 * k + m) / 2 = k from by omega, show ((2 * k + m) % 2 == 1) = o from by rw [ho, show (2 * k + m) % 2 = m from by omega], ht]
  rfl
theorem InR.stop {w : World} {B : Nat} {X : SrX} {p : PlantD} {g : List LitD} {r : RowC} {st : Srch} {wr : World} {k m : Nat} {o : Bool} {s s2 : Srch} (h : InR w B X p g r st wr (2 * k + m) s) (hk : k < p.valves.length) (hm : m < 2) (ho : o = (m == 1))
    (ht : try1S p g r k o s = (false, s2)) : trysS p g r (2 * p.valves.length) 0 st = (false, s2) := by
  refine h.2.2.trans ?_
  rw [trysS_step p g r _ _ s (by omega), show (2 * k + m) / 2 = k from by omega, show ((2 * k + m) % 2 == 1) = o from by rw [ho, show (2 * k + m) % 2 = m from by omega], ht]
  rfl

set_option maxRecDepth 100000 in
set_option maxHeartbeats 8000000 in
theorem follow_any (w : World) (B : Nat) (X : SrX) (p : PlantD) (g : List LitD) (st : Srch) (h0 : SrIn w B X p g st) (hv : ValvesOk p) (hN : NeverOk p) (hG : GoalOk p g) (r : RowC) (b : Nat) (hr : RowIn w r b) (hs : SpotsOk p r.at_) :
    Calls Try.prog 31 #[.pointer (some ⟨X.sb, 0, none⟩), .pointer (some ⟨b, 0, none⟩)] w
      fun e w' => e = .returned (.bool (followS p g r st).1) ∧ SrIn w' B X p g (followS p g r st).2 ∧ Fr B w w' := by
  have HP : Hid (PlacesOk r.at_) := Lib.hid (hs.places hv)
  have HR0 := Lib.hid hr
  have HSO := Lib.hid hs
  have HI0 : Hid (InR w B X p g r st w 0 st) := Lib.hid ⟨h0, Fr.refl _ _, rfl⟩
  have c1 : w.cell? ⟨X.sb, 1, none⟩ = some (.slice X.pv.vA p.valves.length X.pv.vc) := by obtain ⟨_, _, _, h⟩ := h0; exact h.s.cell 1
  have HBw : Hid (B ≤ w.heap.size) := Lib.hid (by obtain ⟨_, _, _, h⟩ := h0; exact h.lt)
  have hv12 := hv.1
  obtain ⟨n, hn⟩ : ∃ n, n = p.valves.length := ⟨_, rfl⟩
  rw [← hn] at c1 hv12
  have HNN := Lib.hid hn
  have Hf := Lib.hid (show followS p g r st = if (trysS p g r (2 * p.valves.length) 0 st).1 then reachS p g (trysS p g r (2 * p.valves.length) 0 st).2 (.step (movedB p r.at_ fun _ => false) r none) else (false, (trysS p g r (2 * p.valves.length) 0 st).2) from rfl)
  clear h0 hr hs hn
  go_enter Try.func31, Try.ntmps31
  go_wp2_with fail
  go_loopw [17] (fun v wr => ∃ k : Nat, k ≤ n ∧ v = .int .i64 k ∧ Hid (∃ s1, InR w B X p g r st wr (2 * k) s1)) (fun v _ => n - (intOf v).toNat)
  case atStart => exact ⟨0, Nat.zero_le _, rfl, Lib.hid ⟨_, HI0.out⟩⟩
  case round =>
    obtain ⟨k, hk, rfl, hI⟩ := hrel
    obtain ⟨wo, rfl⟩ : ∃ wo : World, wo = wr := ⟨_, rfl⟩
    by_cases hlt : k < n
    · go_wp2_with fail
      go_loopw [22] (fun v wr => ∃ m : Nat, m ≤ 2 ∧ v = .int .i64 m ∧ Hid (∃ s1, InR w B X p g r st wr (2 * k + m) s1 ∧ Bk wr wo.heap.size 4 #[.bool false, .bool true])) (fun v _ => 2 - (intOf v).toNat)
      case atStart =>
        obtain ⟨s1, hI1⟩ := hI.out
        exact ⟨0, by omega, rfl, Lib.hid ⟨s1, hI1.below ((Below.refl _ _).alloc (Nat.le_refl _) _), Bk.new _ _ _⟩⟩
      case round =>
        obtain ⟨m, hm, rfl, hI2⟩ := hrel
        clear hI
        by_cases hm2 : m < 2
        · obtain ⟨s1, hIn, hbb⟩ := hI2.out
          obtain ⟨o, ho⟩ : ∃ o, o = (m == 1) := ⟨_, rfl⟩
          have cb : wr.cell? ⟨wo.heap.size, m, none⟩ = some (.bool o) := by
            match m, hm2, ho with
            | 0, _, ho => rw [ho]; exact hbb.cell 0
            | 1, _, ho => rw [ho]; exact hbb.cell 1
          have hmi : (m : Int) < (2 : Int) := by omega
          have h0m : (0 : Int) ≤ (m : Int) := by omega
          have hkp : k < p.valves.length := by rw [← HNN.out]; exact hlt
          have HIn := Lib.hid hIn
          have HBB0 := Lib.hid hbb
          have HO1 := Lib.hid ho
          clear hIn hbb ho
          go_wp2_with fail
          obtain ⟨W, hW⟩ : ∃ W, W = wr.alloc (.cells #[.int .i64 k, .bool o] 45) := ⟨_, rfl⟩
          have hWs : W.heap.size = wr.heap.size + 1 := by rw [hW]; simp
          have hbW : Below wr.heap.size wr W := by rw [hW]; exact (Below.refl _ _).alloc (Nat.le_refl _) _
          have hob : Bk W wr.heap.size 45 #[.int .i64 k, .bool o] := by rw [hW]; exact Bk.new _ _ _
          rw [← hW]
          clear hW
          obtain ⟨nx, hnx⟩ : ∃ nx, nx = wantB r.at_ k o := ⟨_, rfl⟩
          have HNX0 := Lib.hid hnx
          have hIW := HIn.out.below hbW
          have hrW := HR0.out.fr hIW.2.1
          have EE : Hid (∀ (j : Nat) (w1 w2 : World), Below w1.heap.size w1 w2 → (j ≠ 14 → Below w1.heap.size w1 w2) ∧ ∀ (g : Nat) (cs : Array Value), cs.size = 24 → Bk w1 g 74 cs → ∃ cs', cs'.size = 24 ∧ Bk w2 g 74 cs') := Lib.hid fun j w1 w2 hb => ⟨fun _ => hb, fun g cs h1 h2 => ⟨cs, h1, h2.below hb h2.lt⟩⟩
          have HPl := Lib.hid fun (w1 : World) (hw1 : Below W.heap.size W w1) => (hIW.1.below hw1).loadPlant
          have HR := Lib.hid fun (w1 : World) (hw1 : Below W.heap.size W w1) => (hrW.fr (Fr.of_below hw1 hIW.1.lt)).load
          have HO := Lib.hid fun (w1 : World) (hw1 : Below W.heap.size W w1) j u (hj : (#[.int .i64 k, .bool o] : Array Value)[j]? = some u) => ((hob.below hw1 hob.lt).cell (0 + j)).trans (by rw [Nat.zero_add]; exact hj : (#[.int .i64 k, .bool o] : Array Value)[0 + j]? = some u)
          have HC := Lib.hid fun (w1 : World) (hw1 : Below W.heap.size W w1) => order_any w1 X.pv p (hIW.1.below hw1).plant hv hN r.at_ HSO.out k o hkp
          rw [← hnx] at HC
          have HOB := Lib.hid hob
          have HBW := Lib.hid hbW
          have HWS := Lib.hid hWs
          clear hnx hIW hrW hob hbW hWs cb
          refine wp_region_steps (by kernel_rfl) (by kernel_rfl) (fun w1 => Below W.heap.size W w1) (fun j w1 w2 => (j ≠ 14 → Below w1.heap.size w1 w2) ∧ ∀ (g : Nat) (cs : Array Value), cs.size = 24 → Bk w1 g 74 cs → ∃ cs', cs'.size = 24 ∧ Bk w2 g 74 cs')
            (fun ix u d w1 => (match ix with
              | 0 => u = .pointer (some ⟨X.sb, 0, none⟩)
              | 1 => u = .pointer (some ⟨X.sb, 0, none⟩)
              | 2 => u = .pointer (some ⟨X.sb, 0, none⟩)
              | 3 => u = .agg (plantA X.pv p)
              | 4 => u = .pointer (some ⟨b, 0, none⟩)
              | 5 => u = .pointer (some ⟨b, 0, none⟩)
              | 6 => u = .pointer (some ⟨b, 0, none⟩)
              | 7 => u = .agg (spotsA r.at_)
              | 8 => u = .agg #[.int .i64 k, .bool o]
              | 9 => u = .tuple #[.agg (spotsA nx), .bool (safeB p nx)]
              | 10 => u = .tuple #[.agg (spotsA nx), .bool (safeB p nx)]
              | 11 => u = .agg (spotsA nx)
              | 12 => u = .bool (safeB p nx)
              | 13 => True
              | 14 => True
              | _ => u = .bool (safeB p nx)) ∧ (ix = 13 → ∃ g, u = .pointer (some ⟨g, 0, none⟩) ∧ W.heap.size ≤ g ∧ ∃ cs, cs.size = 24 ∧ Bk w1 g 74 cs) ∧ (ix = 14 → ∃ g, d 13 = .pointer (some ⟨g, 0, none⟩) ∧ W.heap.size ≤ g ∧ Bk w1 g 74 (spotsA nx))) (Below.refl _ _).drew (by rintro i j hij _ u d w1 w2 ⟨hr1, hr2, hr3⟩ hJ ⟨hE1, hE2⟩; exact ⟨hr1, fun e => (by obtain ⟨g, e1, e2, cs, e3, e4⟩ := hr2 e; exact ⟨g, e1, e2, hE2 g cs e3 e4⟩), fun e => (by obtain ⟨g, e1, e2, e3⟩ := hr3 e; exact ⟨g, e1, e2, e3.below (hE1 fun h => hij (e.trans h.symm)) e3.lt⟩)⟩) ?_ ?_
          · refine ⟨?_, ?_, ?_, ?_, ?_, ?_, ?_, ?_, ?_, ?_, ?_, ?_, ?_, ?_, ?_, ?_, trivial⟩
            · intro a w1 vs K HJ HK HD HN kk
              have e0 := HK 0 (by decide)
              go_simp; exact kk _ _ (by simp) HJ (EE.out _ _ _ (Below.refl _ _)) ⟨rfl, fun e => by omega, fun e => by omega⟩
            · intro a w1 vs K HJ HK HD HN kk
              have e30 := (HD 0 _ 30 rfl rfl rfl).1.trans (HD 0 _ 30 rfl rfl rfl).2.1
              go_simp; exact kk _ _ (by simp) HJ (EE.out _ _ _ (Below.refl _ _)) ⟨rfl, fun e => by omega, fun e => by omega⟩
            · intro a w1 vs K HJ HK HD HN kk
              have e31 := (HD 1 _ 31 rfl rfl rfl).1.trans (HD 1 _ 31 rfl rfl rfl).2.1
              go_simp; exact kk _ _ (by simp) HJ (EE.out _ _ _ (Below.refl _ _)) ⟨rfl, fun e => by omega, fun e => by omega⟩
            · intro a w1 vs K HJ HK HD HN kk
              have e32 := (HD 2 _ 32 rfl rfl rfl).1.trans (HD 2 _ 32 rfl rfl rfl).2.1
              exact wpo_loadS 33 (.tmp 32) rfl X.sb 0 (by simpa [Act.eval] using e32) (plantA X.pv p) _ (HPl.out w1 HJ) und_plant rfl info_plant (kk _ _ (by simp) HJ (EE.out _ _ _ (Below.refl _ _)) ⟨rfl, fun e => by omega, fun e => by omega⟩)
            · intro a w1 vs K HJ HK HD HN kk
              have e1 := HK 1 (by decide)
              go_simp; exact kk _ _ (by simp) HJ (EE.out _ _ _ (Below.refl _ _)) ⟨rfl, fun e => by omega, fun e => by omega⟩
            · intro a w1 vs K HJ HK HD HN kk
              have e34 := (HD 4 _ 34 rfl rfl rfl).1.trans (HD 4 _ 34 rfl rfl rfl).2.1
              go_simp; exact kk _ _ (by simp) HJ (EE.out _ _ _ (Below.refl _ _)) ⟨rfl, fun e => by omega, fun e => by omega⟩
            · intro a w1 vs K HJ HK HD HN kk
              have e35 := (HD 5 _ 35 rfl rfl rfl).1.trans (HD 5 _ 35 rfl rfl rfl).2.1
              go_simp; exact kk _ _ (by simp) HJ (EE.out _ _ _ (Below.refl _ _)) ⟨rfl, fun e => by omega, fun e => by omega⟩
            · intro a w1 vs K HJ HK HD HN kk
              have e36 := (HD 6 _ 36 rfl rfl rfl).1.trans (HD 6 _ 36 rfl rfl rfl).2.1
              exact wpo_loadS 74 (.tmp 36) rfl b 0 (by simpa [Act.eval] using e36) (spotsA r.at_) _ (HR.out w1 HJ) und_spots rfl (info_spots_s _) (kk _ _ (by simp) HJ (EE.out _ _ _ (Below.refl _ _)) ⟨rfl, fun e => by omega, fun e => by omega⟩)
            · intro a w1 vs K HJ HK HD HN kk
              have e8 := HK 8 (by decide)
              exact wpo_loadS 45 (.tmp 8) rfl wr.heap.size 0 (by simpa [Act.eval] using e8) #[.int .i64 k, .bool o] _ (HO.out w1 HJ) und_order rfl info_order (kk _ _ (by simp) HJ (EE.out _ _ _ (Below.refl _ _)) ⟨rfl, fun e => by omega, fun e => by omega⟩)
            · intro a w1 vs K HJ HK HD HN kk
              have e33 := (HD 3 _ 33 rfl rfl rfl).1.trans (HD 3 _ 33 rfl rfl rfl).2.1
              have e37 := (HD 7 _ 37 rfl rfl rfl).1.trans (HD 7 _ 37 rfl rfl rfl).2.1
              have e38 := (HD 8 _ 38 rfl rfl rfl).1.trans (HD 8 _ 38 rfl rfl rfl).2.1
              exact wpo_call 35 _ _ rfl #[.agg (plantA X.pv p), .agg (spotsA r.at_), .agg #[.int .i64 k, .bool o]] (by simp [Act.eval, e33, e37, e38]) (fun args w => by kernel_rfl)
                ((HC.out w1 HJ).mono fun e w' ⟨he, hb⟩ => ⟨_, he, kk _ _ (by simp) (Below.trans HJ (hb.mono HJ.size)) (EE.out _ _ _ hb) ⟨rfl, fun e => by omega, fun e => by omega⟩⟩)
            · intro a w1 vs K HJ HK HD HN kk
              have e39 := (HD 9 _ 39 rfl rfl rfl).1.trans (HD 9 _ 39 rfl rfl rfl).2.1
              go_simp; exact kk _ _ (by simp) HJ (EE.out _ _ _ (Below.refl _ _)) ⟨rfl, fun e => by omega, fun e => by omega⟩
            · intro a w1 vs K HJ HK HD HN kk
              have e29 := (HD 10 _ 29 rfl rfl rfl).1.trans (HD 10 _ 29 rfl rfl rfl).2.1
              go_simp; exact kk _ _ (by simp) HJ (EE.out _ _ _ (Below.refl _ _)) ⟨rfl, fun e => by omega, fun e => by omega⟩
            · intro a w1 vs K HJ HK HD HN kk
              have e29 := (HD 10 _ 29 rfl rfl rfl).1.trans (HD 10 _ 29 rfl rfl rfl).2.1
              go_simp; exact kk _ _ (by simp) HJ (EE.out _ _ _ (Below.refl _ _)) ⟨rfl, fun e => by omega, fun e => by omega⟩
            · intro a w1 vs K HJ HK HD HN kk
              go_simp
              refine kk _ _ (by simp) (HJ.alloc HJ.size _) (EE.out _ _ _ ((Below.refl _ _).alloc (Nat.le_refl _) _)) ⟨trivial, fun _ => ⟨_, rfl, HJ.size, _, spotsA_size zeroS, Bk.new _ _ (spotsA zeroS)⟩, fun e => by omega⟩
            · intro a w1 vs K HJ HK HD HN kk
              have e40 := (HD 11 _ 40 rfl rfl rfl).1.trans (HD 11 _ 40 rfl rfl rfl).2.1
              obtain ⟨e13, r13⟩ := HD 13 _ 9 rfl rfl rfl
              obtain ⟨g', q1, q2, cs, q3, q4⟩ := r13.2.1 rfl
              refine wpo_storeS 74 (.tmp 9) (.tmp 40) rfl rfl g' 0 (by simpa [Act.eval] using e13.trans q1) (spotsA nx) (by simpa [Act.eval] using e40) _ cs q4 (by rw [spotsA_size, q3]; omega) (spotsA_one _) (info_spots_s _) ?_
              intro w2 hk2 ho2
              rw [splA_all _ _ (by rw [spotsA_size, q3])] at hk2
              refine kk _ _ (by simp) (HJ.trans (ho2.below q2)) ⟨fun h => absurd rfl h, fun g2 cs' h1 h2 => ?_⟩ ⟨trivial, fun e => by omega, fun _ => ⟨g', q1, q2, hk2⟩⟩
              by_cases e : g2 = g'
              · subst e; exact ⟨_, spotsA_size _, hk2⟩
              · exact ⟨cs', h1, h2.only ho2 e⟩
            · intro a w1 vs K HJ HK HD HN kk
              have e41 := (HD 12 _ 41 rfl rfl rfl).1.trans (HD 12 _ 41 rfl rfl rfl).2.1
              go_simp; exact kk _ _ (by simp) HJ (EE.out _ _ _ (Below.refl _ _)) ⟨rfl, fun e => by omega, fun e => by omega⟩
          intro vs wb hwb hrr
          have h15 : vs 15 = _ := (hrr 15 _ rfl).1
          obtain ⟨gn, h13, hg1, hg2⟩ := (hrr 14 _ rfl).2.2 rfl
          have h13' : vs 13 = .pointer (some ⟨gn, 0, none⟩) := h13
          clear hrr h13 HPl HR HO HC EE
          simp only [putAll, Act.put, h15, h13']
          clear h15 h13'
          have hbwb : Below wr.heap.size wr wb := HBW.out.trans (hwb.mono (by rw [HWS.out]; omega))
          have hob := HOB.out.below hwb HOB.out.lt
          have HIb := Lib.hid (HIn.out.below hbwb)
          have HFb := Lib.hid (Fr.of_below (B := B) hbwb HIn.out.1.lt)
          have HB2 := Lib.hid (HBB0.out.below hbwb HBB0.out.lt)
          have HOb := Lib.hid hob
          have HBB : Hid (B ≤ wb.heap.size) := Lib.hid HIb.out.1.lt
          clear hwb hbwb hob HOB HBW HWS HBB0 hg1
          have HNX : Hid (∀ w1, Below wb.heap.size wb w1 → ∀ j u, (spotsA nx)[j]? = some u → w1.cell? ⟨gn, 0 + j, none⟩ = some u) := Lib.hid fun w1 hw1 j u hj => by rw [Nat.zero_add]; exact ((hg2.below hw1 hg2.lt).cell j).trans hj
          have HR := Lib.hid fun (w1 : World) (hw1 : Below wb.heap.size wb w1) => ((HR0.out.fr HIb.out.2.1).fr (Fr.of_below hw1 HBB.out)).load
          have hnok : SpotsOk p nx := by rw [HNX0.out]; exact wantB_ok HSO.out hkp o
          have HNK := Lib.hid hnok
          clear hg2 hnok HIn
          cases hok : safeB p nx with
          | false =>
            have HT : Hid (try1S p g r k o s1 = (true, s1)) := Lib.hid (by unfold try1S; rw [← HNX0.out, hok]; rfl)
            clear hok
            go_simp
            go_wp2_with fail
            refine wp_region_steps (by kernel_rfl) (by kernel_rfl) (fun w1 => Below wb.heap.size wb w1) (fun _ _ _ => True)
              (fun ix u _ _ => match ix with
                | 0 => u = .bool false
                | 1 => u = .bool false
                | 2 => u = undef
                | 3 => u = undef
                | 4 => u = undef
                | 5 => u = undef
                | 6 => u = undef
                | 7 => u = undef
                | 8 => u = .bool false
                | 9 => u = .bool false
                | 10 => u = undef
                | 11 => u = undef
                | 12 => u = undef
                | 13 => u = undef
                | 14 => u = undef
                | 15 => u = undef
                | 16 => u = undef
                | _ => u = .bool false) (Below.refl _ _).drew (fun _ _ _ _ _ _ _ _ h _ _ => h) ?_ ?_
            · refine ⟨?_, ?_, ?_, ?_, ?_, ?_, ?_, ?_, ?_, ?_, ?_, ?_, ?_, ?_, ?_, ?_, ?_, ?_, trivial⟩
              · intro a w1 vs K HJ HK HD HN k
                have e10 := HK 10 (by decide)
                go_simp; exact k _ _ (by simp) HJ trivial rfl
              · intro a w1 vs K HJ HK HD HN k
                have e42 := (HD 0 _ 42 rfl rfl rfl).1.trans (HD 0 _ 42 rfl rfl rfl).2
                go_simp; exact k _ _ (by simp) HJ trivial rfl
              · intro a w1 vs K HJ HK HD HN k
                have e43 := (HD 1 _ 43 rfl rfl rfl).1.trans (HD 1 _ 43 rfl rfl rfl).2
                rw [if_neg (wanted_no 1 true rfl rfl rfl e43)]
                exact k undef _ (by simp) HJ trivial rfl
              · intro a w1 vs K HJ HK HD HN k
                have e43 := (HD 1 _ 43 rfl rfl rfl).1.trans (HD 1 _ 43 rfl rfl rfl).2
                rw [if_neg (wanted_no 1 true rfl rfl rfl e43)]
                exact k undef _ (by simp) HJ trivial rfl
              · intro a w1 vs K HJ HK HD HN k
                have e43 := (HD 1 _ 43 rfl rfl rfl).1.trans (HD 1 _ 43 rfl rfl rfl).2
                rw [if_neg (wanted_no 1 true rfl rfl rfl e43)]
                exact k undef _ (by simp) HJ trivial rfl
              · intro a w1 vs K HJ HK HD HN k
                have e43 := (HD 1 _ 43 rfl rfl rfl).1.trans (HD 1 _ 43 rfl rfl rfl).2
                rw [if_neg (wanted_no 1 true rfl rfl rfl e43)]
                exact k undef _ (by simp) HJ trivial rfl
              · intro a w1 vs K HJ HK HD HN k
                have e43 := (HD 1 _ 43 rfl rfl rfl).1.trans (HD 1 _ 43 rfl rfl rfl).2
                rw [if_neg (wanted_no 1 true rfl rfl rfl e43)]
                exact k undef _ (by simp) HJ trivial rfl
              · intro a w1 vs K HJ HK HD HN k
                have e43 := (HD 1 _ 43 rfl rfl rfl).1.trans (HD 1 _ 43 rfl rfl rfl).2
                rw [if_neg (wanted_no 1 true rfl rfl rfl e43)]
                exact k undef _ (by simp) HJ trivial rfl
              · intro a w1 vs K HJ HK HD HN k
                have e43 := (HD 1 _ 43 rfl rfl rfl).1.trans (HD 1 _ 43 rfl rfl rfl).2
                have e49 := (HD 7 _ 49 rfl rfl rfl).1.trans (HD 7 _ 49 rfl rfl rfl).2
                go_simp; exact k _ _ (by simp) HJ trivial rfl
              · intro a w1 vs K HJ HK HD HN k
                have e50 := (HD 8 _ 50 rfl rfl rfl).1.trans (HD 8 _ 50 rfl rfl rfl).2
                go_simp; exact k _ _ (by simp) HJ trivial rfl
              · intro a w1 vs K HJ HK HD HN k
                have e51 := (HD 9 _ 51 rfl rfl rfl).1.trans (HD 9 _ 51 rfl rfl rfl).2
                rw [if_neg (wanted_no 9 true rfl rfl rfl e51)]
                exact k undef _ (by simp) HJ trivial rfl
              · intro a w1 vs K HJ HK HD HN k
                have e51 := (HD 9 _ 51 rfl rfl rfl).1.trans (HD 9 _ 51 rfl rfl rfl).2
                rw [if_neg (wanted_no 9 true rfl rfl rfl e51)]
                exact k undef _ (by simp) HJ trivial rfl
              · intro a w1 vs K HJ HK HD HN k
                have e51 := (HD 9 _ 51 rfl rfl rfl).1.trans (HD 9 _ 51 rfl rfl rfl).2
                rw [if_neg (wanted_no 9 true rfl rfl rfl e51)]
                exact k undef _ (by simp) HJ trivial rfl
              · intro a w1 vs K HJ HK HD HN k
                have e51 := (HD 9 _ 51 rfl rfl rfl).1.trans (HD 9 _ 51 rfl rfl rfl).2
                rw [if_neg (wanted_no 9 true rfl rfl rfl e51)]
                exact k undef _ (by simp) HJ trivial rfl
              · intro a w1 vs K HJ HK HD HN k
                have e51 := (HD 9 _ 51 rfl rfl rfl).1.trans (HD 9 _ 51 rfl rfl rfl).2
                rw [if_neg (wanted_no 9 true rfl rfl rfl e51)]
                exact k undef _ (by simp) HJ trivial rfl
              · intro a w1 vs K HJ HK HD HN k
                have e51 := (HD 9 _ 51 rfl rfl rfl).1.trans (HD 9 _ 51 rfl rfl rfl).2
                rw [if_neg (wanted_no 9 true rfl rfl rfl e51)]
                exact k undef _ (by simp) HJ trivial rfl
              · intro a w1 vs K HJ HK HD HN k
                have e51 := (HD 9 _ 51 rfl rfl rfl).1.trans (HD 9 _ 51 rfl rfl rfl).2
                rw [if_neg (wanted_no 9 true rfl rfl rfl e51)]
                exact k undef _ (by simp) HJ trivial rfl
              · intro a w1 vs K HJ HK HD HN k
                have e51 := (HD 9 _ 51 rfl rfl rfl).1.trans (HD 9 _ 51 rfl rfl rfl).2
                have e58 := (HD 16 _ 58 rfl rfl rfl).1.trans (HD 16 _ 58 rfl rfl rfl).2
                go_simp; exact k _ _ (by simp) HJ trivial rfl
            intro vs w2 hw2 hrr
            have h17 : vs 17 = _ := hrr 17 _ rfl
            have HI3 := Lib.hid (HIb.out.next hkp hm2 HO1.out HT.out (HIb.out.1.below hw2) (Fr.of_below hw2 HBB.out))
            have HB3 := Lib.hid (HB2.out.below hw2 HB2.out.lt)
            clear hrr HNX HR hw2 HIb HB2 HOb
            simp only [putAll, Act.put, h17]
            go_simp
            go_wp2_with fail
            go_roundw
            case rel => exact ⟨m + 1, by omega, by go_num, Lib.hid ⟨s1, HI3.out, HB3.out⟩⟩
            case measure => simp [intOf]; omega
          | true =>
            cases hsame : sameSp nx r.at_ with
            | true =>
              have HNE : Hid (∀ w1, (binOp .neq 74 (.agg (spotsA nx)) (.agg (spotsA r.at_))).run Try.prog w1 = .ok (.bool false) w1) := Lib.hid fun w1 => by have := run_neq_spots nx r.at_ (HNK.out.places hv) HP.out w1; rw [hsame] at this; exact this
              have HT : Hid (try1S p g r k o s1 = (true, s1)) := Lib.hid (by unfold try1S; rw [← HNX0.out, hok, hsame]; rfl)
              clear hok hsame
              go_simp
              go_wp2_with fail
              refine wp_region_steps (by kernel_rfl) (by kernel_rfl) (fun w1 => Below wb.heap.size wb w1) (fun _ _ _ => True)
                (fun ix u _ _ => match ix with
                  | 0 => u = .bool true
                  | 1 => u = .bool true
                  | 2 => u = .agg (spotsA nx)
                  | 3 => u = .pointer (some ⟨b, 0, none⟩)
                  | 4 => u = .pointer (some ⟨b, 0, none⟩)
                  | 5 => u = .pointer (some ⟨b, 0, none⟩)
                  | 6 => u = .agg (spotsA r.at_)
                  | 7 => u = .bool false
                  | 8 => u = .bool false
                  | 9 => u = .bool false
                  | 10 => u = undef
                  | 11 => u = undef
                  | 12 => u = undef
                  | 13 => u = undef
                  | 14 => u = undef
                  | 15 => u = undef
                  | 16 => u = undef
                  | _ => u = .bool false) (Below.refl _ _).drew (fun _ _ _ _ _ _ _ _ h _ _ => h) ?_ ?_
              · refine ⟨?_, ?_, ?_, ?_, ?_, ?_, ?_, ?_, ?_, ?_, ?_, ?_, ?_, ?_, ?_, ?_, ?_, ?_, trivial⟩
                · intro a w1 vs K HJ HK HD HN k
                  have e10 := HK 10 (by decide)
                  go_simp; exact k _ _ (by simp) HJ trivial rfl
                · intro a w1 vs K HJ HK HD HN k
                  have e42 := (HD 0 _ 42 rfl rfl rfl).1.trans (HD 0 _ 42 rfl rfl rfl).2
                  go_simp; exact k _ _ (by simp) HJ trivial rfl
                · intro a w1 vs K HJ HK HD HN k
                  have e43 := (HD 1 _ 43 rfl rfl rfl).1.trans (HD 1 _ 43 rfl rfl rfl).2
                  rw [if_pos (wanted_yes 1 true rfl rfl rfl e43)]
                  have e9 := HK 9 (by decide)
                  exact wpo_loadS 74 (.tmp 9) rfl gn 0 (by simpa [Act.eval] using e9) (spotsA nx) _ (HNX.out w1 HJ) und_spots rfl (info_spots_s _) (k _ _ (by simp) HJ trivial rfl)
                · intro a w1 vs K HJ HK HD HN k
                  have e43 := (HD 1 _ 43 rfl rfl rfl).1.trans (HD 1 _ 43 rfl rfl rfl).2
                  rw [if_pos (wanted_yes 1 true rfl rfl rfl e43)]
                  have e1 := HK 1 (by decide)
                  go_simp; exact k _ _ (by simp) HJ trivial rfl
                · intro a w1 vs K HJ HK HD HN k
                  have e43 := (HD 1 _ 43 rfl rfl rfl).1.trans (HD 1 _ 43 rfl rfl rfl).2
                  rw [if_pos (wanted_yes 1 true rfl rfl rfl e43)]
                  have e45 := (HD 3 _ 45 rfl rfl rfl).1.trans (HD 3 _ 45 rfl rfl rfl).2
                  go_simp; exact k _ _ (by simp) HJ trivial rfl
                · intro a w1 vs K HJ HK HD HN k
                  have e43 := (HD 1 _ 43 rfl rfl rfl).1.trans (HD 1 _ 43 rfl rfl rfl).2
                  rw [if_pos (wanted_yes 1 true rfl rfl rfl e43)]
                  have e46 := (HD 4 _ 46 rfl rfl rfl).1.trans (HD 4 _ 46 rfl rfl rfl).2
                  go_simp; exact k _ _ (by simp) HJ trivial rfl
                · intro a w1 vs K HJ HK HD HN k
                  have e43 := (HD 1 _ 43 rfl rfl rfl).1.trans (HD 1 _ 43 rfl rfl rfl).2
                  rw [if_pos (wanted_yes 1 true rfl rfl rfl e43)]
                  have e47 := (HD 5 _ 47 rfl rfl rfl).1.trans (HD 5 _ 47 rfl rfl rfl).2
                  exact wpo_loadS 74 (.tmp 47) rfl b 0 (by simpa [Act.eval] using e47) (spotsA r.at_) _ (HR.out w1 HJ) und_spots rfl (info_spots_s _) (k _ _ (by simp) HJ trivial rfl)
                · intro a w1 vs K HJ HK HD HN k
                  have e43 := (HD 1 _ 43 rfl rfl rfl).1.trans (HD 1 _ 43 rfl rfl rfl).2
                  rw [if_pos (wanted_yes 1 true rfl rfl rfl e43)]
                  have e44 := (HD 2 _ 44 rfl rfl rfl).1.trans (HD 2 _ 44 rfl rfl rfl).2
                  have e48 := (HD 6 _ 48 rfl rfl rfl).1.trans (HD 6 _ 48 rfl rfl rfl).2
                  exact wpo_neqS 74 _ (.tmp 44) (.tmp 48) rfl _ _ (by simpa [Act.eval] using e44) (by simpa [Act.eval] using e48) guardSpots _ (HNE.out w1) (k _ _ (by simp) HJ trivial rfl)
                · intro a w1 vs K HJ HK HD HN k
                  have e43 := (HD 1 _ 43 rfl rfl rfl).1.trans (HD 1 _ 43 rfl rfl rfl).2
                  have e49 := (HD 7 _ 49 rfl rfl rfl).1.trans (HD 7 _ 49 rfl rfl rfl).2
                  go_simp; exact k _ _ (by simp) HJ trivial rfl
                · intro a w1 vs K HJ HK HD HN k
                  have e50 := (HD 8 _ 50 rfl rfl rfl).1.trans (HD 8 _ 50 rfl rfl rfl).2
                  go_simp; exact k _ _ (by simp) HJ trivial rfl
                · intro a w1 vs K HJ HK HD HN k
                  have e51 := (HD 9 _ 51 rfl rfl rfl).1.trans (HD 9 _ 51 rfl rfl rfl).2
                  rw [if_neg (wanted_no 9 true rfl rfl rfl e51)]
                  exact k undef _ (by simp) HJ trivial rfl
                · intro a w1 vs K HJ HK HD HN k
                  have e51 := (HD 9 _ 51 rfl rfl rfl).1.trans (HD 9 _ 51 rfl rfl rfl).2
                  rw [if_neg (wanted_no 9 true rfl rfl rfl e51)]
                  exact k undef _ (by simp) HJ trivial rfl
                · intro a w1 vs K HJ HK HD HN k
                  have e51 := (HD 9 _ 51 rfl rfl rfl).1.trans (HD 9 _ 51 rfl rfl rfl).2
                  rw [if_neg (wanted_no 9 true rfl rfl rfl e51)]
                  exact k undef _ (by simp) HJ trivial rfl
                · intro a w1 vs K HJ HK HD HN k
                  have e51 := (HD 9 _ 51 rfl rfl rfl).1.trans (HD 9 _ 51 rfl rfl rfl).2
                  rw [if_neg (wanted_no 9 true rfl rfl rfl e51)]
                  exact k undef _ (by simp) HJ trivial rfl
                · intro a w1 vs K HJ HK HD HN k
                  have e51 := (HD 9 _ 51 rfl rfl rfl).1.trans (HD 9 _ 51 rfl rfl rfl).2
                  rw [if_neg (wanted_no 9 true rfl rfl rfl e51)]
                  exact k undef _ (by simp) HJ trivial rfl
                · intro a w1 vs K HJ HK HD HN k
                  have e51 := (HD 9 _ 51 rfl rfl rfl).1.trans (HD 9 _ 51 rfl rfl rfl).2
                  rw [if_neg (wanted_no 9 true rfl rfl rfl e51)]
                  exact k undef _ (by simp) HJ trivial rfl
                · intro a w1 vs K HJ HK HD HN k
                  have e51 := (HD 9 _ 51 rfl rfl rfl).1.trans (HD 9 _ 51 rfl rfl rfl).2
                  rw [if_neg (wanted_no 9 true rfl rfl rfl e51)]
                  exact k undef _ (by simp) HJ trivial rfl
                · intro a w1 vs K HJ HK HD HN k
                  have e51 := (HD 9 _ 51 rfl rfl rfl).1.trans (HD 9 _ 51 rfl rfl rfl).2
                  have e58 := (HD 16 _ 58 rfl rfl rfl).1.trans (HD 16 _ 58 rfl rfl rfl).2
                  go_simp; exact k _ _ (by simp) HJ trivial rfl
              intro vs w2 hw2 hrr
              have h17 : vs 17 = _ := hrr 17 _ rfl
              have HI3 := Lib.hid (HIb.out.next hkp hm2 HO1.out HT.out (HIb.out.1.below hw2) (Fr.of_below hw2 HBB.out))
              have HB3 := Lib.hid (HB2.out.below hw2 HB2.out.lt)
              clear hrr HNX HR hw2 HIb HB2 HOb
              simp only [putAll, Act.put, h17]
              go_simp
              go_wp2_with fail
              go_roundw
              case rel => exact ⟨m + 1, by omega, by go_num, Lib.hid ⟨s1, HI3.out, HB3.out⟩⟩
              case measure => simp [intOf]; omega
            | false =>
              have HNE : Hid (∀ w1, (binOp .neq 74 (.agg (spotsA nx)) (.agg (spotsA r.at_))).run Try.prog w1 = .ok (.bool true) w1) := Lib.hid fun w1 => by have := run_neq_spots nx r.at_ (HNK.out.places hv) HP.out w1; rw [hsame] at this; exact this
              obtain ⟨nr, hnr⟩ : ∃ nr, nr = RowC.step nx r (some ⟨k, o⟩) := ⟨_, rfl⟩
              have HT : Hid (try1S p g r k o s1 = reachS p g s1 nr) := Lib.hid (by unfold try1S; rw [← HNX0.out, hok, hsame, hnr]; rfl)
              have HRE : Hid (∀ w1, Below wb.heap.size wb w1 → ∀ nb, Bk w1 nb 96 (rowA nx (.pointer (some ⟨b, 0, none⟩)) (.pointer (some ⟨wr.heap.size, 0, none⟩))) →
                  Calls Try.prog 29 #[.pointer (some ⟨X.sb, 0, none⟩), .pointer (some ⟨nb, 0, none⟩)] w1 fun e w' => e = .returned (.bool (reachS p g s1 nr).1) ∧ SrIn w' B X p g (reachS p g s1 nr).2 ∧ Fr B w1 w') := Lib.hid fun w1 hw1 nb hnb => by
                refine reach_any w1 B X p g s1 (HIb.out.1.below hw1) hv hG nr nb ?_ ?_
                · rw [hnr]
                  exact ⟨b, wr.heap.size, (HR0.out.fr HIb.out.2.1).fr (Fr.of_below hw1 HBB.out), HOb.out.below hw1 HOb.out.lt, hnb⟩
                · rw [hnr]; exact HNK.out
              clear hok hsame hnr
              go_simp
              go_wp2_with fail
              refine wp_region_stepsJ (by kernel_rfl) (by kernel_rfl) (fun dn _ w1 => if dn 15 = true then SrIn w1 B X p g (reachS p g s1 nr).2 ∧ Fr B wb w1 else Below wb.heap.size wb w1) (fun _ w1 w2 => Fr B w1 w2)
                (fun ix u d w1 => (match ix with
                  | 0 => u = .bool true
                  | 1 => u = .bool true
                  | 2 => u = .agg (spotsA nx)
                  | 3 => u = .pointer (some ⟨b, 0, none⟩)
                  | 4 => u = .pointer (some ⟨b, 0, none⟩)
                  | 5 => u = .pointer (some ⟨b, 0, none⟩)
                  | 6 => u = .agg (spotsA r.at_)
                  | 7 => u = .bool true
                  | 8 => u = .bool true
                  | 9 => u = .bool true
                  | 10 => u = .pointer (some ⟨X.sb, 0, none⟩)
                  | 11 => u = .agg (spotsA nx)
                  | 12 => u = .pointer (some ⟨b, 0, none⟩)
                  | 13 => u = .agg (rowA nx (.pointer (some ⟨b, 0, none⟩)) (.pointer (some ⟨wr.heap.size, 0, none⟩)))
                  | 14 => True
                  | 15 => u = .bool (reachS p g s1 nr).1
                  | 16 => u = .bool (!(reachS p g s1 nr).1)
                  | _ => u = .bool (!(reachS p g s1 nr).1)) ∧ (ix = 14 → ∃ nb, u = .pointer (some ⟨nb, 0, none⟩) ∧ Bk w1 nb 96 (rowA nx (.pointer (some ⟨b, 0, none⟩)) (.pointer (some ⟨wr.heap.size, 0, none⟩))))) (fun _ => (Below.refl _ _).drew) (by rintro i j hij _ u d w1 w2 ⟨hr1, hr2⟩ hE; exact ⟨hr1, fun e => (by obtain ⟨nb, e1, e2⟩ := hr2 e; exact ⟨nb, e1, hE.keep _ _ _ (by decide) (by decide) e2⟩)⟩) ?_ ?_
              · refine ⟨?_, ?_, ?_, ?_, ?_, ?_, ?_, ?_, ?_, ?_, ?_, ?_, ?_, ?_, ?_, ?_, ?_, ?_, trivial⟩
                · intro a w1 vs K dn Hd Hb HJ HK HD HN k
                  have e10 := HK 10 (by decide)
                  go_simp; exact k _ _ (by simp) HJ (Fr.refl _ _) ⟨rfl, fun e => by omega⟩
                · intro a w1 vs K dn Hd Hb HJ HK HD HN k
                  have e42 := (HD 0 _ 42 rfl rfl rfl).1.trans (HD 0 _ 42 rfl rfl rfl).2.1
                  go_simp; exact k _ _ (by simp) HJ (Fr.refl _ _) ⟨rfl, fun e => by omega⟩
                · intro a w1 vs K dn Hd Hb HJ HK HD HN k
                  have e43 := (HD 1 _ 43 rfl rfl rfl).1.trans (HD 1 _ 43 rfl rfl rfl).2.1
                  rw [if_pos (wanted_yes 1 true rfl rfl rfl e43)]
                  have e9 := HK 9 (by decide)
                  have d15 : dn 15 = false := by cases hq : dn 15 with | false => rfl | true => exact absurd (Hd 15 hq).2 (by decide)
                  have HJ' : Below wb.heap.size wb w1 := by simpa [d15] using HJ
                  exact wpo_loadS 74 (.tmp 9) rfl gn 0 (by simpa [Act.eval] using e9) (spotsA nx) _ (HNX.out w1 HJ') und_spots rfl (info_spots_s _) (k _ _ (by simp) HJ (Fr.refl _ _) ⟨rfl, fun e => by omega⟩)
                · intro a w1 vs K dn Hd Hb HJ HK HD HN k
                  have e43 := (HD 1 _ 43 rfl rfl rfl).1.trans (HD 1 _ 43 rfl rfl rfl).2.1
                  rw [if_pos (wanted_yes 1 true rfl rfl rfl e43)]
                  have e1 := HK 1 (by decide)
                  go_simp; exact k _ _ (by simp) HJ (Fr.refl _ _) ⟨rfl, fun e => by omega⟩
                · intro a w1 vs K dn Hd Hb HJ HK HD HN k
                  have e43 := (HD 1 _ 43 rfl rfl rfl).1.trans (HD 1 _ 43 rfl rfl rfl).2.1
                  rw [if_pos (wanted_yes 1 true rfl rfl rfl e43)]
                  have e45 := (HD 3 _ 45 rfl rfl rfl).1.trans (HD 3 _ 45 rfl rfl rfl).2.1
                  go_simp; exact k _ _ (by simp) HJ (Fr.refl _ _) ⟨rfl, fun e => by omega⟩
                · intro a w1 vs K dn Hd Hb HJ HK HD HN k
                  have e43 := (HD 1 _ 43 rfl rfl rfl).1.trans (HD 1 _ 43 rfl rfl rfl).2.1
                  rw [if_pos (wanted_yes 1 true rfl rfl rfl e43)]
                  have e46 := (HD 4 _ 46 rfl rfl rfl).1.trans (HD 4 _ 46 rfl rfl rfl).2.1
                  go_simp; exact k _ _ (by simp) HJ (Fr.refl _ _) ⟨rfl, fun e => by omega⟩
                · intro a w1 vs K dn Hd Hb HJ HK HD HN k
                  have e43 := (HD 1 _ 43 rfl rfl rfl).1.trans (HD 1 _ 43 rfl rfl rfl).2.1
                  rw [if_pos (wanted_yes 1 true rfl rfl rfl e43)]
                  have e47 := (HD 5 _ 47 rfl rfl rfl).1.trans (HD 5 _ 47 rfl rfl rfl).2.1
                  have d15 : dn 15 = false := by cases hq : dn 15 with | false => rfl | true => exact absurd (Hd 15 hq).2 (by decide)
                  have HJ' : Below wb.heap.size wb w1 := by simpa [d15] using HJ
                  exact wpo_loadS 74 (.tmp 47) rfl b 0 (by simpa [Act.eval] using e47) (spotsA r.at_) _ (HR.out w1 HJ') und_spots rfl (info_spots_s _) (k _ _ (by simp) HJ (Fr.refl _ _) ⟨rfl, fun e => by omega⟩)
                · intro a w1 vs K dn Hd Hb HJ HK HD HN k
                  have e43 := (HD 1 _ 43 rfl rfl rfl).1.trans (HD 1 _ 43 rfl rfl rfl).2.1
                  rw [if_pos (wanted_yes 1 true rfl rfl rfl e43)]
                  have e44 := (HD 2 _ 44 rfl rfl rfl).1.trans (HD 2 _ 44 rfl rfl rfl).2.1
                  have e48 := (HD 6 _ 48 rfl rfl rfl).1.trans (HD 6 _ 48 rfl rfl rfl).2.1
                  exact wpo_neqS 74 _ (.tmp 44) (.tmp 48) rfl _ _ (by simpa [Act.eval] using e44) (by simpa [Act.eval] using e48) guardSpots _ (HNE.out w1) (k _ _ (by simp) HJ (Fr.refl _ _) ⟨rfl, fun e => by omega⟩)
                · intro a w1 vs K dn Hd Hb HJ HK HD HN k
                  have e43 := (HD 1 _ 43 rfl rfl rfl).1.trans (HD 1 _ 43 rfl rfl rfl).2.1
                  have e49 := (HD 7 _ 49 rfl rfl rfl).1.trans (HD 7 _ 49 rfl rfl rfl).2.1
                  go_simp; exact k _ _ (by simp) HJ (Fr.refl _ _) ⟨rfl, fun e => by omega⟩
                · intro a w1 vs K dn Hd Hb HJ HK HD HN k
                  have e50 := (HD 8 _ 50 rfl rfl rfl).1.trans (HD 8 _ 50 rfl rfl rfl).2.1
                  go_simp; exact k _ _ (by simp) HJ (Fr.refl _ _) ⟨rfl, fun e => by omega⟩
                · intro a w1 vs K dn Hd Hb HJ HK HD HN k
                  have e51 := (HD 9 _ 51 rfl rfl rfl).1.trans (HD 9 _ 51 rfl rfl rfl).2.1
                  rw [if_pos (wanted_yes 9 true rfl rfl rfl e51)]
                  have e0 := HK 0 (by decide)
                  go_simp; exact k _ _ (by simp) HJ (Fr.refl _ _) ⟨rfl, fun e => by omega⟩
                · intro a w1 vs K dn Hd Hb HJ HK HD HN k
                  have e51 := (HD 9 _ 51 rfl rfl rfl).1.trans (HD 9 _ 51 rfl rfl rfl).2.1
                  rw [if_pos (wanted_yes 9 true rfl rfl rfl e51)]
                  have e9 := HK 9 (by decide)
                  have d15 : dn 15 = false := by cases hq : dn 15 with | false => rfl | true => exact absurd (Hd 15 hq).2 (by decide)
                  have HJ' : Below wb.heap.size wb w1 := by simpa [d15] using HJ
                  exact wpo_loadS 74 (.tmp 9) rfl gn 0 (by simpa [Act.eval] using e9) (spotsA nx) _ (HNX.out w1 HJ') und_spots rfl (info_spots_s _) (k _ _ (by simp) HJ (Fr.refl _ _) ⟨rfl, fun e => by omega⟩)
                · intro a w1 vs K dn Hd Hb HJ HK HD HN k
                  have e51 := (HD 9 _ 51 rfl rfl rfl).1.trans (HD 9 _ 51 rfl rfl rfl).2.1
                  rw [if_pos (wanted_yes 9 true rfl rfl rfl e51)]
                  have e1 := HK 1 (by decide)
                  go_simp; exact k _ _ (by simp) HJ (Fr.refl _ _) ⟨rfl, fun e => by omega⟩
                · intro a w1 vs K dn Hd Hb HJ HK HD HN k
                  have e51 := (HD 9 _ 51 rfl rfl rfl).1.trans (HD 9 _ 51 rfl rfl rfl).2.1
                  rw [if_pos (wanted_yes 9 true rfl rfl rfl e51)]
                  have e53 := (HD 11 _ 53 rfl rfl rfl).1.trans (HD 11 _ 53 rfl rfl rfl).2.1
                  have e54 := (HD 12 _ 54 rfl rfl rfl).1.trans (HD 12 _ 54 rfl rfl rfl).2.1
                  have e8 := HK 8 (by decide)
                  have hev : (Array.map (fun (i, x) => (i, a.eval x)) #[(0, Operand.tmp 53), (1, .tmp 54), (2, .tmp 8)]).toList = [(0, .agg (spotsA nx)), (1, .pointer (some ⟨b, 0, none⟩)), (2, .pointer (some ⟨wr.heap.size, 0, none⟩))] := by simp [Act.eval, e53, e54, e8]
                  refine wp_build 96 _ rfl (by rw [hev, built_row]; rfl) ?_
                  rw [hev, built_row]
                  exact k _ _ (by simp) HJ (Fr.refl _ _) ⟨rfl, fun e => by omega⟩
                · intro a w1 vs K dn Hd Hb HJ HK HD HN k
                  have e51 := (HD 9 _ 51 rfl rfl rfl).1.trans (HD 9 _ 51 rfl rfl rfl).2.1
                  rw [if_pos (wanted_yes 9 true rfl rfl rfl e51)]
                  have e55 := (HD 13 _ 55 rfl rfl rfl).1.trans (HD 13 _ 55 rfl rfl rfl).2.1
                  have d15 : dn 15 = false := by cases hq : dn 15 with | false => rfl | true => exact absurd (Hd 15 hq).2 (by decide)
                  have HJ' : Below wb.heap.size wb w1 := by simpa [d15] using HJ
                  go_simp
                  have hb : ∀ ob, Below w1.heap.size w1 (w1.alloc ob) := fun ob => (Below.refl _ _).alloc (Nat.le_refl _) _
                  exact k _ _ (by simp) (by show (if dn 15 = true then _ else _); rw [d15]; exact HJ'.trans ((hb _).mono HJ'.size)) (Fr.of_below (hb _) (Nat.le_trans HBB.out HJ'.size)) ⟨trivial, fun _ => ⟨_, rfl, Bk.new _ _ _⟩⟩
                · intro a w1 vs K dn Hd Hb HJ HK HD HN k
                  have e51 := (HD 9 _ 51 rfl rfl rfl).1.trans (HD 9 _ 51 rfl rfl rfl).2.1
                  rw [if_pos (wanted_yes 9 true rfl rfl rfl e51)]
                  have e52 := (HD 10 _ 52 rfl rfl rfl).1.trans (HD 10 _ 52 rfl rfl rfl).2.1
                  have d15 : dn 15 = false := by cases hq : dn 15 with | false => rfl | true => exact absurd rfl (Hd 15 hq).1
                  have HJ' : Below wb.heap.size wb w1 := by simpa [d15] using HJ
                  obtain ⟨e56, r56⟩ := HD 14 _ 56 rfl rfl rfl
                  obtain ⟨nb, q1, q2⟩ := r56.2 rfl
                  refine wpo_call 29 _ _ rfl #[.pointer (some ⟨X.sb, 0, none⟩), .pointer (some ⟨nb, 0, none⟩)] (by simp [Act.eval, e52, e56.trans q1]) (fun args w => by kernel_rfl) ?_
                  refine (HRE.out w1 HJ' nb q2).mono ?_
                  rintro e w' ⟨rfl, hS, hF⟩
                  exact ⟨_, rfl, k _ _ (by simp) (by show (if true = true then _ else _); exact ⟨hS, (Fr.of_below HJ' HBB.out).trans hF⟩) hF ⟨rfl, fun e => by omega⟩⟩
                · intro a w1 vs K dn Hd Hb HJ HK HD HN k
                  have e51 := (HD 9 _ 51 rfl rfl rfl).1.trans (HD 9 _ 51 rfl rfl rfl).2.1
                  rw [if_pos (wanted_yes 9 true rfl rfl rfl e51)]
                  have e57 := (HD 15 _ 57 rfl rfl rfl).1.trans (HD 15 _ 57 rfl rfl rfl).2.1
                  go_simp; exact k _ _ (by simp) HJ (Fr.refl _ _) ⟨rfl, fun e => by omega⟩
                · intro a w1 vs K dn Hd Hb HJ HK HD HN k
                  have e51 := (HD 9 _ 51 rfl rfl rfl).1.trans (HD 9 _ 51 rfl rfl rfl).2.1
                  have e58 := (HD 16 _ 58 rfl rfl rfl).1.trans (HD 16 _ 58 rfl rfl rfl).2.1
                  go_simp; exact k _ _ (by simp) HJ (Fr.refl _ _) ⟨rfl, fun e => by omega⟩
              intro vs dn w2 hall hJ hrr
              rw [if_pos (hall 15 (by decide))] at hJ
              obtain ⟨hS2, hF2⟩ := hJ
              have h17 : vs 17 = _ := (hrr 17 _ rfl).1
              have HS2 := Lib.hid hS2
              have HF2 := Lib.hid hF2
              have HB3 := Lib.hid (hF2.keep _ _ _ (by decide) (by decide) HB2.out)
              clear hrr HNX HR HB2 HOb hS2 hF2 HRE hall
              simp only [putAll, Act.put, h17]
              cases hq : (reachS p g s1 nr).1 with
              | true =>
                have HI3 := Lib.hid (HIb.out.next hkp hm2 HO1.out (HT.out.trans (Prod.ext hq rfl)) HS2.out HF2.out)
                clear hq h17
                go_simp
                go_wp2_with fail
                go_roundw
                case rel => exact ⟨m + 1, by omega, by go_num, Lib.hid ⟨_, HI3.out, HB3.out⟩⟩
                case measure => simp [intOf]; omega
              | false =>
                have HE := Lib.hid (HIb.out.stop hkp hm2 HO1.out (HT.out.trans (Prod.ext hq rfl)))
                have HF3 := Lib.hid (HIb.out.2.1.trans HF2.out)
                clear hq h17
                go_simp
                go_wp2_with fail
                go_ret
                rw [Hf.out, HE.out]
                exact ⟨rfl, HS2.out, HF3.out⟩
        · obtain rfl : m = 2 := by omega
          go_wp2_with fail
          go_roundw
          case rel => exact ⟨k + 1, by omega, by go_num, Lib.hid (by obtain ⟨s1, h1, _⟩ := hI2.out; exact ⟨s1, h1⟩)⟩
          case measure => simp [intOf]; omega
    · obtain rfl : k = n := by omega
      go_wp2_with fail
      obtain ⟨s1, hIn⟩ := hI.out
      obtain ⟨wr, rfl⟩ : ∃ wr : World, wr = wo := ⟨_, rfl⟩
      have hTt : trysS p g r (2 * p.valves.length) 0 st = (true, s1) := hIn.2.2.trans (by rw [← HNN.out, Nat.sub_self]; rfl)
      have HFF : Hid (followS p g r st = reachS p g s1 (.step (movedB p r.at_ fun _ => false) r none)) := Lib.hid (by rw [Hf.out, hTt]; rfl)
      obtain ⟨mv, hmv⟩ : ∃ mv, mv = movedB p r.at_ fun _ => false := ⟨_, rfl⟩
      obtain ⟨nr, hnr⟩ : ∃ nr, nr = RowC.step mv r none := ⟨_, rfl⟩
      rw [← hmv, ← hnr] at HFF
      have HBB : Hid (B ≤ wr.heap.size) := Lib.hid hIn.1.lt
      have HPl := Lib.hid fun (w1 : World) (hw1 : Below wr.heap.size wr w1) => (hIn.1.below hw1).loadPlant
      have HR := Lib.hid fun (w1 : World) (hw1 : Below wr.heap.size wr w1) => ((HR0.out.fr hIn.2.1).fr (Fr.of_below hw1 HBB.out)).load
      have HMV := Lib.hid fun (w1 : World) (hw1 : Below wr.heap.size wr w1) => moved_any w1 X.pv p (hIn.1.below hw1).plant hv r.at_ HSO.out fun _ => false
      rw [← hmv] at HMV
      have HRE : Hid (∀ w1, Below wr.heap.size wr w1 → ∀ nb, Bk w1 nb 96 (rowA mv (.pointer (some ⟨b, 0, none⟩)) (.pointer none)) →
          Calls Try.prog 29 #[.pointer (some ⟨X.sb, 0, none⟩), .pointer (some ⟨nb, 0, none⟩)] w1 fun e w' => e = .returned (.bool (reachS p g s1 nr).1) ∧ SrIn w' B X p g (reachS p g s1 nr).2 ∧ Fr B w1 w') := Lib.hid fun w1 hw1 nb hnb => by
        refine reach_any w1 B X p g s1 (hIn.1.below hw1) hv hG nr nb ?_ ?_
        · rw [hnr]
          exact ⟨b, (HR0.out.fr hIn.2.1).fr (Fr.of_below hw1 HBB.out), hnb⟩
        · rw [hnr, hmv]; exact movedB_ok HSO.out _
      have HF1 := Lib.hid hIn.2.1
      clear hTt hmv hnr hIn hI Hf
      refine wp_region_stepsJ (by kernel_rfl) (by kernel_rfl) (fun dn _ w1 => if dn 14 = true then SrIn w1 B X p g (reachS p g s1 nr).2 ∧ Fr B wr w1 else Below wr.heap.size wr w1) (fun _ w1 w2 => Fr B w1 w2)
        (fun ix u d w1 => (match ix with
          | 0 => u = .pointer (some ⟨X.sb, 0, none⟩)
          | 1 => u = .pointer (some ⟨X.sb, 0, none⟩)
          | 2 => u = .pointer (some ⟨X.sb, 0, none⟩)
          | 3 => u = .pointer (some ⟨X.sb, 0, none⟩)
          | 4 => u = .agg (plantA X.pv p)
          | 5 => u = .pointer (some ⟨b, 0, none⟩)
          | 6 => u = .pointer (some ⟨b, 0, none⟩)
          | 7 => u = .pointer (some ⟨b, 0, none⟩)
          | 8 => u = .agg (spotsA r.at_)
          | 9 => u = .agg (stuckA fun _ => false)
          | 10 => u = .agg (spotsA mv)
          | 11 => u = .pointer (some ⟨b, 0, none⟩)
          | 12 => u = .agg (rowA mv (.pointer (some ⟨b, 0, none⟩)) (.pointer none))
          | 13 => True
          | 14 => u = .bool (reachS p g s1 nr).1
          | _ => u = .bool (reachS p g s1 nr).1) ∧ (ix = 13 → ∃ nb, u = .pointer (some ⟨nb, 0, none⟩) ∧ Bk w1 nb 96 (rowA mv (.pointer (some ⟨b, 0, none⟩)) (.pointer none)))) (fun _ => (Below.refl _ _).drew) (by rintro i j hij _ u d w1 w2 ⟨hr1, hr2⟩ hE; exact ⟨hr1, fun e => (by obtain ⟨nb, e1, e2⟩ := hr2 e; exact ⟨nb, e1, hE.keep _ _ _ (by decide) (by decide) e2⟩)⟩) ?_ ?_
      · refine ⟨?_, ?_, ?_, ?_, ?_, ?_, ?_, ?_, ?_, ?_, ?_, ?_, ?_, ?_, ?_, ?_, trivial⟩
        · intro a w1 vs K dn Hd Hb HJ HK HD HN k
          have e0 := HK 0 (by decide)
          go_simp; exact k _ _ (by simp) HJ (Fr.refl _ _) ⟨rfl, fun e => by omega⟩
        · intro a w1 vs K dn Hd Hb HJ HK HD HN k
          have e0 := HK 0 (by decide)
          go_simp; exact k _ _ (by simp) HJ (Fr.refl _ _) ⟨rfl, fun e => by omega⟩
        · intro a w1 vs K dn Hd Hb HJ HK HD HN k
          have e63 := (HD 1 _ 63 rfl rfl rfl).1.trans (HD 1 _ 63 rfl rfl rfl).2.1
          go_simp; exact k _ _ (by simp) HJ (Fr.refl _ _) ⟨rfl, fun e => by omega⟩
        · intro a w1 vs K dn Hd Hb HJ HK HD HN k
          have e64 := (HD 2 _ 64 rfl rfl rfl).1.trans (HD 2 _ 64 rfl rfl rfl).2.1
          go_simp; exact k _ _ (by simp) HJ (Fr.refl _ _) ⟨rfl, fun e => by omega⟩
        · intro a w1 vs K dn Hd Hb HJ HK HD HN k
          have e65 := (HD 3 _ 65 rfl rfl rfl).1.trans (HD 3 _ 65 rfl rfl rfl).2.1
          have d14 : dn 14 = false := by cases hq : dn 14 with | false => rfl | true => exact absurd (Hd 14 hq).2 (by decide)
          have HJ' : Below wr.heap.size wr w1 := by simpa [d14] using HJ
          exact wpo_loadS 33 (.tmp 65) rfl X.sb 0 (by simpa [Act.eval] using e65) (plantA X.pv p) _ (HPl.out w1 HJ') und_plant rfl info_plant (k _ _ (by simp) HJ (Fr.refl _ _) ⟨rfl, fun e => by omega⟩)
        · intro a w1 vs K dn Hd Hb HJ HK HD HN k
          have e1 := HK 1 (by decide)
          go_simp; exact k _ _ (by simp) HJ (Fr.refl _ _) ⟨rfl, fun e => by omega⟩
        · intro a w1 vs K dn Hd Hb HJ HK HD HN k
          have e67 := (HD 5 _ 67 rfl rfl rfl).1.trans (HD 5 _ 67 rfl rfl rfl).2.1
          go_simp; exact k _ _ (by simp) HJ (Fr.refl _ _) ⟨rfl, fun e => by omega⟩
        · intro a w1 vs K dn Hd Hb HJ HK HD HN k
          have e68 := (HD 6 _ 68 rfl rfl rfl).1.trans (HD 6 _ 68 rfl rfl rfl).2.1
          go_simp; exact k _ _ (by simp) HJ (Fr.refl _ _) ⟨rfl, fun e => by omega⟩
        · intro a w1 vs K dn Hd Hb HJ HK HD HN k
          have e69 := (HD 7 _ 69 rfl rfl rfl).1.trans (HD 7 _ 69 rfl rfl rfl).2.1
          have d14 : dn 14 = false := by cases hq : dn 14 with | false => rfl | true => exact absurd (Hd 14 hq).2 (by decide)
          have HJ' : Below wr.heap.size wr w1 := by simpa [d14] using HJ
          exact wpo_loadS 74 (.tmp 69) rfl b 0 (by simpa [Act.eval] using e69) (spotsA r.at_) _ (HR.out w1 HJ') und_spots rfl (info_spots_s _) (k _ _ (by simp) HJ (Fr.refl _ _) ⟨rfl, fun e => by omega⟩)
        · intro a w1 vs K dn Hd Hb HJ HK HD HN k
          have hev : (Array.map (fun (i, x) => (i, a.eval x)) (#[] : Array (Nat × Operand))).toList = [] := by simp
          refine wp_build 77 _ rfl (by rw [hev, built_free]; rfl) ?_
          rw [hev, built_free]
          exact k _ _ (by simp) HJ (Fr.refl _ _) ⟨rfl, fun e => by omega⟩
        · intro a w1 vs K dn Hd Hb HJ HK HD HN k
          have e66 := (HD 4 _ 66 rfl rfl rfl).1.trans (HD 4 _ 66 rfl rfl rfl).2.1
          have e70 := (HD 8 _ 70 rfl rfl rfl).1.trans (HD 8 _ 70 rfl rfl rfl).2.1
          have e71 := (HD 9 _ 71 rfl rfl rfl).1.trans (HD 9 _ 71 rfl rfl rfl).2.1
          have d14 : dn 14 = false := by cases hq : dn 14 with | false => rfl | true => exact absurd (Hd 14 hq).2 (by decide)
          have HJ' : Below wr.heap.size wr w1 := by simpa [d14] using HJ
          exact wpo_call 37 _ _ rfl #[.agg (plantA X.pv p), .agg (spotsA r.at_), .agg (stuckA fun _ => false)] (by simp [Act.eval, e66, e70, e71]) (fun args w => by kernel_rfl)
            ((HMV.out w1 HJ').mono fun e w' ⟨he, hb⟩ => ⟨_, he, k _ _ (by simp) (by show (if dn 14 = true then _ else _); rw [d14]; exact HJ'.trans (hb.mono HJ'.size)) (Fr.of_below hb (Nat.le_trans HBB.out HJ'.size)) ⟨rfl, fun e => by omega⟩⟩)
        · intro a w1 vs K dn Hd Hb HJ HK HD HN k
          have e1 := HK 1 (by decide)
          go_simp; exact k _ _ (by simp) HJ (Fr.refl _ _) ⟨rfl, fun e => by omega⟩
        · intro a w1 vs K dn Hd Hb HJ HK HD HN k
          have e72 := (HD 10 _ 72 rfl rfl rfl).1.trans (HD 10 _ 72 rfl rfl rfl).2.1
          have e73 := (HD 11 _ 73 rfl rfl rfl).1.trans (HD 11 _ 73 rfl rfl rfl).2.1
          have hev : (Array.map (fun (i, x) => (i, a.eval x)) #[(0, Operand.tmp 72), (1, .tmp 73), (2, Operand.const (Value.pointer none))]).toList = [(0, .agg (spotsA mv)), (1, .pointer (some ⟨b, 0, none⟩)), (2, .pointer none)] := by simp [Act.eval, e72, e73]
          refine wp_build 96 _ rfl (by rw [hev, built_row]; rfl) ?_
          rw [hev, built_row]
          exact k _ _ (by simp) HJ (Fr.refl _ _) ⟨rfl, fun e => by omega⟩
        · intro a w1 vs K dn Hd Hb HJ HK HD HN k
          have e74 := (HD 12 _ 74 rfl rfl rfl).1.trans (HD 12 _ 74 rfl rfl rfl).2.1
          have d14 : dn 14 = false := by cases hq : dn 14 with | false => rfl | true => exact absurd (Hd 14 hq).2 (by decide)
          have HJ' : Below wr.heap.size wr w1 := by simpa [d14] using HJ
          go_simp
          have hb : ∀ ob, Below w1.heap.size w1 (w1.alloc ob) := fun ob => (Below.refl _ _).alloc (Nat.le_refl _) _
          exact k _ _ (by simp) (by show (if dn 14 = true then _ else _); rw [d14]; exact HJ'.trans ((hb _).mono HJ'.size)) (Fr.of_below (hb _) (Nat.le_trans HBB.out HJ'.size)) ⟨trivial, fun _ => ⟨_, rfl, Bk.new _ _ _⟩⟩
        · intro a w1 vs K dn Hd Hb HJ HK HD HN k
          have e62 := (HD 0 _ 62 rfl rfl rfl).1.trans (HD 0 _ 62 rfl rfl rfl).2.1
          have d14 : dn 14 = false := by cases hq : dn 14 with | false => rfl | true => exact absurd rfl (Hd 14 hq).1
          have HJ' : Below wr.heap.size wr w1 := by simpa [d14] using HJ
          obtain ⟨e75, r75⟩ := HD 13 _ 75 rfl rfl rfl
          obtain ⟨nb, q1, q2⟩ := r75.2 rfl
          refine wpo_call 29 _ _ rfl #[.pointer (some ⟨X.sb, 0, none⟩), .pointer (some ⟨nb, 0, none⟩)] (by simp [Act.eval, e62, e75.trans q1]) (fun args w => by kernel_rfl) ?_
          refine (HRE.out w1 HJ' nb q2).mono ?_
          rintro e w' ⟨rfl, hS, hF⟩
          exact ⟨_, rfl, k _ _ (by simp) (by show (if true = true then _ else _); exact ⟨hS, (Fr.of_below HJ' HBB.out).trans hF⟩) hF ⟨rfl, fun e => by omega⟩⟩
        · intro a w1 vs K dn Hd Hb HJ HK HD HN k
          have e76 := (HD 14 _ 76 rfl rfl rfl).1.trans (HD 14 _ 76 rfl rfl rfl).2.1
          go_simp; exact k _ _ (by simp) HJ (Fr.refl _ _) ⟨rfl, fun e => by omega⟩
      intro vs dn w2 hall hJ hrr
      rw [if_pos (hall 14 (by decide))] at hJ
      obtain ⟨hS2, hF2⟩ := hJ
      have h15 : vs 15 = _ := (hrr 15 _ rfl).1
      have HS2 := Lib.hid hS2
      have HF2 := Lib.hid hF2
      clear hrr HPl HR HMV hS2 hF2 HRE hall
      simp only [putAll, Act.put, h15]
      go_simp
      go_wp2_with fail
      go_ret
      rw [HFF.out]
      exact ⟨rfl, HS2.out, HF1.out.trans HF2.out⟩
end Go.Proofs.Ytogobjmmgjfjjaa
