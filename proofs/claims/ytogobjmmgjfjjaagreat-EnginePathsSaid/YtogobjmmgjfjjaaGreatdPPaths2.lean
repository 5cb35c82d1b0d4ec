/- What is proved: the texts C1 C2 Sys F1 D1 D2 D3 D4 E1 E2 E3 Reg3 E4 E5, one behind the other; each says at its head what it proves, and under which conditions. -/
import Derived.RegionTactic
import Derived.ChangeAlike
import Derived.Lib.SliceRun
import Derived.Laws.AppendOwn
import Derived.BigRegion
import Derived.Test.YtogobjmmgjfjjaaGreatdPPaths1
/- What is proved: contracts of engine.moved and engine.order. Conditions: the plant lies in memory as the plain data say and is valid; the places are within the travels. -/
namespace Go.Proofs.YtogobjmmgjfjjaaGreat
open Go.RowKit

def stuckA (st : Nat → Bool) : Array Value := #[.bool (st 0), .bool (st 1), .bool (st 2), .bool (st 3), .bool (st 4), .bool (st 5), .bool (st 6), .bool (st 7), .bool (st 8), .bool (st 9), .bool (st 10), .bool (st 11)]
theorem stuckA_size (st : Nat → Bool) : (stuckA st).size = 12 := rfl
theorem stuck_get (st : Nat → Bool) (i : Nat) (hi : i < 12) : (stuckA st)[i]? = some (.bool (st i)) := by
  match i, hi with
  | 0, _ => rfl
  | 1, _ => rfl
  | 2, _ => rfl
  | 3, _ => rfl
  | 4, _ => rfl
  | 5, _ => rfl
  | 6, _ => rfl
  | 7, _ => rfl
  | 8, _ => rfl
  | 9, _ => rfl
  | 10, _ => rfl
  | 11, _ => rfl
theorem min_go (a b : Int) : min a b = if b < a then b else a := by split <;> omega
theorem max_go (a b : Int) : max a b = if a < b then b else a := by split <;> omega
/-- One valve, one tick on. -/
def move1 (travel : Int) (stuck : Bool) (x : SpotD) : SpotD :=
  if stuck then x else if x.opn then ⟨min (x.place + 1) travel, x.opn⟩ else ⟨max (x.place - 1) 0, x.opn⟩
def movedK (p : PlantD) (s : Spots) (st : Nat → Bool) (k : Nat) : Spots := fun i => if i < k then move1 (p.valve i).travel (st i) (s i) else s i
def movedB (p : PlantD) (s : Spots) (st : Nat → Bool) : Spots := movedK p s st p.valves.length
/-- Where valves can be: from 0 to their travel; beyond the valves all is zero. -/
def SpotsOk (p : PlantD) (s : Spots) : Prop := (∀ i, i < p.valves.length → 0 ≤ (s i).place ∧ (s i).place ≤ (p.valve i).travel) ∧ ∀ i, p.valves.length ≤ i → s i = SpotD.zero
theorem SpotsOk.places {p : PlantD} {s : Spots} (h : SpotsOk p s) (hv : ValvesOk p) : PlacesOk s := by
  intro i
  by_cases hi : i < p.valves.length
  · have h1 := h.1 i hi; have h2 := hv.2 i hi; omega
  · rw [h.2 i (by omega)]; simp [SpotD.zero]
theorem move1_ok {t : Int} {b : Bool} {x : SpotD} (h0 : 0 ≤ x.place) (h1 : x.place ≤ t) : 0 ≤ (move1 t b x).place ∧ (move1 t b x).place ≤ t := by
  unfold move1
  split
  · exact ⟨h0, h1⟩
  · split <;> simp only <;> omega
theorem movedB_ok {p : PlantD} {s : Spots} (h : SpotsOk p s) (st : Nat → Bool) : SpotsOk p (movedB p s st) := by
  refine ⟨fun i hi => ?_, fun i hi => ?_⟩
  · unfold movedB movedK; rw [if_pos hi]; exact move1_ok (h.1 i hi).1 (h.1 i hi).2
  · unfold movedB movedK; rw [if_neg (by omega)]; exact h.2 i hi
theorem firstB_spots {p : PlantD} (hv : ValvesOk p) : SpotsOk p (firstB p) := by
  refine ⟨fun i hi => ?_, fun i hi => ?_⟩
  · unfold firstB
    have := hv.2 i hi
    split
    · simp only; omega
    · simp [SpotD.zero]; omega
  · unfold firstB; rw [if_neg (by omega)]
theorem movedK_zero (p : PlantD) (s : Spots) (st : Nat → Bool) : movedK p s st 0 = s := by funext i; simp [movedK]
theorem movedK_succ (p : PlantD) (s : Spots) (st : Nat → Bool) (k : Nat) : movedK p s st (k + 1) = fun i => if i = k then move1 (p.valve k).travel (st k) (movedK p s st k k) else movedK p s st k i := by
  funext i
  unfold movedK
  by_cases hi : i = k
  · subst hi; simp
  · have : (i < k + 1) = (i < k) := by simp; omega
    simp [this, hi]
theorem movedK_at (p : PlantD) (s : Spots) (st : Nat → Bool) (k : Nat) : movedK p s st k k = s k := by simp [movedK]

theorem info_stuck : (Tryz.prog.info? 106).map (·.size) = some 12 := by kernel_rfl

set_option maxRecDepth 100000 in
set_option maxHeartbeats 2000000 in
theorem moved_any (w : World) (x : PV) (p : PlantD) (h : PlantAt w w.heap.size x p) (hv : ValvesOk p) (s : Spots) (hs : SpotsOk p s) (st : Nat → Bool) :
    Calls Tryz.prog 100 #[.agg (plantA x p), .agg (spotsA s), .agg (stuckA st)] w fun e w' => e = .returned (.agg (spotsA (movedB p s st))) ∧ Below w.heap.size w w' := by
  obtain ⟨tA, tc, vA, vc, lA, lc, nA, nc, iA, ic, jA, jc⟩ := x
  have hsl : Sl w w.heap.size 3 vA p.valves.length fun i => valveC (p.valve i) := h.valves
  have hn := hsl.1
  have hn12 := hv.1
  have hvt := Lib.hid hv.2
  have hst := Lib.hid hs
  have hz := spotsA_size s
  have hz2 := stuckA_size st
  clear hv h hs
  dsimp only [plantA]
  go_enter Tryz.func100, Tryz.ntmps100
  go_wp2_with fail
  go_loopw [12] (fun i wr => ∃ k : Nat, k ≤ p.valves.length ∧ i = .int .i64 k ∧ Bk wr (w.heap.size + 1 + 1 + 1) 105 (spotsA zeroS) ∧ Bk wr (w.heap.size + 1) 105 (spotsA (movedK p s st k)) ∧ Bk wr (w.heap.size + 1 + 1) 106 (stuckA st) ∧ Below w.heap.size w wr) (fun i _ => p.valves.length - (intOf i).toNat)
  case atStart =>
    refine ⟨0, Nat.zero_le _, rfl, Bk.newAt _ _ (spotsA zeroS) _ (by simp), ?_, ?_, ((((Below.refl _ _).alloc (Nat.le_refl _) _).alloc (by simp) _).alloc (by simp; omega) _).alloc (by simp; omega) _⟩
    · rw [movedK_zero]; exact ((Bk.newAt _ _ _ _ (by simp)).alloc _).alloc _
    · exact (Bk.newAt _ _ _ _ (by simp)).alloc _
  case round =>
    obtain ⟨k, hk, rfl, hb1, hb2, hb3, hb⟩ := hrel
    have hs1 := hb1.lt
    have hs2 := hb2.lt
    have hs3 := hb3.lt
    by_cases hlt : k < p.valves.length
    · obtain ⟨b, off, rfl, hB, c0, c1, c2⟩ := (hsl.below hb).at3 hlt
      simp only [valveC] at c0 c1 c2
      have ht := hvt.out k hlt
      have hpl := hst.out.1 k hlt
      have h12 : (k : Int) < 12 := by omega
      have h0i : (0 : Int) ≤ (k : Int) := by omega
      have hwr : IntKind.i8.wrap (p.valve k).travel = (p.valve k).travel := IntWalk.i8_in _ (by omega)
      have hw1 : IntKind.i8.wrap ((s k).place + 1) = (s k).place + 1 := IntWalk.i8_in _ (by omega)
      have hw2 : IntKind.i8.wrap ((s k).place - 1) = (s k).place - 1 := IntWalk.i8_in _ (by omega)
      have hB1 : b < wr.heap.size := by omega
      have g1 := spots_get (movedK p s st k) k (by omega)
      rw [movedK_at] at g1
      have e1 := (hb2.cell (k * 2)).trans g1.1
      have e2 := (hb2.cell (k * 2 + 1)).trans g1.2
      have e3 := (hb3.cell k).trans (stuck_get st k (by omega))
      have f1 := hb2.free (k * 2)
      have hb1' := Lib.hid hb1
      have hb2' := Lib.hid hb2
      have hb3' := Lib.hid hb3
      clear hb1 hb2 hb3 g1
      have hsucc := Lib.hid (movedK_succ p s st k)
      cases h1 : st k with
      | true =>
        have H1 := Lib.hid h1
        rw [h1] at e3
        clear h1
        go_wp2
        go_roundw
        case rel =>
          refine ⟨k + 1, by omega, by go_num, hb1'.out.alloc _, ?_, hb3'.out.alloc _, hb.alloc (by omega) _⟩
          have : movedK p s st (k + 1) = movedK p s st k := by
            rw [hsucc.out]; funext i; by_cases hi : i = k
            · subst hi; simp [move1, H1.out]
            · simp [hi]
          rw [this]; exact hb2'.out.alloc _
        case measure => simp [intOf]; omega
      | false =>
        have H1 := Lib.hid h1
        rw [h1] at e3
        clear h1
        cases h2 : (s k).opn with
        | true =>
          have H2 := Lib.hid h2
          rw [h2] at e2
          clear h2
          go_wp2
          go_region
          go_wp2
          go_roundw
          case rel =>
            refine ⟨k + 1, by omega, by go_num, (hb1'.out.far (p := ⟨_, _, none⟩) (by simp <;> omega) _).alloc _, ?_, (hb3'.out.far (p := ⟨_, _, none⟩) (by simp <;> omega) _).alloc _, ((hb.setCell (p := ⟨_, _, none⟩) (by simp <;> omega) _).alloc (by simp <;> omega) _).drew⟩
            have : movedK p s st (k + 1) = fun i => if i = k then ⟨if (p.valve k).travel < (s k).place + 1 then (p.valve k).travel else (s k).place + 1, (movedK p s st k k).opn⟩ else movedK p s st k i := by
              rw [hsucc.out, movedK_at]; funext i; by_cases hi : i = k
              · subst hi; simp [move1, H1.out, H2.out, min_go]
              · simp [hi]
            rw [this, ← spots_place _ k (by omega)]
            have := (hb2'.out.set (k * 2) (.int .i8 (if (p.valve k).travel < (s k).place + 1 then (p.valve k).travel else (s k).place + 1))).alloc (.cells #[.string (p.valve k).name, .int .i64 (p.valve k).travel, .bool (p.valve k).opn] 78)
            exact this
          case measure => simp [intOf]; omega
        | false =>
          have H2 := Lib.hid h2
          rw [h2] at e2
          clear h2
          go_wp2
          go_roundw
          case rel =>
            refine ⟨k + 1, by omega, by go_num, (hb1'.out.far (p := ⟨_, _, none⟩) (by simp <;> omega) _).alloc _, ?_, (hb3'.out.far (p := ⟨_, _, none⟩) (by simp <;> omega) _).alloc _, (hb.setCell (p := ⟨_, _, none⟩) (by simp <;> omega) _).alloc (by simp <;> omega) _⟩
            have : movedK p s st (k + 1) = fun i => if i = k then ⟨if (s k).place - 1 < 0 then 0 else (s k).place - 1, (movedK p s st k k).opn⟩ else movedK p s st k i := by
              rw [hsucc.out, movedK_at]; funext i; by_cases hi : i = k
              · subst hi; simp [move1, H1.out, H2.out, max_go]
              · simp [hi]
            rw [this, ← spots_place _ k (by omega)]
            have := (hb2'.out.set (k * 2) (.int .i8 (if (s k).place - 1 < 0 then 0 else (s k).place - 1))).alloc (.cells #[.string (p.valve k).name, .int .i64 (p.valve k).travel, .bool (p.valve k).opn] 78)
            exact this
          case measure => simp [intOf]; omega
    · obtain rfl : k = p.valves.length := by omega
      rw [show movedK p s st p.valves.length = movedB p s st from rfl] at hb2
      have hl1 := hb1.lt
      clear hvt hst
      go_wp2_with (first | (refine wpLoadAt rfl 105 _ rfl (w.heap.size + 1) 0 rfl (spotsA (movedB p s st)) _ (fun j u hj => by rw [hb2.cell]; simpa using hj) und_spots rfl (info_spots_s _) ?_) | (refine wpStoreAt rfl rfl 105 _ _ rfl (w.heap.size + 1 + 1 + 1) 0 rfl (spotsA (movedB p s st)) rfl 105 _ hb1 (by rw [spotsA_size, spotsA_size]; omega) (spotsA_one _) (info_spots_s _) ?_; intro w' hr ho))
      refine bodyPost_ret (v := .agg (spotsA (movedB p s st))) ?_ rfl ⟨rfl, hb.trans (ho.below (by omega))⟩
      rw [splA_all _ _ (by rw [spotsA_size, spotsA_size])] at hr
      exact results_cellS rfl _ _ _ _ _ _ rfl hr und_spots rfl (info_spots_s _)
end Go.Proofs.YtogobjmmgjfjjaaGreat
/- What is proved: a contract of engine.order. Conditions: the plant lies in memory as the plain data say and is valid; the valve is one of the plant. -/
namespace Go.Proofs.YtogobjmmgjfjjaaGreat
open Go.RowKit

/-- What an order makes of the wants. -/
def wantB (s : Spots) (v : Nat) (o : Bool) : Spots := fun k => if k = v then ⟨(s v).place, o⟩ else s k
theorem wantB_ok {p : PlantD} {s : Spots} (h : SpotsOk p s) {v : Nat} (hv : v < p.valves.length) (o : Bool) : SpotsOk p (wantB s v o) := by
  refine ⟨fun i hi => ?_, fun i hi => ?_⟩
  · unfold wantB
    split
    · exact h.1 v hv |> fun hh => by rename_i e; subst e; exact hh
    · exact h.1 i hi
  · unfold wantB; rw [if_neg (by omega)]; exact h.2 i hi
theorem und_order : Tryz.prog.underlying 38 = some (.struct (match Tryz.prog.underlying 38 with | some (.struct f) => f | _ => #[])) := by kernel_rfl
theorem info_order : (Tryz.prog.info? 38).map (·.size) = some 2 := by kernel_rfl

set_option maxRecDepth 100000 in
set_option maxHeartbeats 2000000 in
theorem order_any (w : World) (x : PV) (p : PlantD) (h : PlantAt w w.heap.size x p) (hv : ValvesOk p) (hN : NeverOk p) (s : Spots) (hs : SpotsOk p s) (v : Nat) (o : Bool) (hvl : v < p.valves.length) :
    Calls Tryz.prog 110 #[.agg (plantA x p), .agg (spotsA s), .agg #[.int .i64 v, .bool o]] w
      fun e w' => e = .returned (.tuple #[.agg (spotsA (wantB s v o)), .bool (safeB p (wantB s v o))]) ∧ Below w.heap.size w w' := by
  have h12 := hv.1
  have hz := spotsA_size s
  have hso := spots_opn s v (by omega) o
  have hvi : (v : Int) < (12 : Int) := by omega
  have h0i : (0 : Int) ≤ (v : Int) := by omega
  have hst : SpotsOk p (wantB s v o) := wantB_ok hs hvl o
  have HP := Lib.hid fun (w1 : World) (hb : Below w.heap.size w w1) => safe_any w1 x p ((h.below hb).mono hb.size) (wantB s v o) (hst.places hv) h12 hN
  have g := spots_get s v (by omega)
  have hg := g.2
  clear h hs hst hv hN g
  go_enter Tryz.func110, Tryz.ntmps110
  go_wp2
  clear hso hg
  obtain ⟨W, hW⟩ : ∃ W, W = (((w.alloc (.cells (plantA x p) 27)).alloc (.cells (spotsA (wantB s v o)) 105)).alloc (.cells #[.int .i64 v, .bool o] 38)).alloc (.cells (spotsA zeroS) 105) := ⟨_, rfl⟩
  have hWs : W.heap.size = w.heap.size + 4 := by rw [hW]; simp
  have hbW : Below w.heap.size w W := by rw [hW]; exact ((((Below.refl _ _).alloc (Nat.le_refl _) _).alloc (by simp <;> omega) _).alloc (by simp <;> omega) _).alloc (by simp <;> omega) _
  have b0 : Bk W w.heap.size 27 (plantA x p) := by rw [hW]; exact (((Bk.newAt _ _ _ _ (by simp)).alloc _).alloc _).alloc _
  have b1 : Bk W (w.heap.size + 1) 105 (spotsA (wantB s v o)) := by rw [hW]; exact ((Bk.newAt _ _ _ _ (by simp)).alloc _).alloc _
  have b3 : Bk W (w.heap.size + 1 + 1 + 1) 105 (spotsA zeroS) := by rw [hW]; exact Bk.newAt _ _ _ _ (by simp)
  change Code.wp _ _ _ _ ((((w.alloc (.cells (plantA x p) 27)).alloc (.cells (spotsA (wantB s v o)) 105)).alloc (.cells #[.int .i64 v, .bool o] 38)).alloc (.cells (spotsA zeroS) 105))
  rw [← hW]
  clear hW
  refine wp_region_steps (by kernel_rfl) (by kernel_rfl)
    (fun w1 => Below w.heap.size w w1 ∧ Bk w1 w.heap.size 27 (plantA x p) ∧ Bk w1 (w.heap.size + 1) 105 (spotsA (wantB s v o)) ∧ ∃ cs, cs.size = 24 ∧ Bk w1 (w.heap.size + 1 + 1 + 1) 105 cs)
    (fun j w1 w2 => j ≠ 4 → Below w1.heap.size w1 w2)
    (fun i u _ w1 => match i with
      | 0 | 2 => u = .agg (spotsA (wantB s v o))
      | 1 => u = .agg (plantA x p)
      | 4 => Bk w1 (w.heap.size + 1 + 1 + 1) 105 (spotsA (wantB s v o))
      | _ => u = .bool (safeB p (wantB s v o))) ⟨hbW.drew, b0, b1, _, spotsA_size zeroS, b3⟩ ?_ ?_ ?_
  · intro i j hij _ u d w1 w2 hr hJ hE
    by_cases h4 : i = 4
    · subst h4
      exact Bk.below hr (hE (Ne.symm hij)) (Bk.lt hr)
    · match i, h4, hr with
      | 0, _, hr => exact hr
      | 1, _, hr => exact hr
      | 2, _, hr => exact hr
      | 3, _, hr => exact hr
      | n + 5, _, hr => exact hr
  · clear b0 b1 b3
    refine ⟨?_, ?_, ?_, ?_, ?_, ?_, trivial⟩
    · intro a w1 vs K HJ HK HD HN k; have k4 := HK 4 (by decide)
      exact wpo_loadS 105 (.tmp 4) rfl _ 0 (by simpa [Act.eval] using k4) (spotsA (wantB s v o)) _ (fun j u hj => by rw [HJ.2.2.1.cell, Nat.zero_add]; exact hj) und_spots rfl (info_spots_s _) (k _ _ (by simp) HJ (fun _ => Below.refl _ _) rfl)
    · intro a w1 vs K HJ HK HD HN k; have k3 := HK 3 (by decide)
      exact wpo_loadS 27 (.tmp 3) rfl _ 0 (by simpa [Act.eval] using k3) (plantA x p) _ (fun j u hj => by rw [HJ.2.1.cell, Nat.zero_add]; exact hj) und_plant rfl info_plant (k _ _ (by simp) HJ (fun _ => Below.refl _ _) rfl)
    · intro a w1 vs K HJ HK HD HN k; have k4 := HK 4 (by decide)
      exact wpo_loadS 105 (.tmp 4) rfl _ 0 (by simpa [Act.eval] using k4) (spotsA (wantB s v o)) _ (fun j u hj => by rw [HJ.2.2.1.cell, Nat.zero_add]; exact hj) und_spots rfl (info_spots_s _) (k _ _ (by simp) HJ (fun _ => Below.refl _ _) rfl)
    · intro a w1 vs K HJ HK HD HN k; have e1 := (HD 1 _ 15 rfl rfl rfl).1.trans (HD 1 _ 15 rfl rfl rfl).2; have e2 := (HD 2 _ 16 rfl rfl rfl).1.trans (HD 2 _ 16 rfl rfl rfl).2
      exact wpo_call 67 _ _ rfl #[.agg (plantA x p), .agg (spotsA (wantB s v o))] (by simp [Act.eval, e1, e2]) (fun args w => by kernel_rfl)
        ((HP.out w1 HJ.1).mono fun e w' ⟨he, hb⟩ => ⟨_, he, k _ _ (by simp)
          ⟨HJ.1.trans (hb.mono HJ.1.size), HJ.2.1.below hb HJ.2.1.lt, HJ.2.2.1.below hb HJ.2.2.1.lt, by obtain ⟨cs, h1, h2⟩ := HJ.2.2.2; exact ⟨cs, h1, h2.below hb h2.lt⟩⟩ (fun _ => hb) rfl⟩)
    · intro a w1 vs K HJ HK HD HN k; have k6 := HK 6 (by decide); have e0 := (HD 0 _ 14 rfl rfl rfl).1.trans (HD 0 _ 14 rfl rfl rfl).2
      obtain ⟨hJ1, hJ2, hJ3, cs, hcs, hJ4⟩ := HJ
      refine wpo_storeS 105 (.tmp 6) (.tmp 14) rfl rfl _ 0 (by simpa [Act.eval] using k6) (spotsA (wantB s v o)) (by simpa [Act.eval] using e0) _ cs hJ4 (by rw [spotsA_size, hcs]; omega) (spotsA_one _) (info_spots_s _) ?_
      intro w2 hk2 ho2
      rw [splA_all _ _ (by rw [spotsA_size, hcs])] at hk2
      exact k _ _ (by simp) ⟨hJ1.trans (ho2.below (by omega)), hJ2.only ho2 (by omega), hJ3.only ho2 (by omega), _, spotsA_size _, hk2⟩ (fun h => absurd rfl h) hk2
    · intro a w1 vs K HJ HK HD HN k; have e3 := (HD 3 _ 17 rfl rfl rfl).1.trans (HD 3 _ 17 rfl rfl rfl).2; go_simp; exact k _ _ (by simp) HJ (fun _ => Below.refl _ _) rfl
  · intro vs w5 hw5 hr
    have h5 : vs 5 = _ := hr 5 _ rfl
    have h4 : Bk w5 _ _ _ := hr 4 _ rfl
    have hw := hw5.1
    clear hr b0 b1 b3 hw5 HP
    simp only [putAll, Act.put, h5]
    have H4 := Lib.hid h4; clear h4
    go_simp
    go_wp2
    refine bodyPost_ret (v := .tuple #[.agg (spotsA (wantB s v o)), .bool (safeB p (wantB s v o))]) ?_ rfl ⟨rfl, hw⟩
    exact results_cellS_tmp (p := 6) (u := 7) (ty := 105) rfl _ _ _ _ _ _ rfl H4.out und_spots rfl (info_spots_s _)
end Go.Proofs.YtogobjmmgjfjjaaGreat
/- What is proved: how a system lies in memory, and how that is kept. Conditions: those that each lemma states. -/
namespace Go.Proofs.YtogobjmmgjfjjaaGreat
open Go.RowKit

structure TankS where
  content : Int
  gas : Int
  leak : Int
  lost : Int
  vented : Int
/-- A system. -/
structure Sys where
  p : PlantD
  at_ : Spots
  stuck : Nat → Bool
  tank : Nat → TankS
  carried : Nat → Int
/-- Where it lies: its own block, those of its tanks and of what lines carried, that of the variable that its closures hold; all of its blocks are from lo to hi. -/
structure SX where
  pv : PV
  sb : Nat
  tb : Nat
  cb : Nat
  gb : Nat
  lo : Nat
  hi : Nat

def tankRow (t : TankS) : List Value := [.int .i64 t.content, .int .i64 t.gas, .int .i64 t.leak, .int .i64 t.lost, .int .i64 t.vented]
def tanksA (n : Nat) (t : Nat → TankS) : Array Value := ((List.range n).flatMap fun i => tankRow (t i)).toArray
def carrA (n : Nat) (c : Nat → Int) : Array Value := ((List.range n).map fun i => Value.int .i64 (c i)).toArray
def restA (X : SX) (p : PlantD) : Array Value := #[.slice (some ⟨X.tb, 0, none⟩) p.tanks.length p.tanks.length, .slice (some ⟨X.cb, 0, none⟩) p.lines.length p.lines.length,
  .func (.func 54) #[] #[.pointer (some ⟨X.gb, 0, none⟩)], .func (.func 55) #[.pointer (some ⟨X.sb, 0, none⟩)] #[],
  .func (.func 56) #[] #[.pointer (some ⟨X.gb, 0, none⟩)], .func (.func 57) #[] #[.pointer (some ⟨X.gb, 0, none⟩)], .bool true]
def sysA (X : SX) (S : Sys) : Array Value := plantA X.pv S.p ++ (spotsA S.at_ ++ (stuckA S.stuck ++ restA X S.p))

theorem sysA_size (X : SX) (S : Sys) : (sysA X S).size = 47 := by
  unfold sysA
  rw [Array.size_append, Array.size_append, Array.size_append, spotsA_size, stuckA_size]; rfl
theorem sysA_plant (X : SX) (S : Sys) (j : Nat) (u : Value) (h : (plantA X.pv S.p)[j]? = some u) : (sysA X S)[j]? = some u := by
  unfold sysA
  have hj : j < (plantA X.pv S.p).size := (Array.getElem?_eq_some_iff.1 h).1
  rw [Array.getElem?_append_left hj]; exact h
theorem get_right {a b : Array Value} (k j : Nat) (hk : a.size = k) : (a ++ b)[k + j]? = b[j]? := by
  subst hk
  rw [Array.getElem?_append_right (by omega)]; congr 1; omega
theorem sysA_spots (X : SX) (S : Sys) (j : Nat) (u : Value) (h : (spotsA S.at_)[j]? = some u) : (sysA X S)[4 + j]? = some u := by
  unfold sysA
  have hj : j < (spotsA S.at_).size := (Array.getElem?_eq_some_iff.1 h).1
  rw [get_right 4 j rfl, Array.getElem?_append_left hj]; exact h
theorem sysA_stuck (X : SX) (S : Sys) (j : Nat) (u : Value) (h : (stuckA S.stuck)[j]? = some u) : (sysA X S)[28 + j]? = some u := by
  unfold sysA
  have hj : j < (stuckA S.stuck).size := (Array.getElem?_eq_some_iff.1 h).1
  rw [show 28 + j = 4 + (24 + j) from by omega, get_right 4 _ rfl, get_right 24 _ rfl, Array.getElem?_append_left hj]; exact h
theorem sysA_rest (X : SX) (S : Sys) (j : Nat) : (sysA X S)[40 + j]? = (restA X S.p)[j]? := by
  unfold sysA
  rw [show 40 + j = 4 + (24 + (12 + j)) from by omega, get_right 4 _ rfl, get_right 24 _ rfl, get_right 12 _ rfl]
theorem set_right {a b : Array Value} (k j : Nat) (v : Value) (hk : a.size = k) : (a ++ b).setIfInBounds (k + j) v = a ++ b.setIfInBounds j v := by
  subst hk
  apply Array.ext_getElem?
  intro i
  rw [Array.getElem?_setIfInBounds]
  by_cases h1 : i < a.size
  · rw [if_neg (by omega), Array.getElem?_append_left h1, Array.getElem?_append_left h1]
  · rw [Array.getElem?_append_right (by omega), Array.getElem?_append_right (by omega), Array.getElem?_setIfInBounds]
    by_cases h2 : i = a.size + j
    · subst h2
      rw [if_pos rfl, Array.size_append, Nat.add_sub_cancel_left, if_pos rfl]
      by_cases h3 : j < b.size
      · rw [if_pos (by omega), if_pos h3]
      · rw [if_neg (by omega), if_neg h3]
    · rw [if_neg (by omega), if_neg (by omega)]
theorem splA_mid {a b : Array Value} (S T : List Value) (k : Nat) (hk : a.size = k) (hl : S.length = T.length) : splA (a ++ (S.toArray ++ b)) k T = a ++ (T.toArray ++ b) := by
  subst hk
  apply Array.ext_getElem?
  intro i
  rw [splA_get _ _ _ _ (by simp; omega)]
  by_cases h1 : i < a.size
  · rw [if_neg (by omega), Array.getElem?_append_left h1, Array.getElem?_append_left h1]
  · rw [Array.getElem?_append_right (xs := a) (by omega), Array.getElem?_append_right (xs := a) (by omega)]
    by_cases h2 : i < a.size + T.length
    · rw [if_pos (by omega), Array.getElem?_append_left (by simp; omega)]; simp
    · rw [if_neg (by omega), Array.getElem?_append_right (by simp; omega), Array.getElem?_append_right (by simp; omega)]; simp [hl]
theorem sysA_setSpots (X : SX) (S : Sys) (s : Spots) : splA (sysA X S) 4 (spotsA s).toList = sysA X { S with at_ := s } := by
  unfold sysA
  exact splA_mid (a := plantA X.pv S.p) (b := stuckA S.stuck ++ restA X S.p) (spotsA S.at_).toList (spotsA s).toList 4 rfl rfl

theorem tanksA_size (n : Nat) (t : Nat → TankS) : (tanksA n t).size = n * 5 := by
  unfold tanksA
  simp only [List.size_toArray]
  induction n with
  | zero => rfl
  | succ n ih => rw [List.range_succ, List.flatMap_append, List.length_append, ih]; simp [tankRow]; omega
theorem tanksA_get (n : Nat) (t : Nat → TankS) (i j : Nat) (hi : i < n) (hj : j < 5) : (tanksA n t)[i * 5 + j]? = (tankRow (t i))[j]? := by
  unfold tanksA
  rw [List.getElem?_toArray]
  induction n with
  | zero => omega
  | succ n ih =>
    have hl : ((List.range n).flatMap fun i => tankRow (t i)).length = n * 5 := by have := tanksA_size n t; unfold tanksA at this; simpa using this
    rw [List.range_succ, List.flatMap_append]
    by_cases h : i < n
    · rw [List.getElem?_append_left (by rw [hl]; omega)]; exact ih h
    · obtain rfl : i = n := by omega
      rw [List.getElem?_append_right (by rw [hl]; omega), hl]
      simp [Nat.add_sub_cancel_left]
def setTank (t : TankS) (j : Nat) (v : Int) : TankS := match j with
  | 0 => { t with content := v }
  | 1 => { t with gas := v }
  | 2 => { t with leak := v }
  | 3 => { t with lost := v }
  | _ => { t with vented := v }
theorem tankRow_set (t : TankS) (j k : Nat) (hj : j < 5) (v : Int) : (tankRow (setTank t j v))[k]? = if k = j then some (.int .i64 v) else (tankRow t)[k]? := by
  match j, hj with
  | 0, _ => rcases k with _ | k <;> simp [tankRow, setTank]
  | 1, _ => rcases k with _ | _ | k <;> simp [tankRow, setTank]
  | 2, _ => rcases k with _ | _ | _ | k <;> simp [tankRow, setTank]
  | 3, _ => rcases k with _ | _ | _ | _ | k <;> simp [tankRow, setTank]
  | 4, _ => rcases k with _ | _ | _ | _ | _ | k <;> simp [tankRow, setTank]
theorem tanksA_set (n : Nat) (t : Nat → TankS) (i j : Nat) (hi : i < n) (hj : j < 5) (v : Int) : (tanksA n t).setIfInBounds (i * 5 + j) (.int .i64 v) = tanksA n fun k => if k = i then setTank (t i) j v else t k := by
  apply Array.ext_getElem?
  intro m
  by_cases hm : m < n * 5
  · obtain ⟨q, r, hr, rfl⟩ : ∃ q r, r < 5 ∧ m = q * 5 + r := ⟨m / 5, m % 5, Nat.mod_lt _ (by omega), by omega⟩
    have hq : q < n := by omega
    rw [Array.getElem?_setIfInBounds, tanksA_get _ _ _ _ hq hr, tanksA_get _ _ _ _ hq hr, tanksA_size]
    by_cases hqi : q = i
    · subst hqi
      rw [if_pos rfl, tankRow_set _ _ _ hj]
      by_cases hrj : r = j
      · subst hrj; rw [if_pos rfl, if_pos rfl, if_pos hm]
      · rw [if_neg (by omega), if_neg hrj]
    · rw [if_neg (by omega), if_neg hqi]
  · rw [Array.getElem?_eq_none (by simp [tanksA_size]; omega), Array.getElem?_eq_none (by rw [tanksA_size]; omega)]
theorem carrA_size (n : Nat) (c : Nat → Int) : (carrA n c).size = n := by simp [carrA]
theorem carrA_get (n : Nat) (c : Nat → Int) (i : Nat) (hi : i < n) : (carrA n c)[i]? = some (.int .i64 (c i)) := by simp [carrA, hi]
theorem carrA_set (n : Nat) (c : Nat → Int) (i : Nat) (v : Int) : (carrA n c).setIfInBounds i (.int .i64 v) = carrA n fun k => if k = i then v else c k := by
  apply Array.ext_getElem?
  intro m
  rw [Array.getElem?_setIfInBounds]
  by_cases hm : m < n
  · rw [carrA_get _ _ _ hm, carrA_get _ _ _ hm]
    by_cases h : i = m
    · subst h; simp [carrA_size, hm]
    · rw [if_neg h, if_neg (by omega)]
  · have e1 : (carrA n fun k => if k = i then v else c k)[m]? = none := Array.getElem?_eq_none (by rw [carrA_size]; omega)
    have e2 : (carrA n c)[m]? = none := Array.getElem?_eq_none (by rw [carrA_size]; omega)
    rw [e1, e2, carrA_size]
    split
    · rw [if_neg (by omega)]
    · rfl
/-! A plant whose blocks are all in D. -/
def SlD (w : World) (D : Nat → Prop) (k : Nat) (A : Option Addr) (n : Nat) (f : Nat → Nat → Value) : Prop :=
  n ≤ 9223372036854775807 ∧ (0 < n → ∃ b off, A = some ⟨b, off, none⟩ ∧ D b ∧ ∀ i, i < n → ∀ j, j < k → w.cell? ⟨b, off + i * k + j, none⟩ = some (f i j))
theorem SlD.sl {w : World} {D : Nat → Prop} {k n B : Nat} {A : Option Addr} {f : Nat → Nat → Value} (h : SlD w D k A n f) (hD : ∀ b, D b → b < B) : Sl w B k A n f :=
  ⟨h.1, fun hn => by obtain ⟨b, off, e, hb, hc⟩ := h.2 hn; exact ⟨b, off, e, hD b hb, hc⟩⟩
theorem SlD.keep {w w' : World} {D : Nat → Prop} {k n : Nat} {A : Option Addr} {f : Nat → Nat → Value} (h : SlD w D k A n f) (hk : ∀ b, D b → w'.heap[b]? = w.heap[b]?) : SlD w' D k A n f :=
  ⟨h.1, fun hn => by obtain ⟨b, off, e, hb, hc⟩ := h.2 hn; exact ⟨b, off, e, hb, fun i hi j hj => (World.cell?_of_block (hk b hb)).trans (hc i hi j hj)⟩⟩
theorem SlD.mono {w : World} {D D' : Nat → Prop} {k n : Nat} {A : Option Addr} {f : Nat → Nat → Value} (h : SlD w D k A n f) (hD : ∀ b, D b → D' b) : SlD w D' k A n f :=
  ⟨h.1, fun hn => by obtain ⟨b, off, e, hb, hc⟩ := h.2 hn; exact ⟨b, off, e, hD b hb, hc⟩⟩
theorem Sl.slD {w : World} {B k n : Nat} {A : Option Addr} {f : Nat → Nat → Value} (h : Sl w B k A n f) : SlD w (· < B) k A n f := h

structure PlantIn (w : World) (D : Nat → Prop) (x : PV) (p : PlantD) : Prop where
  tanks : SlD w D 4 x.tA p.tanks.length fun i => tankC (p.tank i)
  valves : SlD w D 3 x.vA p.valves.length fun i => valveC (p.valve i)
  lines : SlD w D 5 x.lA p.lines.length fun i => lineC (x.iA i) (x.ic i) (p.line i)
  lv : ∀ i, i < p.lines.length → SlD w D 1 (x.iA i) (p.line i).valves.length fun k _ => .int .i64 ((p.line i).valves.getD k 0)
  never : SlD w D 1 x.nA p.never.length fun i _ => .slice (x.jA i) (p.nev i).length (x.jc i)
  nv : ∀ i, i < p.never.length → SlD w D 2 (x.jA i) (p.nev i).length fun k => litC ((p.nev i).getD k lit0)
  room : p.tanks.length * 16 ≤ 140737488355328 ∧ p.valves.length * 16 ≤ 140737488355328
theorem PlantIn.at_ {w : World} {D : Nat → Prop} {B : Nat} {x : PV} {p : PlantD} (h : PlantIn w D x p) (hD : ∀ b, D b → b < B) : PlantAt w B x p :=
  ⟨h.tanks.sl hD, h.valves.sl hD, h.lines.sl hD, fun i hi => (h.lv i hi).sl hD, h.never.sl hD, fun i hi => (h.nv i hi).sl hD, h.room⟩
theorem PlantIn.keep {w w' : World} {D : Nat → Prop} {x : PV} {p : PlantD} (h : PlantIn w D x p) (hk : ∀ b, D b → w'.heap[b]? = w.heap[b]?) : PlantIn w' D x p :=
  ⟨h.tanks.keep hk, h.valves.keep hk, h.lines.keep hk, fun i hi => (h.lv i hi).keep hk, h.never.keep hk, fun i hi => (h.nv i hi).keep hk, h.room⟩
theorem PlantIn.mono {w : World} {D D' : Nat → Prop} {x : PV} {p : PlantD} (h : PlantIn w D x p) (hD : ∀ b, D b → D' b) : PlantIn w D' x p :=
  ⟨h.tanks.mono hD, h.valves.mono hD, h.lines.mono hD, fun i hi => (h.lv i hi).mono hD, h.never.mono hD, fun i hi => (h.nv i hi).mono hD, h.room⟩

/-- What a call on a system may turn: the system's three blocks, and what is new. -/
structure Chg (X : SX) (w w' : World) : Prop where
  os : w'.os = w.os
  tape : w'.tape = w.tape
  output : w'.output = w.output
  size : w.heap.size ≤ w'.heap.size
  block : ∀ b, b < w.heap.size → b ≠ X.sb → b ≠ X.tb → b ≠ X.cb → w'.heap[b]? = w.heap[b]?
theorem Chg.refl (X : SX) (w : World) : Chg X w w := ⟨rfl, rfl, rfl, Nat.le_refl _, fun _ _ _ _ _ => rfl⟩
theorem Chg.trans {X : SX} {a b c : World} (h : Chg X a b) (k : Chg X b c) : Chg X a c :=
  ⟨k.os.trans h.os, k.tape.trans h.tape, k.output.trans h.output, Nat.le_trans h.size k.size, fun i h1 h2 h3 h4 => (k.block i (Nat.lt_of_lt_of_le h1 h.size) h2 h3 h4).trans (h.block i h1 h2 h3 h4)⟩
theorem Chg.of_below {X : SX} {w w' : World} (h : Below w.heap.size w w') : Chg X w w' := ⟨h.os, h.tape, h.output, h.size, fun b hb _ _ _ => h.block b hb⟩
theorem Chg.of_only {X : SX} {w w' : World} {g : Nat} (h : Only g w w') (hg : g = X.sb ∨ g = X.tb ∨ g = X.cb) : Chg X w w' :=
  ⟨h.os, h.tape, h.output, by rw [h.size]; exact Nat.le_refl _, fun b _ h1 h2 h3 => h.block b (by rintro rfl; rcases hg with h | h | h <;> contradiction)⟩
theorem Chg.below {X : SX} {w w' : World} {B : Nat} (h : Chg X w w') (hB : B ≤ w.heap.size) (h1 : B ≤ X.sb) (h2 : B ≤ X.tb) (h3 : B ≤ X.cb) : Below B w w' :=
  ⟨h.os, h.tape, h.output, h.size, fun k hk => h.block k (by omega) (by omega) (by omega) (by omega)⟩

def SX.D (X : SX) (b : Nat) : Prop := X.lo ≤ b ∧ b < X.hi ∧ b ≠ X.sb ∧ b ≠ X.tb ∧ b ≠ X.cb

/-- What always holds of a system's numbers. -/
structure SysOk (S : Sys) : Prop where
  valid : plantB S.p = true
  spots : SpotsOk S.p S.at_
  safe : safeB S.p S.at_ = true
  tanks : ∀ i, i < S.p.tanks.length → 0 ≤ (S.tank i).content ∧ (S.tank i).content ≤ (S.p.tank i).room ∧ 0 ≤ (S.tank i).gas ∧ (S.tank i).gas ≤ 1073741824 ∧ 0 ≤ (S.tank i).leak ∧ (S.tank i).leak ≤ 1073741824

/-- The system S lies at X. -/
structure SysAt (w : World) (X : SX) (S : Sys) : Prop where
  s : Bk w X.sb 111 (sysA X S)
  t : Bk w X.tb 146 (tanksA S.p.tanks.length S.tank)
  c : Bk w X.cb 3 (carrA S.p.lines.length S.carried)
  g : Bk w X.gb 45 #[.pointer (some ⟨X.sb, 0, none⟩)]
  plant : PlantIn w X.D X.pv S.p
  lo : X.lo ≤ X.sb ∧ X.lo ≤ X.tb ∧ X.lo ≤ X.cb ∧ X.lo ≤ X.gb
  hi : X.sb < X.hi ∧ X.tb < X.hi ∧ X.cb < X.hi ∧ X.gb < X.hi ∧ X.hi ≤ w.heap.size
  ok : SysOk S
theorem SysAt.ne {w : World} {X : SX} {S : Sys} (h : SysAt w X S) : X.sb ≠ X.tb ∧ X.sb ≠ X.cb ∧ X.tb ≠ X.cb ∧ X.gb ≠ X.sb ∧ X.gb ≠ X.tb ∧ X.gb ≠ X.cb := by
  have ne : ∀ {g g' t t' : Nat} {c c' : Array Value}, Bk w g t c → Bk w g' t' c' → t ≠ t' → g ≠ g' := by
    intro g g' t t' c c' h1 h2 hne e
    subst e
    unfold Bk at h1 h2
    rw [h1] at h2
    injection h2 with h2
    injection h2 with _ h3 _
    exact hne h3
  exact ⟨ne h.s h.t (by decide), ne h.s h.c (by decide), ne h.t h.c (by decide), ne h.g h.s (by decide), ne h.g h.t (by decide), ne h.g h.c (by decide)⟩
/-- A call that leaves all of the system's blocks as they were keeps the system. -/
theorem SysAt.keep {w w' : World} {X : SX} {S : Sys} (h : SysAt w X S) (hk : ∀ b, X.lo ≤ b → b < X.hi → w'.heap[b]? = w.heap[b]?) (hs : w.heap.size ≤ w'.heap.size) : SysAt w' X S := by
  obtain ⟨l1, l2, l3, l4⟩ := h.lo
  obtain ⟨h1, h2, h3, h4, h5⟩ := h.hi
  exact ⟨(hk _ l1 h1).trans h.s, (hk _ l2 h2).trans h.t, (hk _ l3 h3).trans h.c, (hk _ l4 h4).trans h.g, h.plant.keep (fun b hb => hk b hb.1 hb.2.1), h.lo, ⟨h1, h2, h3, h4, by omega⟩, h.ok⟩
theorem SysAt.below {w w' : World} {X : SX} {S : Sys} (h : SysAt w X S) (hb : Below w.heap.size w w') : SysAt w' X S :=
  h.keep (fun b _ hh => hb.block b (by have := h.hi.2.2.2.2; omega)) hb.size
theorem SysAt.plantAt {w : World} {X : SX} {S : Sys} (h : SysAt w X S) : PlantAt w w.heap.size X.pv S.p :=
  h.plant.at_ fun b hb => by have := h.hi.2.2.2.2; have := hb.2.1; omega
/-- The same plant, other numbers. -/
theorem SysAt.turn {w w' : World} {X : SX} {S S' : Sys} (h : SysAt w X S) (hc : Chg X w w') (hp : S'.p = S.p) (hs : Bk w' X.sb 111 (sysA X S'))
    (ht : Bk w' X.tb 146 (tanksA S'.p.tanks.length S'.tank)) (hcb : Bk w' X.cb 3 (carrA S'.p.lines.length S'.carried)) (ok : SysOk S') : SysAt w' X S' := by
  obtain ⟨h1, h2, h3, h4, h5⟩ := h.hi
  obtain ⟨_, _, _, n4, n5, n6⟩ := h.ne
  refine ⟨hs, ht, hcb, (hc.block _ (by omega) n4 n5 n6).trans h.g, ?_, h.lo, ⟨h1, h2, h3, h4, by have := hc.size; omega⟩, ok⟩
  rw [hp]
  exact h.plant.keep fun b hb => hc.block b (by have := hb.2.1; omega) hb.2.2.1 hb.2.2.2.1 hb.2.2.2.2
end Go.Proofs.YtogobjmmgjfjjaaGreat
/- What is proved: contracts of slices.Clone at rows of structs. Conditions: the slice lies in memory; it is short. -/
namespace Go.Proofs.YtogobjmmgjfjjaaGreat
open Go.RowKit

/-- The slice (A, n) lies in a block of its own, from block B on. -/
def Cl (w : World) (B : Nat) (T : TypeId) (k : Nat) (A : Option Addr) (n : Nat) (f : Nat → Nat → Value) : Prop :=
  n ≤ 4096 ∧ (0 < n → ∃ g cur, A = some ⟨g, 0, none⟩ ∧ B ≤ g ∧ Bk w g T cur ∧ ∀ i, i < n → ∀ j, j < k → cur[i * k + j]? = some (f i j))
theorem Cl.sl {w : World} {B k n : Nat} {T : TypeId} {A : Option Addr} {f : Nat → Nat → Value} (h : Cl w B T k A n f) : Sl w w.heap.size k A n f :=
  ⟨by have := h.1; omega, fun hn => by
    obtain ⟨g, cur, e, _, hb, hc⟩ := h.2 hn
    exact ⟨g, 0, e, hb.lt, fun i hi j hj => by rw [Nat.zero_add, hb.cell]; exact hc i hi j hj⟩⟩
theorem Cl.below {w w' : World} {B k n : Nat} {T : TypeId} {A : Option Addr} {f : Nat → Nat → Value} (h : Cl w B T k A n f) (hb : Below w.heap.size w w') : Cl w' B T k A n f :=
  ⟨h.1, fun hn => by obtain ⟨g, cur, e, h1, h2, h3⟩ := h.2 hn; exact ⟨g, cur, e, h1, h2.below hb h2.lt, h3⟩⟩
theorem Cl.nil (w : World) (B k : Nat) (T : TypeId) (A : Option Addr) (f : Nat → Nat → Value) : Cl w B T k A 0 f := ⟨by omega, fun h => absurd h (by omega)⟩

/-- The cells of n rows of k cells. -/
def rowsL (n k : Nat) (f : Nat → Nat → Value) : List Value := (List.range (n * k)).map fun m => f (m / k) (m % k)
theorem rowsL_get (n k : Nat) (f : Nat → Nat → Value) (i j : Nat) (hi : i < n) (hj : j < k) : (rowsL n k f)[i * k + j]? = some (f i j) := by
  have hm : i * k + j < n * k := by
    have : (i + 1) * k ≤ n * k := Nat.mul_le_mul_right _ hi
    rw [Nat.add_mul, Nat.one_mul] at this; omega
  unfold rowsL
  rw [List.getElem?_map, List.getElem?_range hm]
  simp only [Option.map_some]
  rw [Nat.mul_comm i k, Nat.mul_add_div (by omega), Nat.div_eq_of_lt hj, Nat.mul_add_mod, Nat.mod_eq_of_lt hj, Nat.add_zero]
theorem rowsL_len (n k : Nat) (f : Nat → Nat → Value) : (rowsL n k f).length = n * k := by simp [rowsL]
theorem rowsL_cell {w : World} {b off n k : Nat} {f : Nat → Nat → Value} (hc : ∀ i, i < n → ∀ j, j < k → w.cell? ⟨b, off + i * k + j, none⟩ = some (f i j)) (m : Nat) (u : Value) (hm : (rowsL n k f)[m]? = some u) : w.cell? ⟨b, off + m, none⟩ = some u := by
  have hl : m < n * k := by have := (List.getElem?_eq_some_iff.1 hm).1; rwa [rowsL_len] at this
  have hk : 0 < k := by rcases Nat.eq_zero_or_pos k with h | h
                        · subst h; simp at hl
                        · exact h
  have hi : m / k < n := (Nat.div_lt_iff_lt_mul hk).2 hl
  have hj : m % k < k := Nat.mod_lt _ hk
  have e : m / k * k + m % k = m := by rw [Nat.mul_comm]; exact Nat.div_add_mod m k
  have h1 := rowsL_get n k f (m / k) (m % k) hi hj
  rw [e] at h1
  rw [h1] at hm
  rw [← hm, ← hc _ hi _ hj, Nat.add_assoc, e]
theorem rowsL_one {n k : Nat} {f : Nat → Nat → Value} (h1 : ∀ i j, (f i j).oneCell' = true) : ∀ u ∈ rowsL n k f, u.oneCell' = true := by
  intro u hu
  unfold rowsL at hu
  obtain ⟨m, _, rfl⟩ := List.mem_map.1 hu
  exact h1 _ _
theorem Cl.of_own {w : World} {B k n : Nat} {T : TypeId} {v : Value} {f : Nat → Nat → Value} (hn : n ≤ 4096) (h : w.ownsRow B T k v n (rowsL n k f)) : ∃ A c, v = .slice A n c ∧ Cl w B T k A n f := by
  rcases h.2 with ⟨rfl, rfl⟩ | ⟨g, cap, cur, rfl, hb, hg, h1, h2, h3, h4⟩
  · exact ⟨none, 0, rfl, Cl.nil _ _ _ _ _ _⟩
  · refine ⟨some ⟨g, 0, none⟩, cap, rfl, hn, fun _ => ⟨g, cur, rfl, hb, hg, fun i hi j hj => ?_⟩⟩
    have := rowsL_get n k f i j hi hj
    rw [← h4, List.getElem?_take] at this
    split at this
    · simpa using this
    · cases this
theorem infoC_Tank : (Tryz.prog.info? 72).map (fun i => (i.zero, i.size, i.bytes)) = some (some (.agg #[.string ByteArray.empty, .int .i64 0, .int .i64 0, .int .i64 0]), 4, 40) := by kernel_rfl
set_option maxRecDepth 100000 in
set_option maxHeartbeats 1000000 in
theorem cloneTank (w : World) (A : Option Addr) (n c : Nat) (f : Nat → Nat → Value) (h : Sl w w.heap.size 4 A n f) (h1 : ∀ i j, (f i j).oneCell' = true) (hn : n ≤ 4096) :
    Calls Tryz.prog 118 #[.slice A n c] w fun e w' => ∃ A' c', e = .returned (.slice A' n c') ∧ Cl w' w.heap.size 72 4 A' n f ∧ Below w.heap.size w w' := by
  cases A with
  | none =>
    have h0 : n = 0 := by
      rcases Nat.eq_zero_or_pos n with h0 | h0
      · exact h0
      · obtain ⟨b, off, e, _⟩ := h.2 h0; cases e
    subst h0
    clear h h1
    have q : ∀ (w : World), (binOp .eql 22 (.slice none 0 c) (.slice none 0 0)).run Tryz.prog w = .ok (.bool true) w := fun w => Lib.run_eql_slice_nil w _ _ none 0 c 0 0 Tryz.underlying22
    go_enter Tryz.func118, Tryz.ntmps118
    go_wp2
    go_ret
    exact ⟨none, 0, rfl, Cl.nil _ _ _ _ _ _, Below.refl _ _⟩
  | some ad =>
    obtain ⟨i0, hi, hz0, hz1, hz2⟩ := info_parts infoC_Tank
    have q : ∀ (w : World), (binOp .eql 22 (.slice (some ad) n c) (.slice none 0 0)).run Tryz.prog w = .ok (.bool false) w := fun w => Lib.run_eql_slice_nil w _ _ (some ad) n c 0 0 Tryz.underlying22
    have hcell : Hid (∀ o j u, (rowsL n 4 f)[j]? = some u → (w.alloc o).cell? (ad.add j) = some u) := Lib.hid fun o j u hj => by
      have hl : j < n * 4 := by have := (List.getElem?_eq_some_iff.1 hj).1; rwa [rowsL_len] at this
      obtain ⟨b, off, e, _, hc⟩ := h.2 (by omega)
      cases e
      rw [Addr.add_lit]
      exact Lib.cell?_alloc_some _ (rowsL_cell hc j u hj)
    have H1 := Lib.hid h1
    clear h h1
    go_enter Tryz.func118, Tryz.ntmps118
    go_wp2_with (at_builtin; refine wpList_append_own _ rfl _ _ 22 rfl w.heap.size 72 i0 (.agg #[.string ByteArray.empty, .int .i64 0, .int .i64 0, .int .i64 0]) 4 40 Tryz.underlying22 hi hz0 hz1 hz2 rfl (by decide) _ _ _ rfl (World.ownsRow_made w #[] 0 (Nat.le_refl _) (Nat.zero_le _) rfl) ad n c (rowsL n 4 f) rfl ?qc1 ?qc2 ?qc3 ?qc4 ?qc5 ?qc6 ?_)
    case qc1 => exact rowsL_len _ _ _
    case qc2 => exact hcell.out _
    case qc3 => exact rowsL_one H1.out
    case qc4 => unfold maxLen; omega
    case qc5 => omega
    case qc6 => simp
    intro v' w1 hown hgrow _
    obtain ⟨A', c', rfl, hcl⟩ := Cl.of_own hn hown
    have hB : Below w.heap.size w w1 := ((Below.refl _ w).alloc (Nat.le_refl _) _).grown hgrow (by simp) (by intro k hk; simp [Value.ownBlock] at hk; omega)
    clear hown hgrow
    have HCL := Lib.hid hcl
    clear hcl
    go_wp2
    go_ret
    exact ⟨A', c', rfl, HCL.out, hB⟩
theorem infoC_Valve : (Tryz.prog.info? 78).map (fun i => (i.zero, i.size, i.bytes)) = some (some (.agg #[.string ByteArray.empty, .int .i64 0, .bool false]), 3, 32) := by kernel_rfl
set_option maxRecDepth 100000 in
set_option maxHeartbeats 1000000 in
theorem cloneValve (w : World) (A : Option Addr) (n c : Nat) (f : Nat → Nat → Value) (h : Sl w w.heap.size 3 A n f) (h1 : ∀ i j, (f i j).oneCell' = true) (hn : n ≤ 4096) :
    Calls Tryz.prog 119 #[.slice A n c] w fun e w' => ∃ A' c', e = .returned (.slice A' n c') ∧ Cl w' w.heap.size 78 3 A' n f ∧ Below w.heap.size w w' := by
  cases A with
  | none =>
    have h0 : n = 0 := by
      rcases Nat.eq_zero_or_pos n with h0 | h0
      · exact h0
      · obtain ⟨b, off, e, _⟩ := h.2 h0; cases e
    subst h0
    clear h h1
    have q : ∀ (w : World), (binOp .eql 23 (.slice none 0 c) (.slice none 0 0)).run Tryz.prog w = .ok (.bool true) w := fun w => Lib.run_eql_slice_nil w _ _ none 0 c 0 0 Tryz.underlying23
    go_enter Tryz.func119, Tryz.ntmps119
    go_wp2
    go_ret
    exact ⟨none, 0, rfl, Cl.nil _ _ _ _ _ _, Below.refl _ _⟩
  | some ad =>
    obtain ⟨i0, hi, hz0, hz1, hz2⟩ := info_parts infoC_Valve
    have q : ∀ (w : World), (binOp .eql 23 (.slice (some ad) n c) (.slice none 0 0)).run Tryz.prog w = .ok (.bool false) w := fun w => Lib.run_eql_slice_nil w _ _ (some ad) n c 0 0 Tryz.underlying23
    have hcell : Hid (∀ o j u, (rowsL n 3 f)[j]? = some u → (w.alloc o).cell? (ad.add j) = some u) := Lib.hid fun o j u hj => by
      have hl : j < n * 3 := by have := (List.getElem?_eq_some_iff.1 hj).1; rwa [rowsL_len] at this
      obtain ⟨b, off, e, _, hc⟩ := h.2 (by omega)
      cases e
      rw [Addr.add_lit]
      exact Lib.cell?_alloc_some _ (rowsL_cell hc j u hj)
    have H1 := Lib.hid h1
    clear h h1
    go_enter Tryz.func119, Tryz.ntmps119
    go_wp2_with (at_builtin; refine wpList_append_own _ rfl _ _ 23 rfl w.heap.size 78 i0 (.agg #[.string ByteArray.empty, .int .i64 0, .bool false]) 3 32 Tryz.underlying23 hi hz0 hz1 hz2 rfl (by decide) _ _ _ rfl (World.ownsRow_made w #[] 0 (Nat.le_refl _) (Nat.zero_le _) rfl) ad n c (rowsL n 3 f) rfl ?qc1 ?qc2 ?qc3 ?qc4 ?qc5 ?qc6 ?_)
    case qc1 => exact rowsL_len _ _ _
    case qc2 => exact hcell.out _
    case qc3 => exact rowsL_one H1.out
    case qc4 => unfold maxLen; omega
    case qc5 => omega
    case qc6 => simp
    intro v' w1 hown hgrow _
    obtain ⟨A', c', rfl, hcl⟩ := Cl.of_own hn hown
    have hB : Below w.heap.size w w1 := ((Below.refl _ w).alloc (Nat.le_refl _) _).grown hgrow (by simp) (by intro k hk; simp [Value.ownBlock] at hk; omega)
    clear hown hgrow
    have HCL := Lib.hid hcl
    clear hcl
    go_wp2
    go_ret
    exact ⟨A', c', rfl, HCL.out, hB⟩
theorem infoC_Line : (Tryz.prog.info? 76).map (fun i => (i.zero, i.size, i.bytes)) = some (some (.agg #[.int .i64 0, .int .i64 0, .int .i64 0, .bool false, .slice none 0 0]), 5, 56) := by kernel_rfl
set_option maxRecDepth 100000 in
set_option maxHeartbeats 1000000 in
theorem cloneLine (w : World) (A : Option Addr) (n c : Nat) (f : Nat → Nat → Value) (h : Sl w w.heap.size 5 A n f) (h1 : ∀ i j, (f i j).oneCell' = true) (hn : n ≤ 4096) :
    Calls Tryz.prog 120 #[.slice A n c] w fun e w' => ∃ A' c', e = .returned (.slice A' n c') ∧ Cl w' w.heap.size 76 5 A' n f ∧ Below w.heap.size w w' := by
  cases A with
  | none =>
    have h0 : n = 0 := by
      rcases Nat.eq_zero_or_pos n with h0 | h0
      · exact h0
      · obtain ⟨b, off, e, _⟩ := h.2 h0; cases e
    subst h0
    clear h h1
    have q : ∀ (w : World), (binOp .eql 24 (.slice none 0 c) (.slice none 0 0)).run Tryz.prog w = .ok (.bool true) w := fun w => Lib.run_eql_slice_nil w _ _ none 0 c 0 0 Tryz.underlying24
    go_enter Tryz.func120, Tryz.ntmps120
    go_wp2
    go_ret
    exact ⟨none, 0, rfl, Cl.nil _ _ _ _ _ _, Below.refl _ _⟩
  | some ad =>
    obtain ⟨i0, hi, hz0, hz1, hz2⟩ := info_parts infoC_Line
    have q : ∀ (w : World), (binOp .eql 24 (.slice (some ad) n c) (.slice none 0 0)).run Tryz.prog w = .ok (.bool false) w := fun w => Lib.run_eql_slice_nil w _ _ (some ad) n c 0 0 Tryz.underlying24
    have hcell : Hid (∀ o j u, (rowsL n 5 f)[j]? = some u → (w.alloc o).cell? (ad.add j) = some u) := Lib.hid fun o j u hj => by
      have hl : j < n * 5 := by have := (List.getElem?_eq_some_iff.1 hj).1; rwa [rowsL_len] at this
      obtain ⟨b, off, e, _, hc⟩ := h.2 (by omega)
      cases e
      rw [Addr.add_lit]
      exact Lib.cell?_alloc_some _ (rowsL_cell hc j u hj)
    have H1 := Lib.hid h1
    clear h h1
    go_enter Tryz.func120, Tryz.ntmps120
    go_wp2_with (at_builtin; refine wpList_append_own _ rfl _ _ 24 rfl w.heap.size 76 i0 (.agg #[.int .i64 0, .int .i64 0, .int .i64 0, .bool false, .slice none 0 0]) 5 56 Tryz.underlying24 hi hz0 hz1 hz2 rfl (by decide) _ _ _ rfl (World.ownsRow_made w #[] 0 (Nat.le_refl _) (Nat.zero_le _) rfl) ad n c (rowsL n 5 f) rfl ?qc1 ?qc2 ?qc3 ?qc4 ?qc5 ?qc6 ?_)
    case qc1 => exact rowsL_len _ _ _
    case qc2 => exact hcell.out _
    case qc3 => exact rowsL_one H1.out
    case qc4 => unfold maxLen; omega
    case qc5 => omega
    case qc6 => simp
    intro v' w1 hown hgrow _
    obtain ⟨A', c', rfl, hcl⟩ := Cl.of_own hn hown
    have hB : Below w.heap.size w w1 := ((Below.refl _ w).alloc (Nat.le_refl _) _).grown hgrow (by simp) (by intro k hk; simp [Value.ownBlock] at hk; omega)
    clear hown hgrow
    have HCL := Lib.hid hcl
    clear hcl
    go_wp2
    go_ret
    exact ⟨A', c', rfl, HCL.out, hB⟩
theorem infoC_Lits : (Tryz.prog.info? 28).map (fun i => (i.zero, i.size, i.bytes)) = some (some (.slice none 0 0), 1, 24) := by kernel_rfl
set_option maxRecDepth 100000 in
set_option maxHeartbeats 1000000 in
theorem cloneLits (w : World) (A : Option Addr) (n c : Nat) (f : Nat → Nat → Value) (h : Sl w w.heap.size 1 A n f) (h1 : ∀ i j, (f i j).oneCell' = true) (hn : n ≤ 4096) :
    Calls Tryz.prog 121 #[.slice A n c] w fun e w' => ∃ A' c', e = .returned (.slice A' n c') ∧ Cl w' w.heap.size 28 1 A' n f ∧ Below w.heap.size w w' := by
  cases A with
  | none =>
    have h0 : n = 0 := by
      rcases Nat.eq_zero_or_pos n with h0 | h0
      · exact h0
      · obtain ⟨b, off, e, _⟩ := h.2 h0; cases e
    subst h0
    clear h h1
    have q : ∀ (w : World), (binOp .eql 25 (.slice none 0 c) (.slice none 0 0)).run Tryz.prog w = .ok (.bool true) w := fun w => Lib.run_eql_slice_nil w _ _ none 0 c 0 0 Tryz.underlying25
    go_enter Tryz.func121, Tryz.ntmps121
    go_wp2
    go_ret
    exact ⟨none, 0, rfl, Cl.nil _ _ _ _ _ _, Below.refl _ _⟩
  | some ad =>
    obtain ⟨i0, hi, hz0, hz1, hz2⟩ := info_parts infoC_Lits
    have q : ∀ (w : World), (binOp .eql 25 (.slice (some ad) n c) (.slice none 0 0)).run Tryz.prog w = .ok (.bool false) w := fun w => Lib.run_eql_slice_nil w _ _ (some ad) n c 0 0 Tryz.underlying25
    have hcell : Hid (∀ o j u, (rowsL n 1 f)[j]? = some u → (w.alloc o).cell? (ad.add j) = some u) := Lib.hid fun o j u hj => by
      have hl : j < n * 1 := by have := (List.getElem?_eq_some_iff.1 hj).1; rwa [rowsL_len] at this
      obtain ⟨b, off, e, _, hc⟩ := h.2 (by omega)
      cases e
      rw [Addr.add_lit]
      exact Lib.cell?_alloc_some _ (rowsL_cell hc j u hj)
    have H1 := Lib.hid h1
    clear h h1
    go_enter Tryz.func121, Tryz.ntmps121
    go_wp2_with (at_builtin; refine wpList_append_own _ rfl _ _ 25 rfl w.heap.size 28 i0 (.slice none 0 0) 1 24 Tryz.underlying25 hi hz0 hz1 hz2 rfl (by decide) _ _ _ rfl (World.ownsRow_made w #[] 0 (Nat.le_refl _) (Nat.zero_le _) rfl) ad n c (rowsL n 1 f) rfl ?qc1 ?qc2 ?qc3 ?qc4 ?qc5 ?qc6 ?_)
    case qc1 => exact rowsL_len _ _ _
    case qc2 => exact hcell.out _
    case qc3 => exact rowsL_one H1.out
    case qc4 => unfold maxLen; omega
    case qc5 => omega
    case qc6 => simp
    intro v' w1 hown hgrow _
    obtain ⟨A', c', rfl, hcl⟩ := Cl.of_own hn hown
    have hB : Below w.heap.size w w1 := ((Below.refl _ w).alloc (Nat.le_refl _) _).grown hgrow (by simp) (by intro k hk; simp [Value.ownBlock] at hk; omega)
    clear hown hgrow
    have HCL := Lib.hid hcl
    clear hcl
    go_wp2
    go_ret
    exact ⟨A', c', rfl, HCL.out, hB⟩
theorem infoC_Int : (Tryz.prog.info? 3).map (fun i => (i.zero, i.size, i.bytes)) = some (some (.int .i64 0), 1, 8) := by kernel_rfl
set_option maxRecDepth 100000 in
set_option maxHeartbeats 1000000 in
theorem cloneInt (w : World) (A : Option Addr) (n c : Nat) (f : Nat → Nat → Value) (h : Sl w w.heap.size 1 A n f) (h1 : ∀ i j, (f i j).oneCell' = true) (hn : n ≤ 4096) :
    Calls Tryz.prog 91 #[.slice A n c] w fun e w' => ∃ A' c', e = .returned (.slice A' n c') ∧ Cl w' w.heap.size 3 1 A' n f ∧ Below w.heap.size w w' := by
  cases A with
  | none =>
    have h0 : n = 0 := by
      rcases Nat.eq_zero_or_pos n with h0 | h0
      · exact h0
      · obtain ⟨b, off, e, _⟩ := h.2 h0; cases e
    subst h0
    clear h h1
    have q : ∀ (w : World), (binOp .eql 50 (.slice none 0 c) (.slice none 0 0)).run Tryz.prog w = .ok (.bool true) w := fun w => Lib.run_eql_slice_nil w _ _ none 0 c 0 0 Tryz.underlying50
    go_enter Tryz.func91, Tryz.ntmps91
    go_wp2
    go_ret
    exact ⟨none, 0, rfl, Cl.nil _ _ _ _ _ _, Below.refl _ _⟩
  | some ad =>
    obtain ⟨i0, hi, hz0, hz1, hz2⟩ := info_parts infoC_Int
    have q : ∀ (w : World), (binOp .eql 50 (.slice (some ad) n c) (.slice none 0 0)).run Tryz.prog w = .ok (.bool false) w := fun w => Lib.run_eql_slice_nil w _ _ (some ad) n c 0 0 Tryz.underlying50
    have hcell : Hid (∀ o j u, (rowsL n 1 f)[j]? = some u → (w.alloc o).cell? (ad.add j) = some u) := Lib.hid fun o j u hj => by
      have hl : j < n * 1 := by have := (List.getElem?_eq_some_iff.1 hj).1; rwa [rowsL_len] at this
      obtain ⟨b, off, e, _, hc⟩ := h.2 (by omega)
      cases e
      rw [Addr.add_lit]
      exact Lib.cell?_alloc_some _ (rowsL_cell hc j u hj)
    have H1 := Lib.hid h1
    clear h h1
    go_enter Tryz.func91, Tryz.ntmps91
    go_wp2_with (at_builtin; refine wpList_append_own _ rfl _ _ 50 rfl w.heap.size 3 i0 (.int .i64 0) 1 8 Tryz.underlying50 hi hz0 hz1 hz2 rfl (by decide) _ _ _ rfl (World.ownsRow_made w #[] 0 (Nat.le_refl _) (Nat.zero_le _) rfl) ad n c (rowsL n 1 f) rfl ?qc1 ?qc2 ?qc3 ?qc4 ?qc5 ?qc6 ?_)
    case qc1 => exact rowsL_len _ _ _
    case qc2 => exact hcell.out _
    case qc3 => exact rowsL_one H1.out
    case qc4 => unfold maxLen; omega
    case qc5 => omega
    case qc6 => simp
    intro v' w1 hown hgrow _
    obtain ⟨A', c', rfl, hcl⟩ := Cl.of_own hn hown
    have hB : Below w.heap.size w w1 := ((Below.refl _ w).alloc (Nat.le_refl _) _).grown hgrow (by simp) (by intro k hk; simp [Value.ownBlock] at hk; omega)
    clear hown hgrow
    have HCL := Lib.hid hcl
    clear hcl
    go_wp2
    go_ret
    exact ⟨A', c', rfl, HCL.out, hB⟩
theorem infoC_Lit : (Tryz.prog.info? 79).map (fun i => (i.zero, i.size, i.bytes)) = some (some (.agg #[.int .i64 0, .bool false]), 2, 16) := by kernel_rfl
set_option maxRecDepth 100000 in
set_option maxHeartbeats 1000000 in
theorem cloneLit (w : World) (A : Option Addr) (n c : Nat) (f : Nat → Nat → Value) (h : Sl w w.heap.size 2 A n f) (h1 : ∀ i j, (f i j).oneCell' = true) (hn : n ≤ 4096) :
    Calls Tryz.prog 122 #[.slice A n c] w fun e w' => ∃ A' c', e = .returned (.slice A' n c') ∧ Cl w' w.heap.size 79 2 A' n f ∧ Below w.heap.size w w' := by
  cases A with
  | none =>
    have h0 : n = 0 := by
      rcases Nat.eq_zero_or_pos n with h0 | h0
      · exact h0
      · obtain ⟨b, off, e, _⟩ := h.2 h0; cases e
    subst h0
    clear h h1
    have q : ∀ (w : World), (binOp .eql 28 (.slice none 0 c) (.slice none 0 0)).run Tryz.prog w = .ok (.bool true) w := fun w => Lib.run_eql_slice_nil w _ _ none 0 c 0 0 Tryz.underlying28
    go_enter Tryz.func122, Tryz.ntmps122
    go_wp2
    go_ret
    exact ⟨none, 0, rfl, Cl.nil _ _ _ _ _ _, Below.refl _ _⟩
  | some ad =>
    obtain ⟨i0, hi, hz0, hz1, hz2⟩ := info_parts infoC_Lit
    have q : ∀ (w : World), (binOp .eql 28 (.slice (some ad) n c) (.slice none 0 0)).run Tryz.prog w = .ok (.bool false) w := fun w => Lib.run_eql_slice_nil w _ _ (some ad) n c 0 0 Tryz.underlying28
    have hcell : Hid (∀ o j u, (rowsL n 2 f)[j]? = some u → (w.alloc o).cell? (ad.add j) = some u) := Lib.hid fun o j u hj => by
      have hl : j < n * 2 := by have := (List.getElem?_eq_some_iff.1 hj).1; rwa [rowsL_len] at this
      obtain ⟨b, off, e, _, hc⟩ := h.2 (by omega)
      cases e
      rw [Addr.add_lit]
      exact Lib.cell?_alloc_some _ (rowsL_cell hc j u hj)
    have H1 := Lib.hid h1
    clear h h1
    go_enter Tryz.func122, Tryz.ntmps122
    go_wp2_with (at_builtin; refine wpList_append_own _ rfl _ _ 28 rfl w.heap.size 79 i0 (.agg #[.int .i64 0, .bool false]) 2 16 Tryz.underlying28 hi hz0 hz1 hz2 rfl (by decide) _ _ _ rfl (World.ownsRow_made w #[] 0 (Nat.le_refl _) (Nat.zero_le _) rfl) ad n c (rowsL n 2 f) rfl ?qc1 ?qc2 ?qc3 ?qc4 ?qc5 ?qc6 ?_)
    case qc1 => exact rowsL_len _ _ _
    case qc2 => exact hcell.out _
    case qc3 => exact rowsL_one H1.out
    case qc4 => unfold maxLen; omega
    case qc5 => omega
    case qc6 => simp
    intro v' w1 hown hgrow _
    obtain ⟨A', c', rfl, hcl⟩ := Cl.of_own hn hown
    have hB : Below w.heap.size w w1 := ((Below.refl _ w).alloc (Nat.le_refl _) _).grown hgrow (by simp) (by intro k hk; simp [Value.ownBlock] at hk; omega)
    clear hown hgrow
    have HCL := Lib.hid hcl
    clear hcl
    go_wp2
    go_ret
    exact ⟨A', c', rfl, HCL.out, hB⟩
end Go.Proofs.YtogobjmmgjfjjaaGreat
/- What is proved: contracts of the small methods of engine.System: is, valves, vessels, has. Conditions: the system lies in memory. -/
namespace Go.Proofs.YtogobjmmgjfjjaaGreat
open Go.RowKit

structure SysCells (w : World) (X : SX) (S : Sys) : Prop where
  c0 : w.cell? ⟨X.sb, 0, none⟩ = some (.slice X.pv.tA S.p.tanks.length X.pv.tc)
  c1 : w.cell? ⟨X.sb, 1, none⟩ = some (.slice X.pv.vA S.p.valves.length X.pv.vc)
  c2 : w.cell? ⟨X.sb, 2, none⟩ = some (.slice X.pv.lA S.p.lines.length X.pv.lc)
  c3 : w.cell? ⟨X.sb, 3, none⟩ = some (.slice X.pv.nA S.p.never.length X.pv.nc)
  c40 : w.cell? ⟨X.sb, 40, none⟩ = some (.slice (some ⟨X.tb, 0, none⟩) S.p.tanks.length S.p.tanks.length)
  c41 : w.cell? ⟨X.sb, 41, none⟩ = some (.slice (some ⟨X.cb, 0, none⟩) S.p.lines.length S.p.lines.length)
  c46 : w.cell? ⟨X.sb, 46, none⟩ = some (.bool true)
theorem SysAt.cells {w : World} {X : SX} {S : Sys} (h : SysAt w X S) : SysCells w X S :=
  ⟨(h.s.cell 0).trans (sysA_plant X S 0 _ rfl), (h.s.cell 1).trans (sysA_plant X S 1 _ rfl), (h.s.cell 2).trans (sysA_plant X S 2 _ rfl), (h.s.cell 3).trans (sysA_plant X S 3 _ rfl),
   (h.s.cell 40).trans (sysA_rest X S 0), (h.s.cell 41).trans (sysA_rest X S 1), (h.s.cell 46).trans (sysA_rest X S 6)⟩
theorem SysAt.lens {w : World} {X : SX} {S : Sys} (h : SysAt w X S) : 1 ≤ S.p.tanks.length ∧ S.p.tanks.length ≤ 16 ∧ 1 ≤ S.p.valves.length ∧ S.p.valves.length ≤ 12 ∧ S.p.lines.length ≤ 32 := by
  have hv := h.ok.valid
  unfold plantB tankedB valvedB linedB apartB at hv
  simp only [Bool.and_eq_true, decide_eq_true_eq] at hv
  obtain ⟨⟨⟨⟨⟨⟨⟨_, h1⟩, _⟩, ⟨⟨_, h2⟩, _⟩⟩, ⟨h3, _⟩⟩, _⟩, _⟩, _⟩ := hv
  unfold inB at h1 h2
  simp at h1 h2
  omega

set_option maxHeartbeats 400000 in
theorem is_any (w : World) (X : SX) (S : Sys) (h : SysAt w X S) : Calls Tryz.prog 84 #[.pointer (some ⟨X.sb, 0, none⟩)] w fun e w' => e = .returned (.bool true) ∧ w = w' := by
  have c := h.cells.c46
  clear h
  go_enter Tryz.func84, Tryz.ntmps84
  go_wp2
  go_ret
  exact ⟨rfl, rfl⟩
set_option maxHeartbeats 400000 in
theorem valves_any (w : World) (X : SX) (S : Sys) (h : SysAt w X S) : Calls Tryz.prog 108 #[.pointer (some ⟨X.sb, 0, none⟩)] w fun e w' => e = .returned (.int .i64 S.p.valves.length) ∧ w = w' := by
  have c := h.cells.c1
  clear h
  go_enter Tryz.func108, Tryz.ntmps108
  go_wp2
  go_ret
  exact ⟨rfl, rfl⟩
set_option maxHeartbeats 400000 in
theorem vessels_any (w : World) (X : SX) (S : Sys) (h : SysAt w X S) : Calls Tryz.prog 109 #[.pointer (some ⟨X.sb, 0, none⟩)] w fun e w' => e = .returned (.int .i64 S.p.tanks.length) ∧ w = w' := by
  have c := h.cells.c40
  clear h
  go_enter Tryz.func109, Tryz.ntmps109
  go_wp2
  go_ret
  exact ⟨rfl, rfl⟩

/-- Why a part cannot be meant: there are n. -/
def hasE (i : Int) (n : Nat) : Int := if inB i 0 (n - 1) then 0 else 7
set_option maxHeartbeats 800000 in
theorem has_any (w : World) (X : SX) (S : Sys) (h : SysAt w X S) (i : Int) (n g : Nat) (hn : n ≤ 100) (eg : ∀ args w, (callFunc g args).run Tryz.prog w = .ok (.enter g args) w)
    (hg : Calls Tryz.prog g #[.pointer (some ⟨X.sb, 0, none⟩)] w fun e w' => e = .returned (.int .i64 n) ∧ w = w') :
    Calls Tryz.prog 107 #[.pointer (some ⟨X.sb, 0, none⟩), .int .i64 i, .func (.func g) #[.pointer (some ⟨X.sb, 0, none⟩)] #[]] w fun e w' => e = .returned (.int .i64 (hasE i n)) ∧ w = w' := by
  have HI := Lib.hid (is_any w X S h)
  have HG := Lib.hid hg
  have HE := Lib.hid (show hasE i n = if inB i 0 (n - 1) then 0 else 7 from rfl)
  clear h hg
  cases hq : inB i 0 (n - 1)
  all_goals
    go_enter Tryz.func107, Tryz.ntmps107
    go_wp2_with fail
    refine HI.out.mono ?_
    rintro e w' ⟨rfl, rfl⟩
    go_wp2_with fail
    refine HG.out.mono ?_
    rintro e w' ⟨rfl, rfl⟩
    go_wp2_with (go_at_call 69; refine (within_any _ _ _ _).mono ?_; rintro e w' ⟨rfl, rfl⟩)
    go_ret
    exact ⟨ret_int (by rw [HE.out, hq]; simp), rfl⟩
theorem hasValve_any (w : World) (X : SX) (S : Sys) (h : SysAt w X S) (i : Int) :
    Calls Tryz.prog 107 #[.pointer (some ⟨X.sb, 0, none⟩), .int .i64 i, .func (.func 108) #[.pointer (some ⟨X.sb, 0, none⟩)] #[]] w fun e w' => e = .returned (.int .i64 (hasE i S.p.valves.length)) ∧ w = w' :=
  has_any w X S h i _ _ (by have := h.lens; omega) (fun args w => by kernel_rfl) (valves_any w X S h)
theorem hasTank_any (w : World) (X : SX) (S : Sys) (h : SysAt w X S) (i : Int) :
    Calls Tryz.prog 107 #[.pointer (some ⟨X.sb, 0, none⟩), .int .i64 i, .func (.func 109) #[.pointer (some ⟨X.sb, 0, none⟩)] #[]] w fun e w' => e = .returned (.int .i64 (hasE i S.p.tanks.length)) ∧ w = w' :=
  has_any w X S h i _ _ (by have := h.lens; omega) (fun args w => by kernel_rfl) (vessels_any w X S h)
end Go.Proofs.YtogobjmmgjfjjaaGreat
/- What is proved: contracts of Put, Leak, Stick of engine.System. Conditions: the system lies in memory. -/
namespace Go.Proofs.YtogobjmmgjfjjaaGreat
open Go.RowKit

def Sys.setT (S : Sys) (i : Nat) (t : TankS) : Sys := { S with tank := fun k => if k = i then t else S.tank k }
def putB (S : Sys) (t c g : Int) : Int × Sys :=
  if inB t 0 (S.p.tanks.length - 1) then
    if inB c 0 (S.p.tank t.toNat).room && inB g 0 1073741824 then (0, S.setT t.toNat { S.tank t.toNat with content := c, gas := g }) else (4, S)
  else (7, S)
theorem SysOk.setT {S : Sys} (h : SysOk S) (i : Nat) (t : TankS) (ht : 0 ≤ t.content ∧ t.content ≤ (S.p.tank i).room ∧ 0 ≤ t.gas ∧ t.gas ≤ 1073741824 ∧ 0 ≤ t.leak ∧ t.leak ≤ 1073741824) : SysOk (S.setT i t) := by
  refine ⟨h.valid, h.spots, h.safe, fun k hk => ?_⟩
  unfold Sys.setT
  by_cases e : k = i
  · subst e; simpa using ht
  · simpa [e] using h.tanks k hk
theorem inB_iff {n a b : Int} : inB n a b = true ↔ a ≤ n ∧ n ≤ b := by unfold inB; rw [Bool.and_eq_true, decide_eq_true_eq, decide_eq_true_eq]

end Go.Proofs.YtogobjmmgjfjjaaGreat
/- What is proved: a contract of Put of engine.System. Conditions: the system lies in memory. -/
namespace Go.Proofs.YtogobjmmgjfjjaaGreat
open Go.RowKit

set_option maxRecDepth 100000 in
set_option maxHeartbeats 2000000 in
theorem put_any (w : World) (X : SX) (S : Sys) (h : SysAt w X S) (t c g : Int) :
    Calls Tryz.prog 40 #[.pointer (some ⟨X.sb, 0, none⟩), .int .i64 t, .int .i64 c, .int .i64 g] w fun e w' => e = .returned (.int .i64 (putB S t c g).1) ∧ SysAt w' X (putB S t c g).2 ∧ Chg X w w' := by
  have HH := Lib.hid (hasTank_any w X S h t)
  have h0 := Lib.hid h
  have hl := h.lens
  by_cases h1 : inB t 0 (S.p.tanks.length - 1) = true
  · obtain ⟨g1, g2⟩ := inB_iff.1 h1
    obtain ⟨i, rfl⟩ := Int.eq_ofNat_of_zero_le g1
    have hi : i < S.p.tanks.length := by omega
    have hii : (i : Int) < (S.p.tanks.length : Int) := by omega
    have c40 := h.cells.c40
    have c0 := h.cells.c0
    have He : hasE i S.p.tanks.length = 0 := by unfold hasE; rw [h1]; rfl
    rw [He] at HH
    obtain ⟨b, off, hA, hB, _, d1, _, _⟩ := h.plantAt.tanks.at4 hi
    simp only [tankC] at d1
    rw [hA] at c0
    have hc : w.cell? ⟨X.tb, i * 5, none⟩ = some (.int .i64 (S.tank i).content) := (h.t.cell (i * 5 + 0)).trans (tanksA_get _ _ _ _ hi (by omega))
    have hg : w.cell? ⟨X.tb, i * 5 + 1, none⟩ = some (.int .i64 (S.tank i).gas) := (h.t.cell (i * 5 + 1)).trans (tanksA_get _ _ _ _ hi (by omega))
    have hf := h.t.free (i * 5)
    have hf1 := h.t.free (i * 5 + 1)
    have hput := Lib.hid (show putB S i c g = if inB c 0 (S.p.tank i).room && inB g 0 1073741824 then (0, S.setT i { S.tank i with content := c, gas := g }) else (4, S) by unfold putB; rw [if_pos h1, Int.toNat_natCast])
    clear h He h1 hA
    cases h2 : inB c 0 (S.p.tank i).room with
    | false =>
      go_enter Tryz.func40, Tryz.ntmps40
      go_wp2_with (first | (go_at_call 107; refine HH.out.mono ?_; rintro e w' ⟨rfl, rfl⟩) | (go_at_call 69; refine (within_any _ _ _ _).mono ?_; rintro e w' ⟨rfl, rfl⟩))
      go_ret
      rw [hput.out, h2]
      exact ⟨rfl, h0.out, Chg.refl _ _⟩
    | true =>
    cases h3 : inB g 0 1073741824 with
    | false =>
      go_enter Tryz.func40, Tryz.ntmps40
      go_wp2_with (first | (go_at_call 107; refine HH.out.mono ?_; rintro e w' ⟨rfl, rfl⟩) | (go_at_call 69; refine (within_any _ _ _ _).mono ?_; rintro e w' ⟨rfl, rfl⟩))
      go_ret
      rw [hput.out, h2, h3]
      exact ⟨rfl, h0.out, Chg.refl _ _⟩
    | true =>
      go_enter Tryz.func40, Tryz.ntmps40
      go_wp2_with (first | (go_at_call 107; refine HH.out.mono ?_; rintro e w' ⟨rfl, rfl⟩) | (go_at_call 69; refine (within_any _ _ _ _).mono ?_; rintro e w' ⟨rfl, rfl⟩))
      go_region
      go_wp2
      go_ret
      rw [hput.out, h2, h3]
      obtain ⟨e1, e2⟩ := inB_iff.1 h2
      obtain ⟨e3, e4⟩ := inB_iff.1 h3
      have ho := (Only.setCell w X.tb (i * 5) (.int .i64 c)).trans (Only.setCell _ X.tb (i * 5 + 1) (.int .i64 g))
      have ho' : Only X.tb w ((w.setCell ⟨X.tb, i * 5, none⟩ (.int .i64 c)).setCell ⟨X.tb, i * 5 + 1, none⟩ (.int .i64 g)).drew := ⟨ho.os, ho.tape, ho.output, ho.size, ho.block⟩
      obtain ⟨n1, n2, n3, _, _, _⟩ := h0.out.ne
      refine ⟨rfl, h0.out.turn (Chg.of_only ho' (by simp)) rfl (h0.out.s.only ho' n1) ?_ (h0.out.c.only ho' (Ne.symm n3)) (h0.out.ok.setT i _ ?_), Chg.of_only ho' (by simp)⟩
      · have := (h0.out.t.set (i * 5 + 0) (.int .i64 c)).set (i * 5 + 1) (.int .i64 g)
        rw [tanksA_set _ _ _ _ hi (by omega), tanksA_set _ _ _ _ hi (by omega)] at this
        refine Eq.trans this ?_
        congr 3
        funext k
        by_cases e : k = i
        · subst e; simp [Sys.setT, setTank]
        · simp [Sys.setT, e]
      · have := h0.out.ok.tanks i hi; exact ⟨e1, e2, e3, e4, this.2.2.2.2.1, this.2.2.2.2.2⟩
  · have He : hasE t S.p.tanks.length = 7 := by unfold hasE; rw [if_neg h1]
    rw [He] at HH
    have Hf := Lib.hid (show putB S t c g = (7, S) by unfold putB; rw [if_neg h1])
    clear h1 h He
    go_enter Tryz.func40, Tryz.ntmps40
    go_wp2_with (first | (go_at_call 107; refine HH.out.mono ?_; rintro e w' ⟨rfl, rfl⟩))
    go_ret
    rw [Hf.out]
    exact ⟨rfl, h0.out, Chg.refl _ _⟩
end Go.Proofs.YtogobjmmgjfjjaaGreat
/- What is proved: a contract of Order of engine.System. Conditions: the system lies in memory. -/
namespace Go.Proofs.YtogobjmmgjfjjaaGreat
open Go.RowKit

def orderB (S : Sys) (v : Int) (o : Bool) : Int × Sys :=
  if inB v 0 (S.p.valves.length - 1) then
    if safeB S.p (wantB S.at_ v.toNat o) then (0, { S with at_ := wantB S.at_ v.toNat o }) else (9, S)
  else (7, S)

theorem SysAt.valves {w : World} {X : SX} {S : Sys} (h : SysAt w X S) : ValvesOk S.p := by
  have hv := h.ok.valid
  unfold plantB at hv
  simp only [Bool.and_eq_true] at hv
  exact valvesOk_of _ hv.1.1.1.1.2
theorem SysAt.never {w : World} {X : SX} {S : Sys} (h : SysAt w X S) : NeverOk S.p := by
  have hv := h.ok.valid
  unfold plantB at hv
  simp only [Bool.and_eq_true] at hv
  exact neverOk_of _ hv.1.2
theorem SysAt.loadPlant {w : World} {X : SX} {S : Sys} (h : SysAt w X S) : ∀ j u, (plantA X.pv S.p)[j]? = some u → w.cell? ⟨X.sb, 0 + j, none⟩ = some u := fun j u hj => by
  rw [h.s.cell, Nat.zero_add]; exact sysA_plant X S j u hj
theorem SysAt.loadSpots {w : World} {X : SX} {S : Sys} (h : SysAt w X S) : ∀ j u, (spotsA S.at_)[j]? = some u → w.cell? ⟨X.sb, 4 + j, none⟩ = some u := fun j u hj => by
  rw [h.s.cell]; exact sysA_spots X S j u hj

set_option maxRecDepth 100000 in
set_option maxHeartbeats 2000000 in
theorem sysOrder_any (w : World) (X : SX) (S : Sys) (h : SysAt w X S) (v : Int) (o : Bool) :
    Calls Tryz.prog 41 #[.pointer (some ⟨X.sb, 0, none⟩), .agg #[.int .i64 v, .bool o]] w fun e w' => e = .returned (.int .i64 (orderB S v o).1) ∧ SysAt w' X (orderB S v o).2 ∧ Chg X w w' := by
  have hb0 : ∀ ob, Below w.heap.size w (w.alloc ob) := fun ob => (Below.refl _ _).alloc (Nat.le_refl _) _
  have HH := Lib.hid fun ob => hasValve_any (w.alloc ob) X S (h.below (hb0 ob)) v
  have h0 := Lib.hid h
  by_cases h1 : inB v 0 (S.p.valves.length - 1) = true
  case neg =>
    have He : hasE v S.p.valves.length = 7 := by unfold hasE; rw [if_neg h1]
    rw [He] at HH
    have Hf := Lib.hid (show orderB S v o = (7, S) by unfold orderB; rw [if_neg h1])
    clear h1 h He
    go_enter Tryz.func41, Tryz.ntmps41
    go_wp2_with (first | (go_at_call 107; refine (HH.out _).mono ?_; rintro e w' ⟨rfl, rfl⟩))
    go_ret
    rw [Hf.out]
    exact ⟨rfl, h0.out.below (hb0 _), Chg.of_below (hb0 _)⟩
  case pos =>
  obtain ⟨g1, g2⟩ := inB_iff.1 h1
  obtain ⟨n, rfl⟩ := Int.eq_ofNat_of_zero_le g1
  have hn : n < S.p.valves.length := by omega
  have He : hasE n S.p.valves.length = 0 := by unfold hasE; rw [h1]; rfl
  rw [He] at HH
  have Hf := Lib.hid (show orderB S n o = if safeB S.p (wantB S.at_ n o) then (0, { S with at_ := wantB S.at_ n o }) else (9, S) by unfold orderB; rw [if_pos h1, Int.toNat_natCast])
  clear He h1 g1 g2
  go_enter Tryz.func41, Tryz.ntmps41
  go_wp2_with (first | (go_at_call 107; refine (HH.out _).mono ?_; rintro e w' ⟨rfl, rfl⟩))
  obtain ⟨W, hW⟩ : ∃ W, W = w.alloc (.cells #[.int .i64 n, .bool o] 38) := ⟨_, rfl⟩
  have hWs : W.heap.size = w.heap.size + 1 := by rw [hW]; simp
  have hbW : Below w.heap.size w W := by rw [hW]; exact hb0 _
  have hob : Bk W w.heap.size 38 #[.int .i64 n, .bool o] := by rw [hW]; exact Bk.new _ _ _
  rw [← hW]
  clear hW
  have hSW := h.below hbW
  have hok : SpotsOk S.p (wantB S.at_ n o) := wantB_ok h.ok.spots hn o
  refine wp_region_steps (by kernel_rfl) (by kernel_rfl) (fun w1 => Below W.heap.size W w1)
    (fun j w1 w2 => (j ≠ 14 → Below w1.heap.size w1 w2) ∧ ∀ (g : Nat) (cs : Array Value), cs.size = 24 → Bk w1 g 105 cs → ∃ cs', cs'.size = 24 ∧ Bk w2 g 105 cs')
    (fun i u d w1 => (match i with
      | 0 | 1 | 2 | 4 | 5 => u = .pointer (some ⟨X.sb, 0, none⟩)
      | 6 => u = .pointer (some ⟨X.sb, 4, none⟩)
      | 3 => u = .agg (plantA X.pv S.p)
      | 7 => u = .agg (spotsA S.at_)
      | 8 => u = .agg #[.int .i64 n, .bool o]
      | 9 | 10 => u = .tuple #[.agg (spotsA (wantB S.at_ n o)), .bool (safeB S.p (wantB S.at_ n o))]
      | 11 => u = .agg (spotsA (wantB S.at_ n o))
      | 12 | 15 => u = .bool (safeB S.p (wantB S.at_ n o))
      | _ => True) ∧ (i = 13 → ∃ g, u = .pointer (some ⟨g, 0, none⟩) ∧ W.heap.size ≤ g ∧ ∃ cs, cs.size = 24 ∧ Bk w1 g 105 cs) ∧
      (i = 14 → ∃ g, d 13 = .pointer (some ⟨g, 0, none⟩) ∧ W.heap.size ≤ g ∧ Bk w1 g 105 (spotsA (wantB S.at_ n o)))) (Below.refl _ _).drew ?_ ?_ ?_
  · rintro i j hij _ u d w1 w2 ⟨hr1, hr2, hr3⟩ hJ ⟨hE1, hE2⟩
    refine ⟨hr1, fun e => ?_, fun e => ?_⟩
    · obtain ⟨g, e1, e2, cs, e3, e4⟩ := hr2 e; exact ⟨g, e1, e2, hE2 g cs e3 e4⟩
    · obtain ⟨g, e1, e2, e3⟩ := hr3 e; exact ⟨g, e1, e2, e3.below (hE1 fun h => hij (e.trans h.symm)) e3.lt⟩
  · have HS := Lib.hid fun (w1 : World) (hw1 : Below W.heap.size W w1) => hSW.below hw1
    have HO := Lib.hid fun (w1 : World) (hw1 : Below W.heap.size W w1) => hob.below hw1 hob.lt
    have HC := Lib.hid fun (w1 : World) (hw1 : Below W.heap.size W w1) => order_any w1 X.pv S.p (hSW.below hw1).plantAt h.valves h.never S.at_ h.ok.spots n o hn
    have eE : ∀ (j : Nat) (w1 w2 : World), Below w1.heap.size w1 w2 → (j ≠ 14 → Below w1.heap.size w1 w2) ∧ ∀ (g : Nat) (cs : Array Value), cs.size = 24 → Bk w1 g 105 cs → ∃ cs', cs'.size = 24 ∧ Bk w2 g 105 cs' := fun j w1 w2 hb => ⟨fun _ => hb, fun g cs h1 h2 => ⟨cs, h1, h2.below hb h2.lt⟩⟩
    have EE := Lib.hid eE
    have HW2 := Lib.hid hWs
    clear hSW hob h HH eE hbW hb0 hok hWs
    refine ⟨?_, ?_, ?_, ?_, ?_, ?_, ?_, ?_, ?_, ?_, ?_, ?_, ?_, ?_, ?_, ?_, trivial⟩
    · intro a w vs K HJ HK HD HN k; have k0 := HK 0 (by decide); go_simp; exact k _ _ (by simp) HJ (EE.out _ _ _ (Below.refl _ _)) ⟨rfl, fun e => by omega, fun e => by omega⟩
    · intro a w vs K HJ HK HD HN k; have e0 := (HD 0 _ 18 rfl rfl rfl).1.trans (HD 0 _ 18 rfl rfl rfl).2.1; go_simp; exact k _ _ (by simp) HJ (EE.out _ _ _ (Below.refl _ _)) ⟨rfl, fun e => by omega, fun e => by omega⟩
    · intro a w vs K HJ HK HD HN k; have e1 := (HD 1 _ 19 rfl rfl rfl).1.trans (HD 1 _ 19 rfl rfl rfl).2.1; go_simp; exact k _ _ (by simp) HJ (EE.out _ _ _ (Below.refl _ _)) ⟨rfl, fun e => by omega, fun e => by omega⟩
    · intro a w vs K HJ HK HD HN k; have e2 := (HD 2 _ 20 rfl rfl rfl).1.trans (HD 2 _ 20 rfl rfl rfl).2.1
      exact wpo_loadS 27 (.tmp 20) rfl _ 0 (by simpa [Act.eval] using e2) (plantA X.pv S.p) _ (HS.out w HJ).loadPlant und_plant rfl info_plant (k _ _ (by simp) HJ (EE.out _ _ _ (Below.refl _ _)) ⟨rfl, fun e => by omega, fun e => by omega⟩)
    · intro a w vs K HJ HK HD HN k; have k0 := HK 0 (by decide); go_simp; exact k _ _ (by simp) HJ (EE.out _ _ _ (Below.refl _ _)) ⟨rfl, fun e => by omega, fun e => by omega⟩
    · intro a w vs K HJ HK HD HN k; have e4 := (HD 4 _ 22 rfl rfl rfl).1.trans (HD 4 _ 22 rfl rfl rfl).2.1; go_simp; exact k _ _ (by simp) HJ (EE.out _ _ _ (Below.refl _ _)) ⟨rfl, fun e => by omega, fun e => by omega⟩
    · intro a w vs K HJ HK HD HN k; have e5 := (HD 5 _ 23 rfl rfl rfl).1.trans (HD 5 _ 23 rfl rfl rfl).2.1; go_simp; exact k _ _ (by simp) HJ (EE.out _ _ _ (Below.refl _ _)) ⟨rfl, fun e => by omega, fun e => by omega⟩
    · intro a w vs K HJ HK HD HN k; have e6 := (HD 6 _ 24 rfl rfl rfl).1.trans (HD 6 _ 24 rfl rfl rfl).2.1
      exact wpo_loadS 105 (.tmp 24) rfl _ 4 (by simpa [Act.eval] using e6) (spotsA S.at_) _ (HS.out w HJ).loadSpots und_spots rfl (info_spots_s _) (k _ _ (by simp) HJ (EE.out _ _ _ (Below.refl _ _)) ⟨rfl, fun e => by omega, fun e => by omega⟩)
    · intro a w1 vs K HJ HK HD HN k; have k3 := HK 3 (by decide)
      exact wpo_loadS 38 (.tmp 3) rfl w.heap.size 0 (by simpa [Act.eval] using k3) #[.int .i64 n, .bool o] _ (fun j u hj => by rw [(HO.out w1 HJ).cell, Nat.zero_add]; exact hj) und_order rfl info_order (k _ _ (by simp) HJ (EE.out _ _ _ (Below.refl _ _)) ⟨rfl, fun e => by omega, fun e => by omega⟩)
    · intro a w vs K HJ HK HD HN k
      have e3 := (HD 3 _ 21 rfl rfl rfl).1.trans (HD 3 _ 21 rfl rfl rfl).2.1; have e7 := (HD 7 _ 25 rfl rfl rfl).1.trans (HD 7 _ 25 rfl rfl rfl).2.1; have e8 := (HD 8 _ 26 rfl rfl rfl).1.trans (HD 8 _ 26 rfl rfl rfl).2.1
      exact wpo_call 110 _ _ rfl #[.agg (plantA X.pv S.p), .agg (spotsA S.at_), .agg #[.int .i64 n, .bool o]] (by simp [Act.eval, e3, e7, e8]) (fun args w => by kernel_rfl)
        ((HC.out w HJ).mono fun e w' ⟨he, hb⟩ => ⟨_, he, k _ _ (by simp) (HJ.trans (hb.mono HJ.size)) (EE.out _ _ _ hb) ⟨rfl, fun e => by omega, fun e => by omega⟩⟩)
    · intro a w vs K HJ HK HD HN k; have e9 := (HD 9 _ 27 rfl rfl rfl).1.trans (HD 9 _ 27 rfl rfl rfl).2.1; go_simp; exact k _ _ (by simp) HJ (EE.out _ _ _ (Below.refl _ _)) ⟨rfl, fun e => by omega, fun e => by omega⟩
    · intro a w vs K HJ HK HD HN k; have e10 := (HD 10 _ 17 rfl rfl rfl).1.trans (HD 10 _ 17 rfl rfl rfl).2.1; go_simp; exact k _ _ (by simp) HJ (EE.out _ _ _ (Below.refl _ _)) ⟨rfl, fun e => by omega, fun e => by omega⟩
    · intro a w vs K HJ HK HD HN k; have e10 := (HD 10 _ 17 rfl rfl rfl).1.trans (HD 10 _ 17 rfl rfl rfl).2.1; go_simp; exact k _ _ (by simp) HJ (EE.out _ _ _ (Below.refl _ _)) ⟨rfl, fun e => by omega, fun e => by omega⟩
    · intro a w vs K HJ HK HD HN k
      go_simp
      refine k _ _ (by simp) (HJ.alloc HJ.size _) (EE.out _ _ _ ((Below.refl _ _).alloc (Nat.le_refl _) _)) ⟨trivial, fun _ => ⟨_, rfl, HJ.size, _, spotsA_size zeroS, Bk.new _ _ (spotsA zeroS)⟩, fun e => by omega⟩
    · intro a w vs K HJ HK HD HN k
      have e11 := (HD 11 _ 28 rfl rfl rfl).1.trans (HD 11 _ 28 rfl rfl rfl).2.1
      obtain ⟨e13, r13⟩ := HD 13 _ 6 rfl rfl rfl
      obtain ⟨g, q1, q2, cs, q3, q4⟩ := r13.2.1 rfl
      refine wpo_storeS 105 (.tmp 6) (.tmp 28) rfl rfl g 0 (by simpa [Act.eval] using e13.trans q1) (spotsA (wantB S.at_ n o)) (by simpa [Act.eval] using e11) _ cs q4 (by rw [spotsA_size, q3]; omega) (spotsA_one _) (info_spots_s _) ?_
      intro w2 hk2 ho2
      rw [splA_all _ _ (by rw [spotsA_size, q3])] at hk2
      refine k _ _ (by simp) (HJ.trans (ho2.below q2)) ⟨fun h => absurd rfl h, fun g' cs' h1 h2 => ?_⟩ ⟨trivial, fun e => by omega, fun _ => ⟨g, q1, q2, hk2⟩⟩
      by_cases e : g' = g
      · subst e; exact ⟨_, spotsA_size _, hk2⟩
      · exact ⟨cs', h1, h2.only ho2 e⟩
    · intro a w vs K HJ HK HD HN k; have e12 := (HD 12 _ 29 rfl rfl rfl).1.trans (HD 12 _ 29 rfl rfl rfl).2.1; go_simp; exact k _ _ (by simp) HJ (EE.out _ _ _ (Below.refl _ _)) ⟨rfl, fun e => by omega, fun e => by omega⟩
  · intro vs w5 hw5 hr
    have h15 : vs 15 = _ := (hr 15 _ rfl).1
    obtain ⟨g, h13, hg1, hg2⟩ := (hr 14 _ rfl).2.2 rfl
    have h13' : vs 13 = .pointer (some ⟨g, 0, none⟩) := h13
    have hS5 := hSW.below hw5
    have hbw5 : Below w.heap.size w w5 := hbW.trans (hw5.mono (by omega))
    clear hr hSW hob h HH h13 hb0
    simp only [putAll, Act.put, h15, h13']
    clear h15 h13'
    have HS5 := Lib.hid hS5
    have HG := Lib.hid hg2
    have HB := Lib.hid hbw5
    have HOK := Lib.hid hok
    have hne : X.sb ≠ g := by have := hS5.hi; have := h0.out.hi; omega
    clear hS5 hg2 hbw5 hok hw5
    cases hq : safeB S.p (wantB S.at_ n o) with
    | false =>
      have HQ := Lib.hid hq; clear hq
      go_simp
      go_wp2
      go_ret
      rw [Hf.out, HQ.out]
      exact ⟨rfl, HS5.out, Chg.of_below HB.out⟩
    | true =>
      have HQ := Lib.hid hq; clear hq
      go_simp
      go_wp2_with (first | (refine wpLoadAt rfl 105 _ rfl g 0 rfl (spotsA (wantB S.at_ n o)) _ (fun j u hj => by rw [HG.out.cell, Nat.zero_add]; exact hj) und_spots rfl (info_spots_s _) ?_) | (refine wpStoreAt rfl rfl 105 _ _ rfl X.sb 4 rfl (spotsA (wantB S.at_ n o)) rfl 111 _ HS5.out.s (by rw [spotsA_size, sysA_size]; omega) (spotsA_one _) (info_spots_s _) ?_; intro w' hr ho))
      go_ret
      rw [Hf.out, HQ.out]
      rw [sysA_setSpots] at hr
      obtain ⟨n1, n2, n3, _, _, _⟩ := HS5.out.ne
      have hc := (Chg.of_below (X := X) HB.out).trans (Chg.of_only ho (by simp))
      exact ⟨rfl, HS5.out.turn (Chg.of_only ho (by simp)) rfl hr (HS5.out.t.only ho (Ne.symm n1)) (HS5.out.c.only ho (Ne.symm n2)) ⟨HS5.out.ok.valid, HOK.out, HQ.out, HS5.out.ok.tanks⟩, hc⟩
end Go.Proofs.YtogobjmmgjfjjaaGreat
/- What is proved: contracts of room, pressure, open of engine.System. Conditions: the system lies in memory; the tank, the line are of the plant. -/
namespace Go.Proofs.YtogobjmmgjfjjaaGreat
open Go.RowKit

def roomB (S : Sys) (i : Nat) : Int := max (S.p.tank i).least ((S.p.tank i).room - (S.tank i).content)
def pressB (S : Sys) (i : Nat) : Int := (S.tank i).gas * 100 / roomB S i
theorem tankOk_of {p : PlantD} (h : plantB p = true) (i : Nat) (hi : i < p.tanks.length) : 1 ≤ (p.tank i).room ∧ (p.tank i).room ≤ 1073741824 ∧ 1 ≤ (p.tank i).least ∧ (p.tank i).least ≤ 1073741824 ∧ 0 ≤ (p.tank i).limit ∧ (p.tank i).limit ≤ 1073741824 := by
  unfold plantB tankedB allN at h
  simp only [Bool.and_eq_true, List.all_eq_true, List.mem_range] at h
  have := h.1.1.1.1.1.2 i hi
  unfold tankOk at this
  simp only [Bool.and_eq_true, inB_iff] at this
  omega
theorem lineOk_of {p : PlantD} (h : plantB p = true) (i : Nat) (hi : i < p.lines.length) : lineOk p.tanks.length p.valves.length (p.line i) = true := by
  unfold plantB linedB allN at h
  simp only [Bool.and_eq_true, List.all_eq_true, List.mem_range] at h
  exact h.1.1.1.2.2 i hi
theorem SysOk.room {S : Sys} (h : SysOk S) (i : Nat) (hi : i < S.p.tanks.length) : 1 ≤ roomB S i ∧ roomB S i ≤ 1073741824 := by
  have h1 := tankOk_of h.valid i hi
  have h2 := h.tanks i hi
  unfold roomB
  omega

structure TankCells (w : World) (X : SX) (S : Sys) (i : Nat) : Prop where
  t0 : w.cell? ⟨X.tb, i * 5, none⟩ = some (.int .i64 (S.tank i).content)
  t1 : w.cell? ⟨X.tb, i * 5 + 1, none⟩ = some (.int .i64 (S.tank i).gas)
  t2 : w.cell? ⟨X.tb, i * 5 + 2, none⟩ = some (.int .i64 (S.tank i).leak)
  t3 : w.cell? ⟨X.tb, i * 5 + 3, none⟩ = some (.int .i64 (S.tank i).lost)
  t4 : w.cell? ⟨X.tb, i * 5 + 4, none⟩ = some (.int .i64 (S.tank i).vented)
theorem SysAt.tankCells {w : World} {X : SX} {S : Sys} (h : SysAt w X S) (i : Nat) (hi : i < S.p.tanks.length) : TankCells w X S i :=
  ⟨(h.t.cell (i * 5 + 0)).trans (tanksA_get _ _ _ _ hi (by omega)), (h.t.cell (i * 5 + 1)).trans (tanksA_get _ _ _ _ hi (by omega)), (h.t.cell (i * 5 + 2)).trans (tanksA_get _ _ _ _ hi (by omega)),
   (h.t.cell (i * 5 + 3)).trans (tanksA_get _ _ _ _ hi (by omega)), (h.t.cell (i * 5 + 4)).trans (tanksA_get _ _ _ _ hi (by omega))⟩

set_option maxRecDepth 100000 in
set_option maxHeartbeats 1000000 in
theorem room_any (w : World) (X : SX) (S : Sys) (h : SysAt w X S) (i : Nat) (hi : i < S.p.tanks.length) :
    Calls Tryz.prog 103 #[.pointer (some ⟨X.sb, 0, none⟩), .int .i64 i] w fun e w' => e = .returned (.int .i64 (roomB S i)) ∧ ∃ n, w' = w.drewN n := by
  have hii : (i : Int) < (S.p.tanks.length : Int) := by omega
  have h0i : (0 : Int) ≤ (i : Int) := by omega
  have c40 := h.cells.c40
  have c0 := h.cells.c0
  obtain ⟨b, off, hA, hB, _, d1, d2, _⟩ := h.plantAt.tanks.at4 hi
  simp only [tankC] at d1 d2
  rw [hA] at c0
  have ht := (h.tankCells i hi).t0
  have b1 := tankOk_of h.ok.valid i hi
  have b2 := h.ok.tanks i hi
  have hw : IntKind.i64.wrap ((S.p.tank i).room - (S.tank i).content) = (S.p.tank i).room - (S.tank i).content := IntWalk.i64_in _ (by omega)
  have HR := Lib.hid (show roomB S i = if (S.p.tank i).least < (S.p.tank i).room - (S.tank i).content then (S.p.tank i).room - (S.tank i).content else (S.p.tank i).least from max_go _ _)
  clear h hA b1 b2
  go_enter Tryz.func103, Tryz.ntmps103
  go_wp2
  go_quiet (fail)
  go_wp2
  all_goals (go_ret; exact ⟨ret_int (by rw [HR.out]; first | rw [if_pos (by assumption)] | rw [if_neg (by omega)]), _, rfl⟩)

set_option maxRecDepth 100000 in
set_option maxHeartbeats 1000000 in
theorem pressure_any (w : World) (X : SX) (S : Sys) (h : SysAt w X S) (i : Nat) (hi : i < S.p.tanks.length) :
    Calls Tryz.prog 55 #[.pointer (some ⟨X.sb, 0, none⟩), .int .i64 i] w fun e w' => e = .returned (.int .i64 (pressB S i)) ∧ ∃ n, w' = w.drewN n := by
  have hii : (i : Int) < (S.p.tanks.length : Int) := by omega
  have h0i : (0 : Int) ≤ (i : Int) := by omega
  have c40 := h.cells.c40
  have ht := (h.tankCells i hi).t1
  have b2 := h.ok.tanks i hi
  have b3 := h.ok.room i hi
  have HC := Lib.hid fun n => room_any (w.drewN n) X S (h.keep (fun _ _ _ => rfl) (Nat.le_refl _)) i hi
  have hw : IntKind.i64.wrap ((S.tank i).gas * 100) = (S.tank i).gas * 100 := IntWalk.i64_in _ (by omega)
  have HP := Lib.hid (show pressB S i = (S.tank i).gas * 100 / roomB S i from rfl)
  have hq := Lib.hid (show ((S.tank i).gas * 100).tdiv (roomB S i) = (S.tank i).gas * 100 / roomB S i from Int.tdiv_eq_ediv_of_nonneg (by omega))
  have h0 : (roomB S i == 0) = false := by rw [beq_eq_false_iff_ne]; omega
  have g0 : 0 ≤ (S.tank i).gas * 100 := by omega
  have hlo : 0 ≤ (S.tank i).gas * 100 / roomB S i := Int.ediv_nonneg (by omega) (by omega)
  have hhi : (S.tank i).gas * 100 / roomB S i ≤ (S.tank i).gas * 100 := Int.ediv_le_self _ (by omega)
  have hw2 : IntKind.i64.wrap ((S.tank i).gas * 100 / roomB S i) = (S.tank i).gas * 100 / roomB S i := IntWalk.i64_in _ (by omega)
  clear h hlo hhi
  go_enter Tryz.func55, Tryz.ntmps55
  go_wp2
  go_quiet ((go_at_call 103; exact Calls.quiet_of (HC.out _)))
  go_wp2
  go_ret
  exact ⟨ret_int (by rw [HP.out]), _, rfl⟩

/-- Are all valves of a line open? -/
def openB (S : Sys) (l : LineD) : Bool := allN l.valves.length fun k => decide ((S.at_ (l.valves.getD k 0).toNat).place = (S.p.valve (l.valves.getD k 0).toNat).travel)

set_option maxRecDepth 100000 in
set_option maxHeartbeats 1000000 in
theorem open1_any (w : World) (X : SX) (S : Sys) (h : SysAt w X S) (v : Nat) (hv : v < S.p.valves.length) (bb : Nat) (hbb : Bk w bb 45 #[.pointer (some ⟨X.sb, 0, none⟩)]) :
    Calls Tryz.prog 150 #[.int .i64 v, .pointer (some ⟨bb, 0, none⟩)] w fun e w' => e = .returned (.bool (decide ((S.at_ v).place = (S.p.valve v).travel))) ∧ ∃ n, w' = w.drewN n := by
  have hl := h.lens
  have hvi : (v : Int) < (S.p.valves.length : Int) := by omega
  have h12i : (v : Int) < (12 : Int) := by omega
  have h0i : (0 : Int) ≤ (v : Int) := by omega
  have cb := hbb.cell 0
  have c1 := h.cells.c1
  obtain ⟨b, off, hA, hB, _, d1, _⟩ := h.plantAt.valves.at3 hv
  simp only [valveC] at d1
  rw [hA] at c1
  have hp : w.cell? ⟨X.sb, 4 + v * 2, none⟩ = some (.int .i8 (S.at_ v).place) := h.loadSpots _ _ (spots_get S.at_ v (by omega)).1
  have hs := h.ok.spots.1 v hv
  have ht := h.valves.2 v hv
  have hw : IntKind.i64.wrap (S.at_ v).place = (S.at_ v).place := IntWalk.i64_in _ (by omega)
  have hd := Lib.hid (show ((S.at_ v).place == (S.p.valve v).travel) = decide ((S.at_ v).place = (S.p.valve v).travel) from rfl)
  have cb' : w.cell? ⟨bb, 0, none⟩ = some (.pointer (some ⟨X.sb, 0, none⟩)) := cb
  clear h hbb hA cb
  go_enter Tryz.func150, Tryz.ntmps150
  go_wp2
  go_quiet (fail)
  go_wp2
  go_ret
  exact ⟨ret_bool (by rw [← hd.out]), _, rfl⟩

set_option maxHeartbeats 1000000 in
theorem open_any (w : World) (X : SX) (S : Sys) (h : SysAt w X S) (i : Nat) (hi : i < S.p.lines.length) :
    Calls Tryz.prog 101 #[.pointer (some ⟨X.sb, 0, none⟩), .agg #[lineC (X.pv.iA i) (X.pv.ic i) (S.p.line i) 0, lineC (X.pv.iA i) (X.pv.ic i) (S.p.line i) 1, lineC (X.pv.iA i) (X.pv.ic i) (S.p.line i) 2, lineC (X.pv.iA i) (X.pv.ic i) (S.p.line i) 3, lineC (X.pv.iA i) (X.pv.ic i) (S.p.line i) 4]] w
      fun e w' => e = .returned (.bool (openB S (S.p.line i))) ∧ Below w.heap.size w w' := by
  simp only [lineC]
  have hlo := lineOk_of h.ok.valid i hi
  unfold lineOk allN at hlo
  simp only [Bool.and_eq_true, List.all_eq_true, List.mem_range] at hlo
  have hlv := hlo.2
  have hb0 : ∀ o o', Below w.heap.size w ((w.alloc o).alloc o') := fun o o' => ((Below.refl _ _).alloc (Nat.le_refl _) _).alloc (by simp) _
  have HALL := Lib.hid fun o' => allInt ((w.alloc (.cells #[.pointer (some ⟨X.sb, 0, none⟩)] 45)).alloc o') (X.pv.iA i) (S.p.line i).valves.length (X.pv.ic i) _
    (Sl.mono (Sl.below (h.plantAt.lv i hi) (hb0 _ _)) (by simp; omega)) 150 #[.pointer (some ⟨w.heap.size, 0, none⟩)]
    (fun k => decide ((S.at_ ((S.p.line i).valves.getD k 0).toNat).place = (S.p.valve ((S.p.line i).valves.getD k 0).toNat).travel)) (fun args w => by kernel_rfl) (fun w1 hw1 k hk => by
      obtain ⟨q1, q2⟩ := inB_iff.1 (hlv k hk)
      have hb1 : Below w.heap.size w w1 := (hb0 (.cells #[.pointer (some ⟨X.sb, 0, none⟩)] 45) o').trans (hw1.mono (by simp; omega))
      have key : ∀ v : Int, 0 ≤ v → v ≤ (S.p.valves.length : Int) - 1 → Calls Tryz.prog 150 (#[.int .i64 v] ++ #[.pointer (some ⟨w.heap.size, 0, none⟩)]) w1
          fun e w'' => e = .returned (.bool (decide ((S.at_ v.toNat).place = (S.p.valve v.toNat).travel))) ∧ Below w1.heap.size w1 w'' := by
        intro v hv0 hv1
        obtain ⟨n, rfl⟩ := Int.eq_ofNat_of_zero_le hv0
        refine (open1_any w1 X S (h.below hb1) n (by omega) w.heap.size (((Bk.new _ _ _).alloc _).below hw1 (by simp; omega))).mono ?_
        rintro e w2 ⟨he, m, rfl⟩
        exact ⟨he, below_drewN (Below.refl _ _) m⟩
      exact key _ q1 q2)
  clear hlo hlv h
  go_enter Tryz.func101, Tryz.ntmps101
  go_wp2_with fail
  refine (HALL.out _).mono ?_
  rintro e w' ⟨rfl, hb⟩
  go_wp2_with fail
  go_ret
  exact ⟨rfl, (hb0 _ _).trans (hb.mono (by simp; omega))⟩
end Go.Proofs.YtogobjmmgjfjjaaGreat
/- What is proved: a contract of the closure of carry of engine.System. Conditions: the system lies in memory; the tank is of the plant. -/
namespace Go.Proofs.YtogobjmmgjfjjaaGreat
open Go.RowKit

def numB (S : Sys) (gas : Bool) (t : Nat) : Int := if gas then (S.tank t).gas else (S.tank t).content
def mostB (S : Sys) (gas : Bool) (t : Nat) : Int := if gas then 1073741824 else (S.p.tank t).room
def numJ (gas : Bool) : Nat := if gas then 1 else 0

set_option maxRecDepth 100000 in
set_option maxHeartbeats 1000000 in
theorem carryHas_any (w : World) (X : SX) (S : Sys) (h : SysAt w X S) (t : Nat) (ht : t < S.p.tanks.length) (lb bb : Nat) (gas : Bool) (cl : w.cell? ⟨lb, 3, none⟩ = some (.bool gas)) (cb : w.cell? ⟨bb, 0, none⟩ = some (.pointer (some ⟨X.sb, 0, none⟩))) :
    Calls Tryz.prog 151 #[.int .i64 t, .pointer (some ⟨lb, 0, none⟩), .pointer (some ⟨bb, 0, none⟩)] w
      fun e w' => e = .returned (.tuple #[.pointer (some ⟨X.tb, t * 5 + numJ gas, none⟩), .int .i64 (mostB S gas t)]) ∧ ∃ n, w' = w.drewN n := by
  have hti : (t : Int) < (S.p.tanks.length : Int) := by omega
  have h0i : (0 : Int) ≤ (t : Int) := by omega
  have c40 := h.cells.c40
  have c0 := h.cells.c0
  obtain ⟨b, off, hA, hB, _, d1, _, _⟩ := h.plantAt.tanks.at4 ht
  simp only [tankC] at d1
  rw [hA] at c0
  clear h hA
  cases gas with
  | true =>
    have hj : t * 5 + numJ true = t * 5 + 1 := rfl
    have hm : mostB S true t = 1073741824 := rfl
    rw [hj, hm]
    clear hj hm
    go_enter Tryz.func151, Tryz.ntmps151
    go_wp2
    go_ret2
    exact ⟨rfl, 0, rfl⟩
  | false =>
    have hj : t * 5 + numJ false = t * 5 := rfl
    have hm : mostB S false t = (S.p.tank t).room := rfl
    rw [hj, hm]
    clear hj hm
    go_enter Tryz.func151, Tryz.ntmps151
    go_wp2
    go_quiet (fail)
    go_wp2
    go_ret2
    exact ⟨rfl, _, rfl⟩
end Go.Proofs.YtogobjmmgjfjjaaGreat
/- What is proved: a contract of carry of engine.System. Conditions: the system lies in memory; the line is of the plant. -/
namespace Go.Proofs.YtogobjmmgjfjjaaGreat
open Go.RowKit

def addN (S : Sys) (gas : Bool) (t : Nat) (d : Int) : Sys := S.setT t (setTank (S.tank t) (numJ gas) (numB S gas t + d))
def much1 (S : Sys) (l : LineD) : Int := if 0 ≤ l.src then min l.flow (numB S l.gas l.src.toNat) else l.flow
def much2 (S : Sys) (l : LineD) : Int := if 0 ≤ l.dst then min (much1 S l) (mostB S l.gas l.dst.toNat - numB S l.gas l.dst.toNat) else much1 S l
def flowB (S : Sys) (l : LineD) : Sys :=
  let S1 := if 0 ≤ l.dst then addN S l.gas l.dst.toNat (much2 S l) else S
  if 0 ≤ l.src then addN S1 l.gas l.src.toNat (-(much2 S l)) else S1
def carryB (S : Sys) (i : Nat) : Sys := { flowB S (S.p.line i) with carried := fun k => if k = i then wrap64 (S.carried i + much2 S (S.p.line i)) else S.carried k }

theorem numB_at {w : World} {X : SX} {S : Sys} (h : SysAt w X S) (gas : Bool) (t : Nat) (ht : t < S.p.tanks.length) : w.cell? ⟨X.tb, t * 5 + numJ gas, none⟩ = some (.int .i64 (numB S gas t)) := by
  have := h.tankCells t ht
  cases gas
  · exact this.t0
  · exact this.t1
theorem numB_ok {S : Sys} (h : SysOk S) (gas : Bool) (t : Nat) (ht : t < S.p.tanks.length) : 0 ≤ numB S gas t ∧ numB S gas t ≤ mostB S gas t ∧ mostB S gas t ≤ 1073741824 := by
  have h1 := h.tanks t ht
  have h2 := tankOk_of h.valid t ht
  cases gas <;> simp [numB, mostB] <;> omega
theorem addN_num (S : Sys) (gas : Bool) (t : Nat) (d : Int) (k : Nat) : numB (addN S gas t d) gas k = if k = t then numB S gas t + d else numB S gas k := by
  unfold addN Sys.setT numB numJ setTank
  by_cases hk : k = t <;> cases gas <;> simp [hk]
theorem addN_ok {S : Sys} (h : SysOk S) (gas : Bool) (t : Nat) (ht : t < S.p.tanks.length) (d : Int) (h0 : 0 ≤ numB S gas t + d) (h1 : numB S gas t + d ≤ mostB S gas t) : SysOk (addN S gas t d) := by
  have h2 := h.tanks t ht
  refine h.setT t _ ?_
  cases gas <;> simp [numB, mostB, numJ, setTank] at h0 h1 ⊢ <;> omega
theorem addN_at {w : World} {X : SX} {S : Sys} (h : SysAt w X S) (gas : Bool) (t : Nat) (ht : t < S.p.tanks.length) (d : Int) (h0 : 0 ≤ numB S gas t + d) (h1 : numB S gas t + d ≤ mostB S gas t) :
    SysAt (w.setCell ⟨X.tb, t * 5 + numJ gas, none⟩ (.int .i64 (numB S gas t + d))) X (addN S gas t d) := by
  have ho := Only.setCell w X.tb (t * 5 + numJ gas) (.int .i64 (numB S gas t + d))
  obtain ⟨n1, n2, n3, _, _, _⟩ := h.ne
  refine h.turn (Chg.of_only ho (by simp)) rfl (h.s.only ho n1) ?_ (h.c.only ho (Ne.symm n3)) (addN_ok h.ok gas t ht d h0 h1)
  have := h.t.set (t * 5 + numJ gas) (.int .i64 (numB S gas t + d))
  rw [tanksA_set _ _ _ _ ht (by cases gas <;> simp [numJ])] at this
  exact this
theorem much_ok {S : Sys} (h : SysOk S) (i : Nat) (hi : i < S.p.lines.length) : 0 ≤ much1 S (S.p.line i) ∧ much1 S (S.p.line i) ≤ 1073741824 ∧ 0 ≤ much2 S (S.p.line i) ∧ much2 S (S.p.line i) ≤ much1 S (S.p.line i) ∧
    (0 ≤ (S.p.line i).src → much1 S (S.p.line i) ≤ numB S (S.p.line i).gas (S.p.line i).src.toNat) ∧ (0 ≤ (S.p.line i).dst → much2 S (S.p.line i) ≤ mostB S (S.p.line i).gas (S.p.line i).dst.toNat - numB S (S.p.line i).gas (S.p.line i).dst.toNat) ∧
    (S.p.line i).src.toNat < S.p.tanks.length ∧ (S.p.line i).dst.toNat < S.p.tanks.length ∧ -1 ≤ (S.p.line i).src ∧ -1 ≤ (S.p.line i).dst ∧ (S.p.line i).src ≠ (S.p.line i).dst ∧ 1 ≤ (S.p.line i).flow ∧ (S.p.line i).flow ≤ 1073741824 := by
  have hlo := lineOk_of h.valid i hi
  unfold lineOk at hlo
  simp only [Bool.and_eq_true, inB_iff, Bool.not_eq_true', decide_eq_false_iff_not] at hlo
  obtain ⟨⟨⟨⟨⟨a1, a2⟩, a3⟩, a4⟩, _⟩, _⟩ := hlo
  have hs : (S.p.line i).src.toNat < S.p.tanks.length := by omega
  have hd : (S.p.line i).dst.toNat < S.p.tanks.length := by omega
  have b1 := numB_ok h (S.p.line i).gas _ hs
  have b2 := numB_ok h (S.p.line i).gas _ hd
  unfold much2 much1
  refine ⟨?_, ?_, ?_, ?_, ?_, ?_, hs, hd, by omega, by omega, a3, by omega, by omega⟩
  · split <;> omega
  · split <;> omega
  · split <;> split <;> omega
  · split <;> split <;> omega
  · intro h; rw [if_pos h]; omega
  · intro h; rw [if_pos h]; split <;> omega
theorem flowB_p (S : Sys) (l : LineD) : (flowB S l).p = S.p := by unfold flowB; simp only; split <;> split <;> rfl
theorem flowB_c (S : Sys) (l : LineD) : (flowB S l).carried = S.carried := by unfold flowB; simp only; split <;> split <;> rfl

/-- The last step: what a line has carried. -/
theorem carry_end {w : World} {X : SX} {S S2 : Sys} (h : SysAt w X S2) (hc : S2.carried = S.carried) (i : Nat) (v : Int) :
    SysAt (w.setCell ⟨X.cb, i, none⟩ (.int .i64 v)) X { S2 with carried := fun k => if k = i then v else S.carried k } := by
  have ho := Only.setCell w X.cb i (.int .i64 v)
  obtain ⟨n1, n2, n3, _, _, _⟩ := h.ne
  refine h.turn (Chg.of_only ho (by simp)) rfl (h.s.only ho n2) (h.t.only ho n3) ?_ ⟨h.ok.valid, h.ok.spots, h.ok.safe, h.ok.tanks⟩
  have := h.c.set i (.int .i64 v)
  rw [carrA_set, hc] at this
  exact this

set_option maxRecDepth 100000 in
set_option maxHeartbeats 4000000 in
theorem carry_any (w : World) (X : SX) (S : Sys) (h : SysAt w X S) (i : Nat) (hi : i < S.p.lines.length) :
    Calls Tryz.prog 102 #[.pointer (some ⟨X.sb, 0, none⟩), .int .i64 i] w fun e w' => e = .returned (.tuple #[]) ∧ SysAt w' X (carryB S i) ∧ Chg X w w' := by
  obtain ⟨u1, u2, u3, u4, u5, u6, hs, hd, us, ud, une, uf1, uf2⟩ := much_ok h.ok i hi
  have hii : (i : Int) < (S.p.lines.length : Int) := by omega
  have h0i : (0 : Int) ≤ (i : Int) := by omega
  have c2 := h.cells.c2
  obtain ⟨b, off, hA, hB, d0, d1, d2, d3, d4⟩ := h.plantAt.lines.at5 hi
  simp only [lineC] at d0 d1 d2 d3 d4
  rw [hA] at c2
  have hfl := Lib.hid (show carryB S i = { flowB S (S.p.line i) with carried := fun k => if k = i then wrap64 (S.carried i + much2 S (S.p.line i)) else S.carried k } from rfl)
  have hF := Lib.hid (show flowB S (S.p.line i) = (if 0 ≤ (S.p.line i).src then addN (if 0 ≤ (S.p.line i).dst then addN S (S.p.line i).gas (S.p.line i).dst.toNat (much2 S (S.p.line i)) else S) (S.p.line i).gas (S.p.line i).src.toNat (-(much2 S (S.p.line i))) else (if 0 ≤ (S.p.line i).dst then addN S (S.p.line i).gas (S.p.line i).dst.toNat (much2 S (S.p.line i)) else S)) from rfl)
  have hFp := Lib.hid (flowB_p S (S.p.line i))
  have hFc := Lib.hid (flowB_c S (S.p.line i))
  have hm1 := Lib.hid (show much1 S (S.p.line i) = if 0 ≤ (S.p.line i).src then min (S.p.line i).flow (numB S (S.p.line i).gas (S.p.line i).src.toNat) else (S.p.line i).flow from rfl)
  have hm2 := Lib.hid (show much2 S (S.p.line i) = if 0 ≤ (S.p.line i).dst then min (much1 S (S.p.line i)) (mostB S (S.p.line i).gas (S.p.line i).dst.toNat - numB S (S.p.line i).gas (S.p.line i).dst.toNat) else much1 S (S.p.line i) from rfl)
  generalize much2 S (S.p.line i) = m2 at *
  generalize much1 S (S.p.line i) = m1 at *
  generalize hLF : flowB S (S.p.line i) = SF at *
  clear hLF
  generalize S.p.line i = L at *
  obtain ⟨src, dst, flow, gas, valves⟩ := L
  simp only at *
  have hb0 : ∀ o o', Below w.heap.size w ((w.alloc o).alloc o') := fun o o' => ((Below.refl _ _).alloc (Nat.le_refl _) _).alloc (by simp) _
  have hne := h.ne
  have hhi := h.hi
  have q1 : X.sb < w.heap.size := by omega
  have q2 : X.tb < w.heap.size := by omega
  have q3 : X.cb < w.heap.size := by omega
  -- what is kept from world to world
  have KEEP : Hid (∀ w1 n, SysAt w1 X S → SysAt (w1.drewN n) X S) := Lib.hid fun w1 n h1 => h1.keep (fun _ _ _ => rfl) (Nat.le_refl _)
  obtain ⟨W, hW⟩ : ∃ W, W = (w.alloc (.cells #[.pointer (some ⟨X.sb, 0, none⟩)] 45)).alloc (.cells #[.int .i64 src, .int .i64 dst, .int .i64 flow, .bool gas, .slice (X.pv.iA i) valves.length (X.pv.ic i)] 76) := ⟨_, rfl⟩
  have hSW : SysAt W X S := by rw [hW]; exact h.below (hb0 _ _)
  have hCW : Chg X w W := by rw [hW]; exact Chg.of_below (hb0 _ _)
  have hbbW : Bk W w.heap.size 45 #[.pointer (some ⟨X.sb, 0, none⟩)] := by rw [hW]; exact (Bk.new _ _ _).alloc _
  have hlbW : Bk W (w.heap.size + 1) 76 #[.int .i64 src, .int .i64 dst, .int .i64 flow, .bool gas, .slice (X.pv.iA i) valves.length (X.pv.ic i)] := by rw [hW]; exact Bk.newAt _ _ _ _ (by simp)
  have hHW := Lib.hid hW
  have h0 := Lib.hid h
  clear hW h hA hb0
  by_cases hsrc : 0 ≤ src
  · obtain ⟨sn, rfl⟩ := Int.eq_ofNat_of_zero_le hsrc
    simp only [Int.toNat_natCast] at *
    by_cases hdst : 0 ≤ dst
    · obtain ⟨dn, rfl⟩ := Int.eq_ofNat_of_zero_le hdst
      simp only [Int.toNat_natCast] at *
      have hns := numB_ok hSW.ok gas sn hs
      have hmm := hm1.out
      simp only [Int.natCast_nonneg, if_true] at hmm
      have hmin1 : (if numB S gas sn < flow then numB S gas sn else flow) = m1 := by rw [hmm, min_go]
      have hm2' := hm2.out
      have hF' := hF.out
      simp only [Int.natCast_nonneg, if_true] at hm2' hF'
      have hF2 := Lib.hid hF'
      have hm2h := Lib.hid hm2'
      have hmmh := Lib.hid hmm
      have u5' := u5 hsrc
      have w1s : IntKind.i64.wrap (numB S gas sn - m2) = numB S gas sn - m2 := IntWalk.i64_in _ (by omega)
      have hnd := numB_ok hSW.ok gas dn hd
      have u6' := u6 hdst
      have hmin2 : (if mostB S gas dn - numB S gas dn < m1 then mostB S gas dn - numB S gas dn else m1) = m2 := by rw [hm2h.out, min_go]
      have wd : IntKind.i64.wrap (mostB S gas dn - numB S gas dn) = mostB S gas dn - numB S gas dn := IntWalk.i64_in _ (by omega)
      have hsd : sn ≠ dn := by omega
      clear hm1 hm2 hm2' hF hF' hmm
      go_enter Tryz.func102, Tryz.ntmps102
      go_wp2_with fail
      rw [← hHW.out]
      refine (carryHas_any W X S hSW sn hs (w.heap.size + 1) w.heap.size gas (hlbW.cell 3) (hbbW.cell 0)).mono ?_
      rintro e w1 ⟨rfl, n1, hn1⟩
      have hS1 : SysAt w1 X S := by rw [hn1]; exact KEEP.out _ _ hSW
      have hbb1 : Bk w1 w.heap.size 45 #[.pointer (some ⟨X.sb, 0, none⟩)] := by rw [hn1]; exact hbbW
      have hlb1 : Bk w1 (w.heap.size + 1) 76 #[.int .i64 sn, .int .i64 dn, .int .i64 flow, .bool gas, .slice (X.pv.iA i) valves.length (X.pv.ic i)] := by rw [hn1]; exact hlbW
      have hC1 : Chg X w w1 := by rw [hn1]; exact hCW.trans (Chg.of_below (below_drewN (Below.refl _ _) _))
      clear hn1 hbbW hlbW hCW hSW
      have a1 := numB_at hS1 gas sn hs
      have a2 : w1.cell? ⟨w.heap.size + 1, 0, none⟩ = some (.int .i64 sn) := hlb1.cell 0
      have a3 : w1.cell? ⟨w.heap.size + 1, 1, none⟩ = some (.int .i64 dn) := hlb1.cell 1
      go_wp2_with fail
      clear a1 a2 a3
      refine (carryHas_any w1 X S hS1 dn hd (w.heap.size + 1) w.heap.size gas (hlb1.cell 3) (hbb1.cell 0)).mono ?_
      rintro e w2 ⟨rfl, n2, hn2⟩
      have hS2 : SysAt w2 X S := by rw [hn2]; exact KEEP.out _ _ hS1
      have hbb2 : Bk w2 w.heap.size 45 #[.pointer (some ⟨X.sb, 0, none⟩)] := by rw [hn2]; exact hbb1
      have hlb2 : Bk w2 (w.heap.size + 1) 76 #[.int .i64 sn, .int .i64 dn, .int .i64 flow, .bool gas, .slice (X.pv.iA i) valves.length (X.pv.ic i)] := by rw [hn2]; exact hlb1
      have hC2 : Chg X w w2 := by rw [hn2]; exact hC1.trans (Chg.of_below (below_drewN (Below.refl _ _) _))
      clear hn2 hbb1 hlb1 hC1 hS1
      have b1 := numB_at hS2 gas dn hd
      have b2 := hS2.t.free (dn * 5 + numJ gas)
      have b3 : w2.cell? ⟨w.heap.size + 1, 0, none⟩ = some (.int .i64 sn) := hlb2.cell 0
      go_wp2_with fail
      clear b1 b2 b3
      obtain ⟨w3, hw3⟩ : ∃ w3, w3 = w2.setCell ⟨X.tb, dn * 5 + numJ gas, none⟩ (.int .i64 (numB S gas dn + m2)) := ⟨_, rfl⟩
      have hS3 : SysAt w3 X (addN S gas dn m2) := by rw [hw3]; exact addN_at hS2 gas dn hd m2 (by omega) (by omega)
      have ho3 : Only X.tb w2 w3 := by rw [hw3]; exact Only.setCell _ _ _ _
      have hbb3 := hbb2.only ho3 (by omega)
      have hlb3 := hlb2.only ho3 (by omega)
      have hC3 := hC2.trans (Chg.of_only (X := X) ho3 (by simp))
      rw [← hw3]
      clear hw3 ho3 hbb2 hlb2 hC2 hS2
      refine (carryHas_any w3 X _ hS3 sn hs (w.heap.size + 1) w.heap.size gas (hlb3.cell 3) (hbb3.cell 0)).mono ?_
      rintro e w4 ⟨rfl, n4, hn4⟩
      have hS4 : SysAt w4 X (addN S gas dn m2) := by rw [hn4]; exact hS3.keep (fun _ _ _ => rfl) (Nat.le_refl _)
      have hbb4 : Bk w4 w.heap.size 45 #[.pointer (some ⟨X.sb, 0, none⟩)] := by rw [hn4]; exact hbb3
      have hC4 : Chg X w w4 := by rw [hn4]; exact hC3.trans (Chg.of_below (below_drewN (Below.refl _ _) _))
      clear hn4 hbb3 hlb3 hC3 hS3
      have hnum : numB (addN S gas dn m2) gas sn = numB S gas sn := by rw [addN_num, if_neg hsd]
      have d1 := numB_at hS4 gas sn hs
      rw [hnum] at d1
      have d2 := hS4.t.free (sn * 5 + numJ gas)
      have d3 : w4.cell? ⟨w.heap.size, 0, none⟩ = some (.pointer (some ⟨X.sb, 0, none⟩)) := hbb4.cell 0
      have e4 := hS4.cells.c41
      have e5 := (hS4.c.cell i).trans (carrA_get _ _ _ hi)
      have f5 := hS4.c.free i
      have hnumh := Lib.hid hnum
      have hH4 := Lib.hid hS4
      have hmo : mostB (addN S gas dn m2) gas sn = mostB S gas sn := rfl
      have hmoh := Lib.hid hmo
      clear hS4 hbb4 hnum hmo
      have e4' : w4.cell? ⟨X.sb, 41, none⟩ = some (.slice (some ⟨X.cb, 0, none⟩) S.p.lines.length S.p.lines.length) := e4
      have e5' : w4.cell? ⟨X.cb, i, none⟩ = some (.int .i64 (S.carried i)) := e5
      clear e4 e5
      go_wp2_with fail
      go_end0
      have hT := addN_at hH4.out gas sn hs (-m2) (by rw [hnumh.out]; omega) (by rw [hnumh.out, hmoh.out]; omega)
      rw [hnumh.out, ← Int.sub_eq_add_neg] at hT
      have hE := carry_end (S := S) hT rfl i (wrap64 (S.carried i + m2))
      rw [hfl.out, hF2.out]
      exact ⟨rfl, hE, (hC4.trans (Chg.of_only (Only.setCell _ X.tb _ _) (by simp))).trans (Chg.of_only (Only.setCell _ X.cb _ _) (by simp))⟩
    ·
      have hdst' : dst = -1 := by omega
      subst hdst'
      have hns := numB_ok hSW.ok gas sn hs
      have hmm := hm1.out
      simp only [Int.natCast_nonneg, if_true] at hmm
      have hmin1 : (if numB S gas sn < flow then numB S gas sn else flow) = m1 := by rw [hmm, min_go]
      have hm2' := hm2.out
      have hF' := hF.out
      simp only [Int.natCast_nonneg, if_true, Int.reduceNeg, show ¬ ((0 : Int) ≤ -1) from by decide, if_false] at hm2' hF'
      have hF2 := Lib.hid hF'
      have hm2h := Lib.hid hm2'
      have hmmh := Lib.hid hmm
      have u5' := u5 hsrc
      have w1s : IntKind.i64.wrap (numB S gas sn - m2) = numB S gas sn - m2 := IntWalk.i64_in _ (by omega)
      have hmeq : m1 = m2 := hm2'.symm
      subst hmeq
      clear hm1 hm2 hm2' hF hF' hmm
      go_enter Tryz.func102, Tryz.ntmps102
      go_wp2_with fail
      rw [← hHW.out]
      refine (carryHas_any W X S hSW sn hs (w.heap.size + 1) w.heap.size gas (hlbW.cell 3) (hbbW.cell 0)).mono ?_
      rintro e w1 ⟨rfl, n1, hn1⟩
      have hS1 : SysAt w1 X S := by rw [hn1]; exact KEEP.out _ _ hSW
      have hbb1 : Bk w1 w.heap.size 45 #[.pointer (some ⟨X.sb, 0, none⟩)] := by rw [hn1]; exact hbbW
      have hlb1 : Bk w1 (w.heap.size + 1) 76 #[.int .i64 sn, .int .i64 (-1), .int .i64 flow, .bool gas, .slice (X.pv.iA i) valves.length (X.pv.ic i)] := by rw [hn1]; exact hlbW
      have hC1 : Chg X w w1 := by rw [hn1]; exact hCW.trans (Chg.of_below (below_drewN (Below.refl _ _) _))
      clear hn1 hbbW hlbW hCW hSW
      have a1 := numB_at hS1 gas sn hs
      have a2 : w1.cell? ⟨w.heap.size + 1, 0, none⟩ = some (.int .i64 sn) := hlb1.cell 0
      have a3 : w1.cell? ⟨w.heap.size + 1, 1, none⟩ = some (.int .i64 (-1)) := hlb1.cell 1
      go_wp2_with fail
      clear a1 a2 a3
      refine (carryHas_any w1 X S hS1 sn hs (w.heap.size + 1) w.heap.size gas (hlb1.cell 3) (hbb1.cell 0)).mono ?_
      rintro e w4 ⟨rfl, n4, hn4⟩
      have hS4 : SysAt w4 X S := by rw [hn4]; exact KEEP.out _ _ hS1
      have hbb4 : Bk w4 w.heap.size 45 #[.pointer (some ⟨X.sb, 0, none⟩)] := by rw [hn4]; exact hbb1
      have hC4 : Chg X w w4 := by rw [hn4]; exact hC1.trans (Chg.of_below (below_drewN (Below.refl _ _) _))
      clear hn4 hbb1 hlb1 hC1 hS1
      have d1 := numB_at hS4 gas sn hs
      have d2 := hS4.t.free (sn * 5 + numJ gas)
      have d3 : w4.cell? ⟨w.heap.size, 0, none⟩ = some (.pointer (some ⟨X.sb, 0, none⟩)) := hbb4.cell 0
      have e4 := hS4.cells.c41
      have e5 := (hS4.c.cell i).trans (carrA_get _ _ _ hi)
      have f5 := hS4.c.free i
      have hH4 := Lib.hid hS4
      clear hS4 hbb4
      go_wp2_with fail
      go_end0
      have hT := addN_at hH4.out gas sn hs (-m1) (by omega) (by omega)
      rw [← Int.sub_eq_add_neg] at hT
      have hE := carry_end (S := S) hT rfl i (wrap64 (S.carried i + m1))
      rw [hfl.out, hF2.out]
      exact ⟨rfl, hE, (hC4.trans (Chg.of_only (Only.setCell _ X.tb _ _) (by simp))).trans (Chg.of_only (Only.setCell _ X.cb _ _) (by simp))⟩
  · have hsrc' : src = -1 := by omega
    subst hsrc'
    by_cases hdst : 0 ≤ dst
    · obtain ⟨dn, rfl⟩ := Int.eq_ofNat_of_zero_le hdst
      simp only [Int.toNat_natCast] at *
      have hnd := numB_ok hSW.ok gas dn hd
      have hmm := Lib.hid (show m1 = flow from hm1.out)
      have hm2' := hm2.out
      simp only [Int.natCast_nonneg, if_true] at hm2'
      have hF' := hF.out
      simp only [Int.natCast_nonneg, if_true, Int.reduceNeg, show ¬ ((0 : Int) ≤ -1) from by decide, if_false] at hF'
      have hF2 := Lib.hid hF'
      have hmin : (if mostB S gas dn - numB S gas dn < flow then mostB S gas dn - numB S gas dn else flow) = m2 := by rw [hm2', hmm.out, min_go]
      have hmv := Lib.hid hm2'
      clear hm1 hm2 hm2' hF hF'
      have u6' := u6 hdst
      have hw1 : IntKind.i64.wrap (mostB S gas dn - numB S gas dn) = mostB S gas dn - numB S gas dn := IntWalk.i64_in _ (by omega)
      go_enter Tryz.func102, Tryz.ntmps102
      go_wp2_with fail
      rw [← hHW.out]
      refine (carryHas_any W X S hSW dn hd (w.heap.size + 1) w.heap.size gas (hlbW.cell 3) (hbbW.cell 0)).mono ?_
      rintro e w1 ⟨rfl, n1, hn1⟩
      have hS1 : SysAt w1 X S := by rw [hn1]; exact KEEP.out _ _ hSW
      have hbb1 : Bk w1 w.heap.size 45 #[.pointer (some ⟨X.sb, 0, none⟩)] := by rw [hn1]; exact hbbW
      have hlb1 : Bk w1 (w.heap.size + 1) 76 #[.int .i64 (-1), .int .i64 dn, .int .i64 flow, .bool gas, .slice (X.pv.iA i) valves.length (X.pv.ic i)] := by rw [hn1]; exact hlbW
      have hC1 : Chg X w w1 := by rw [hn1]; exact hCW.trans (Chg.of_below (below_drewN (Below.refl _ _) _))
      clear hn1 hbbW hlbW hCW hSW
      have e1 := numB_at hS1 gas dn hd
      have f1 := hS1.t.free (dn * 5 + numJ gas)
      have e2 : w1.cell? ⟨w.heap.size + 1, 0, none⟩ = some (.int .i64 (-1)) := hlb1.cell 0
      have e3 : w1.cell? ⟨w.heap.size, 0, none⟩ = some (.pointer (some ⟨X.sb, 0, none⟩)) := hbb1.cell 0
      have e4 := hS1.cells.c41
      have e5 := (hS1.c.cell i).trans (carrA_get _ _ _ hi)
      have f5 := hS1.c.free i
      have hH1 := Lib.hid hS1
      clear hS1 hbb1 hlb1
      go_wp2_with fail
      go_end0
      have hT := addN_at hH1.out gas dn hd m2 (by omega) (by omega)
      have hE := carry_end (S := S) hT rfl i (wrap64 (S.carried i + m2))
      rw [hfl.out, hF2.out]
      exact ⟨rfl, hE, (hC1.trans (Chg.of_only (Only.setCell _ X.tb _ _) (by simp))).trans (Chg.of_only (Only.setCell _ X.cb _ _) (by simp))⟩
    · omega
end Go.Proofs.YtogobjmmgjfjjaaGreat
/- What is proved: the rule for a region whose order is drawn, with one operation that turns old memory. Conditions: those that the rule states. -/
namespace Go.Proofs.YtogobjmmgjfjjaaGreat
open Go.RowKit

/-- What is owed for operation i, o; J false: ahead of operation m, J true: behind it. -/
def StepOkM (P : Program) (l : List Oper) (Q : Exit → Act → World → Prop) (a0 : Act) (m : Nat) (J : Bool → World → Prop) (E : Nat → World → World → Prop) (R : Nat → Value → (Nat → Value) → World → Prop) (i : Nat) (o : Oper) : Prop :=
  ∀ (a : Act) (w : World) (vs : Nat → Value) (K : Act → World → Prop) (b : Bool), (b = true → i ≠ m ∧ ancB l l.length m i = false) → J b w → (∀ t, keepB l i t = true → a.tmps[t]?.getD undef = a0.tmps[t]?.getD undef) →
    (∀ j oj d, l[j]? = some oj → oj.dst = some d → afterB o j = true → a.tmps[d]?.getD undef = vs j ∧ R j (vs j) (maskV oj vs) w) →
    (∀ j oj, l[j]? = some oj → afterB o j = true → R j (vs j) (maskV oj vs) w) →
    (∀ v w', (o.dst = none → v = undef) → J (b || i == m) w' → E i w w' → R i v (maskV o vs) w' → K (a.put o.dst v) w') →
    if Region.wanted o (yielded l.toArray a.tmps) then o.wp P a w K Q else K (a.put o.dst undef) w
def StepsOkM (P : Program) (l : List Oper) (Q : Exit → Act → World → Prop) (a0 : Act) (m : Nat) (J : Bool → World → Prop) (E : Nat → World → World → Prop) (R : Nat → Value → (Nat → Value) → World → Prop) : List Oper → Nat → Prop
  | [], _ => True
  | o :: rest, i => StepOkM P l Q a0 m J E R i o ∧ StepsOkM P l Q a0 m J E R rest (i + 1)
theorem StepsOkM.at {P : Program} {l : List Oper} {Q : Exit → Act → World → Prop} {a0 : Act} {m : Nat} {J : Bool → World → Prop} {E : Nat → World → World → Prop} {R : Nat → Value → (Nat → Value) → World → Prop} :
    ∀ (r : List Oper) (k : Nat), StepsOkM P l Q a0 m J E R r k → ∀ i o, r[i]? = some o → StepOkM P l Q a0 m J E R (k + i) o
  | [], _, _, i, o, h => by simp at h
  | x :: r, k, hs, 0, o, h => by simp at h; subst h; exact hs.1
  | x :: r, k, hs, i + 1, o, h => by
    have := StepsOkM.at r (k + 1) hs.2 i o (by simpa using h)
    rwa [show k + (i + 1) = k + 1 + i from by omega]

theorem wp_region_stepsM {P : Program} {l : List Oper} {Q : Exit → Act → World → Prop} {a0 : Act} {id : Nat} {w0 : World} (hm : P.follows .mixedOrders = true) (hB : regB l a0.tmps.size = true)
    (m : Nat) (hml : m < l.length) (J : Bool → World → Prop) (E : Nat → World → World → Prop) (R : Nat → Value → (Nat → Value) → World → Prop) (hJ : J false w0.drew)
    (hR : ∀ i j, i ≠ j → ancB l l.length i j = false → ∀ v d w w', R i v d w → E j w w' → R i v d w')
    (hs : StepsOkM P l Q a0 m J E R l 0)
    (hend : ∀ (vs : Nat → Value) (w : World), J true w → (∀ i o, l[i]? = some o → R i (vs i) (maskV o vs) w) → Q .normal (putAll l vs 0 a0) w) :
    (Code.region id l.toArray true).wp P Q a0 w0 := by
  refine wp_region_extM hm hB m J E R hJ hR ?_ (fun vs w h1 h2 => hend vs w (h1 hml) h2)
  intro i o hi a w vs b _ hz hb hj hk hv hr
  have h := StepsOkM.at l 0 hs i o hi
  rw [Nat.zero_add] at h
  have h1 := fun K hK => h a w vs K b hb hj (fun t ht => by have := hk t ht; simpa using this) (fun j oj d h1 h2 h3 => ⟨by have := hv j oj d h3 h1 h2; simpa using this, hr j oj h3 h1⟩) (fun j oj h1 h3 => hr j oj h3 h1) hK
  have h2 := h1 (fun a' w' => ∃ v, (o.dst = none → v = undef) ∧ a' = a.put o.dst v ∧ J (b || i == m) w' ∧ (w' = w → E i w w ∧ J (b || i == m) w) ∧ E i w w' ∧ R i v (maskV o vs) w') (fun v w' x1 x2 x3 x4 => ⟨v, x1, rfl, x2, fun e => by subst e; exact ⟨x3, x2⟩, x3, x4⟩)
  by_cases hw : Region.wanted o (yielded l.toArray a.tmps) = true
  · rw [if_pos hw] at h2 ⊢
    exact Oper.wp_mono (fun a' w' ⟨v, y1, y2, y3, _, y5, y6⟩ => ⟨v, y1, y2, y3, y5, y6⟩) h2
  · rw [if_neg hw] at h2 ⊢
    obtain ⟨v, x1, x2, x3, _, x4, x5⟩ := h2
    have hv' : v = undef := by
      cases hd : o.dst with
      | none => exact x1 hd
      | some d =>
        rw [hd] at x2
        have hlt := (regB_dst hB hi hd).1
        have := congrArg (fun b : Act => b.tmps.getD d undef) x2
        rw [put_getD, put_getD, if_pos ⟨rfl, by omega⟩, if_pos ⟨rfl, by omega⟩] at this
        exact this.symm
    subst hv'
    exact ⟨x3, x4, x5⟩
/-- The like, J by which operations are done and what they left. -/
def StepOkJ (P : Program) (l : List Oper) (Q : Exit → Act → World → Prop) (a0 : Act) (J : (Nat → Bool) → (Nat → Value) → World → Prop) (E : Nat → World → World → Prop) (R : Nat → Value → (Nat → Value) → World → Prop) (i : Nat) (o : Oper) : Prop :=
  ∀ (a : Act) (w : World) (vs : Nat → Value) (K : Act → World → Prop) (dn : Nat → Bool), (∀ m, dn m = true → i ≠ m ∧ ancB l l.length m i = false) → (∀ j, afterB o j = true → dn j = true) → J dn vs w → (∀ t, keepB l i t = true → a.tmps[t]?.getD undef = a0.tmps[t]?.getD undef) →
    (∀ j oj d, l[j]? = some oj → oj.dst = some d → afterB o j = true → a.tmps[d]?.getD undef = vs j ∧ R j (vs j) (maskV oj vs) w) →
    (∀ j oj, l[j]? = some oj → afterB o j = true → R j (vs j) (maskV oj vs) w) →
    (∀ v w', (o.dst = none → v = undef) → J (updB dn i) (updV vs i v) w' → E i w w' → R i v (maskV o vs) w' → K (a.put o.dst v) w') →
    if Region.wanted o (yielded l.toArray a.tmps) then o.wp P a w K Q else K (a.put o.dst undef) w
def StepsOkJ (P : Program) (l : List Oper) (Q : Exit → Act → World → Prop) (a0 : Act) (J : (Nat → Bool) → (Nat → Value) → World → Prop) (E : Nat → World → World → Prop) (R : Nat → Value → (Nat → Value) → World → Prop) : List Oper → Nat → Prop
  | [], _ => True
  | o :: rest, i => StepOkJ P l Q a0 J E R i o ∧ StepsOkJ P l Q a0 J E R rest (i + 1)
theorem StepsOkJ.at {P : Program} {l : List Oper} {Q : Exit → Act → World → Prop} {a0 : Act} {J : (Nat → Bool) → (Nat → Value) → World → Prop} {E : Nat → World → World → Prop} {R : Nat → Value → (Nat → Value) → World → Prop} :
    ∀ (r : List Oper) (k : Nat), StepsOkJ P l Q a0 J E R r k → ∀ i o, r[i]? = some o → StepOkJ P l Q a0 J E R (k + i) o
  | [], _, _, i, o, h => by simp at h
  | x :: r, k, hs, 0, o, h => by simp at h; subst h; exact hs.1
  | x :: r, k, hs, i + 1, o, h => by
    have := StepsOkJ.at r (k + 1) hs.2 i o (by simpa using h)
    rwa [show k + (i + 1) = k + 1 + i from by omega]

theorem wp_region_stepsJ {P : Program} {l : List Oper} {Q : Exit → Act → World → Prop} {a0 : Act} {id : Nat} {w0 : World} (hm : P.follows .mixedOrders = true) (hB : regB l a0.tmps.size = true)
    (J : (Nat → Bool) → (Nat → Value) → World → Prop) (E : Nat → World → World → Prop) (R : Nat → Value → (Nat → Value) → World → Prop) (hJ : ∀ vs, J (fun _ => false) vs w0.drew)
    (hR : ∀ i j, i ≠ j → ancB l l.length i j = false → ∀ v d w w', R i v d w → E j w w' → R i v d w')
    (hs : StepsOkJ P l Q a0 J E R l 0)
    (hend : ∀ (vs : Nat → Value) (dn : Nat → Bool) (w : World), (∀ i, i < l.length → dn i = true) → J dn vs w → (∀ i o, l[i]? = some o → R i (vs i) (maskV o vs) w) → Q .normal (putAll l vs 0 a0) w) :
    (Code.region id l.toArray true).wp P Q a0 w0 := by
  refine wp_region_extJ hm hB J E R hJ hR ?_ hend
  intro i o hi a w vs b _ hz hb hb2 hj hk hv hr
  have h := StepsOkJ.at l 0 hs i o hi
  rw [Nat.zero_add] at h
  have h1 := fun K hK => h a w vs K b hb hb2 hj (fun t ht => by have := hk t ht; simpa using this) (fun j oj d h1 h2 h3 => ⟨by have := hv j oj d h3 h1 h2; simpa using this, hr j oj h3 h1⟩) (fun j oj h1 h3 => hr j oj h3 h1) hK
  have h2 := h1 (fun a' w' => ∃ v, (o.dst = none → v = undef) ∧ a' = a.put o.dst v ∧ J (updB b i) (updV vs i v) w' ∧ (w' = w → E i w w ∧ J (updB b i) (updV vs i v) w) ∧ E i w w' ∧ R i v (maskV o vs) w') (fun v w' x1 x2 x3 x4 => ⟨v, x1, rfl, x2, fun e => by subst e; exact ⟨x3, x2⟩, x3, x4⟩)
  by_cases hw : Region.wanted o (yielded l.toArray a.tmps) = true
  · rw [if_pos hw] at h2 ⊢
    exact Oper.wp_mono (fun a' w' ⟨v, y1, y2, y3, _, y5, y6⟩ => ⟨v, y1, y2, y3, y5, y6⟩) h2
  · rw [if_neg hw] at h2 ⊢
    obtain ⟨v, x1, x2, x3, _, x4, x5⟩ := h2
    have hv' : v = undef := by
      cases hd : o.dst with
      | none => exact x1 hd
      | some d =>
        rw [hd] at x2
        have hlt := (regB_dst hB hi hd).1
        have := congrArg (fun b : Act => b.tmps.getD d undef) x2
        rw [put_getD, put_getD, if_pos ⟨rfl, by omega⟩, if_pos ⟨rfl, by omega⟩] at this
        exact this.symm
    subst hv'
    exact ⟨x3, x4, x5⟩
end Go.Proofs.YtogobjmmgjfjjaaGreat
/- What is proved: plain laws of what a tick does, and how a tank's number is set in memory. Conditions: those that each lemma states. -/
namespace Go.Proofs.YtogobjmmgjfjjaaGreat
open Go.RowKit

theorem allN_iff {n : Nat} {f : Nat → Bool} : allN n f = true ↔ ∀ i, i < n → f i = true := by
  unfold allN; simp [List.all_eq_true]
theorem mayB_moved {p : PlantD} {s : Spots} {st : Nat → Bool} {l : LitD} (h : mayB p (movedB p s st) l = true) : mayB p s l = true := by
  unfold mayB holdsB movedB movedK at *
  split at h
  · next hlt =>
    revert h
    cases l with
    | mk v o =>
      simp only at hlt ⊢
      generalize s v.toNat = x
      obtain ⟨pl, op⟩ := x
      generalize (p.valve v.toNat).travel = t
      unfold move1
      cases st v.toNat <;> cases op <;> cases o <;> simp <;> omega
  · exact h
theorem safeB_moved {p : PlantD} {s : Spots} (st : Nat → Bool) (h : safeB p s = true) : safeB p (movedB p s st) = true := by
  unfold safeB at *
  rw [allN_iff] at *
  intro i hi
  have := h i hi
  rw [Bool.not_eq_true', ← Bool.not_eq_true] at this ⊢
  intro hh
  apply this
  rw [allN_iff] at *
  exact fun k hk => mayB_moved (hh k hk)

def Sys.move (S : Sys) : Sys := { S with at_ := movedB S.p S.at_ S.stuck }
def linesK (S : Sys) : Nat → Sys
  | 0 => S
  | k + 1 => if openB (linesK S k) (S.p.line k) then carryB (linesK S k) k else linesK S k
def lostB (S : Sys) (i : Nat) : Int := min (S.tank i).leak (S.tank i).content
def leakS (S : Sys) (i : Nat) : Sys := S.setT i { S.tank i with content := (S.tank i).content - lostB S i, lost := wrap64 ((S.tank i).lost + lostB S i) }
def ventB (S : Sys) (i : Nat) : Int := max 0 ((S.tank i).gas - (((S.p.tank i).limit + 1) * roomB S i - 1) / 100)
def ventS (S : Sys) (i : Nat) : Sys := S.setT i { S.tank i with gas := (S.tank i).gas - ventB S i, vented := wrap64 ((S.tank i).vented + ventB S i) }
def tanksK (S : Sys) : Nat → Sys
  | 0 => S
  | k + 1 => ventS (leakS (tanksK S k) k) k
def tickB (S : Sys) : Sys := tanksK (linesK S.move S.p.lines.length) S.p.tanks.length
theorem carryB_p (S : Sys) (i : Nat) : (carryB S i).p = S.p := flowB_p S _
theorem linesK_p (S : Sys) (k : Nat) : (linesK S k).p = S.p := by
  induction k with
  | zero => rfl
  | succ k ih => unfold linesK; split
                 · rw [carryB_p, ih]
                 · exact ih
theorem tanksK_p (S : Sys) (k : Nat) : (tanksK S k).p = S.p := by
  induction k with
  | zero => rfl
  | succ k ih => exact ih

theorem SysOk.lost {S : Sys} (h : SysOk S) (i : Nat) (hi : i < S.p.tanks.length) : 0 ≤ lostB S i ∧ lostB S i ≤ (S.tank i).content ∧ lostB S i ≤ 1073741824 := by
  have h1 := h.tanks i hi; have h2 := tankOk_of h.valid i hi
  unfold lostB; omega
theorem SysOk.leakS {S : Sys} (h : SysOk S) (i : Nat) (hi : i < S.p.tanks.length) : SysOk (leakS S i) := by
  have h1 := h.tanks i hi; have h2 := h.lost i hi
  exact h.setT i _ (by simp only; omega)
theorem SysOk.limit {S : Sys} (h : SysOk S) (i : Nat) (hi : i < S.p.tanks.length) : 1 ≤ ((S.p.tank i).limit + 1) * roomB S i ∧ ((S.p.tank i).limit + 1) * roomB S i ≤ 1152921505680588800 := by
  have h1 := h.room i hi; have h2 := tankOk_of h.valid i hi
  constructor
  · have := Int.mul_le_mul (a := 1) (b := 1) (c := (S.p.tank i).limit + 1) (d := roomB S i) (by omega) (by omega) (by omega) (by omega)
    omega
  · have := Int.mul_le_mul (a := (S.p.tank i).limit + 1) (b := roomB S i) (c := 1073741825) (d := 1073741824) (by omega) (by omega) (by omega) (by omega)
    omega
theorem SysOk.vent {S : Sys} (h : SysOk S) (i : Nat) (hi : i < S.p.tanks.length) : 0 ≤ ventB S i ∧ ventB S i ≤ (S.tank i).gas := by
  have h1 := h.tanks i hi; have h2 := h.limit i hi
  unfold ventB
  omega
theorem SysOk.ventS {S : Sys} (h : SysOk S) (i : Nat) (hi : i < S.p.tanks.length) : SysOk (ventS S i) := by
  have h1 := h.tanks i hi; have h2 := h.vent i hi
  exact h.setT i _ (by simp only; omega)

/-- One number of a tank. -/
theorem SysAt.setNum {w : World} {X : SX} {S : Sys} (h : SysAt w X S) (i : Nat) (hi : i < S.p.tanks.length) (j : Nat) (hj : j < 5) (v : Int) (ok : SysOk (S.setT i (setTank (S.tank i) j v))) :
    SysAt (w.setCell ⟨X.tb, i * 5 + j, none⟩ (.int .i64 v)) X (S.setT i (setTank (S.tank i) j v)) ∧ Chg X w (w.setCell ⟨X.tb, i * 5 + j, none⟩ (.int .i64 v)) := by
  have ho := Only.setCell w X.tb (i * 5 + j) (.int .i64 v)
  obtain ⟨n1, n2, n3, _, _, _⟩ := h.ne
  refine ⟨h.turn (Chg.of_only ho (by simp)) rfl (h.s.only ho n1) ?_ (h.c.only ho (Ne.symm n3)) ok, Chg.of_only ho (by simp)⟩
  have := h.t.set (i * 5 + j) (.int .i64 v)
  rw [tanksA_set _ _ _ _ hi hj] at this
  exact this
theorem setT_setT (S : Sys) (i : Nat) (a b : TankS) : (S.setT i a).setT i b = S.setT i b := by
  unfold Sys.setT; congr 1; funext k; by_cases h : k = i <;> simp [h]
theorem setT_tank (S : Sys) (i : Nat) (a : TankS) : (S.setT i a).tank i = a := by unfold Sys.setT; simp
/-- Two numbers of a tank. -/
theorem SysAt.setNums {w : World} {X : SX} {S : Sys} (h : SysAt w X S) (i : Nat) (hi : i < S.p.tanks.length) (j j2 : Nat) (hj : j < 5) (hj2 : j2 < 5) (v v2 : Int) (T : Sys) (hT : T = S.setT i (setTank (setTank (S.tank i) j v) j2 v2))
    (ok1 : SysOk (S.setT i (setTank (S.tank i) j v))) (ok : SysOk T) :
    SysAt ((w.setCell ⟨X.tb, i * 5 + j, none⟩ (.int .i64 v)).setCell ⟨X.tb, i * 5 + j2, none⟩ (.int .i64 v2)) X T ∧ Chg X w ((w.setCell ⟨X.tb, i * 5 + j, none⟩ (.int .i64 v)).setCell ⟨X.tb, i * 5 + j2, none⟩ (.int .i64 v2)) := by
  subst hT
  obtain ⟨a1, a2⟩ := h.setNum i hi j hj v ok1
  have e : S.setT i (setTank (setTank (S.tank i) j v) j2 v2) = (S.setT i (setTank (S.tank i) j v)).setT i (setTank ((S.setT i (setTank (S.tank i) j v)).tank i) j2 v2) := by rw [setT_tank, setT_setT]
  obtain ⟨b1, b2⟩ := a1.setNum i hi j2 hj2 v2 (by rw [← e]; exact ok)
  rw [← e] at b1
  exact ⟨b1, a2.trans b2⟩
end Go.Proofs.YtogobjmmgjfjjaaGreat
/- What is proved: a contract of Tick of engine.System. Conditions: the system lies in memory. -/
namespace Go.Proofs.YtogobjmmgjfjjaaGreat
open Go.RowKit

theorem SysAt.loadStuck {w : World} {X : SX} {S : Sys} (h : SysAt w X S) : ∀ j u, (stuckA S.stuck)[j]? = some u → w.cell? ⟨X.sb, 28 + j, none⟩ = some u := fun j u hj => by
  rw [h.s.cell]; exact sysA_stuck X S j u hj
theorem und_stuck : Tryz.prog.underlying 106 = some (.array (match Tryz.prog.underlying 106 with | some (.array n _) => n | _ => 0) (match Tryz.prog.underlying 106 with | some (.array _ t) => t | _ => 0)) := by kernel_rfl
theorem SysAt.move {w w' : World} {X : SX} {S : Sys} (h : SysAt w X S) (ho : Only X.sb w w') (hr : Bk w' X.sb 111 (splA (sysA X S) 4 (spotsA S.move.at_).toList)) : SysAt w' X S.move ∧ Chg X w w' := by
  rw [sysA_setSpots] at hr
  obtain ⟨n1, n2, n3, _, _, _⟩ := h.ne
  exact ⟨h.turn (Chg.of_only ho (by simp)) rfl hr (h.t.only ho (Ne.symm n1)) (h.c.only ho (Ne.symm n2)) ⟨h.ok.valid, movedB_ok h.ok.spots _, safeB_moved _ h.ok.safe, h.ok.tanks⟩, Chg.of_only ho (by simp)⟩

set_option maxRecDepth 100000 in
set_option maxHeartbeats 4000000 in
theorem tick_any (w : World) (X : SX) (S : Sys) (h : SysAt w X S) :
    Calls Tryz.prog 36 #[.pointer (some ⟨X.sb, 0, none⟩)] w fun e w' => e = .returned (.int .i64 0) ∧ SysAt w' X (tickB S) ∧ Chg X w w' := by
  have HI := Lib.hid (is_any w X S h)
  have h0 := Lib.hid h
  clear h
  go_enter Tryz.func36, Tryz.ntmps36
  go_wp2_with (first | (go_at_call 84; refine HI.out.mono ?_; rintro e w' ⟨rfl, rfl⟩))
  have h := h0.out
  refine wp_region_stepsM (by kernel_rfl) (by kernel_rfl) 16 (by decide) (fun b w1 => if b = true then SysAt w1 X S.move ∧ Chg X w w1 else Below w.heap.size w w1)
    (fun _ _ _ => True)
    (fun i u d w1 => match i with
      | 0 | 1 | 2 | 5 | 6 | 9 | 10 | 3 | 14 => u = .pointer (some ⟨X.sb, 0, none⟩)
      | 7 | 15 => u = .pointer (some ⟨X.sb, 4, none⟩)
      | 11 => u = .pointer (some ⟨X.sb, 28, none⟩)
      | 4 => u = .agg (plantA X.pv S.p)
      | 8 => u = .agg (spotsA S.at_)
      | 12 => u = .agg (stuckA S.stuck)
      | 13 => u = .agg (spotsA S.move.at_)
      | _ => True) (Below.refl _ _).drew (fun _ _ _ _ _ _ _ _ h _ => h) ?_ ?_
  · have HS := Lib.hid fun (w1 : World) (hw1 : Below w.heap.size w w1) => h.below hw1
    have HC := Lib.hid fun (w1 : World) (hw1 : Below w.heap.size w w1) => moved_any w1 X.pv S.p (h.below hw1).plantAt h.valves S.at_ h.ok.spots S.stuck
    clear h HI h0
    refine ⟨?_, ?_, ?_, ?_, ?_, ?_, ?_, ?_, ?_, ?_, ?_, ?_, ?_, ?_, ?_, ?_, ?_, trivial⟩
    · intro a w1 vs K b Hb HJ HK HD HN k; obtain rfl : b = false := by cases b with | false => rfl | true => exact absurd (Hb rfl).2 (by decide)
      have HJ' : Below w.heap.size w w1 := HJ
      have k0 := HK 0 (by decide); go_simp; exact k _ _ (by simp) HJ trivial rfl
    · intro a w1 vs K b Hb HJ HK HD HN k; obtain rfl : b = false := by cases b with | false => rfl | true => exact absurd (Hb rfl).2 (by decide)
      have HJ' : Below w.heap.size w w1 := HJ
      have k0 := HK 0 (by decide); go_simp; exact k _ _ (by simp) HJ trivial rfl
    · intro a w1 vs K b Hb HJ HK HD HN k; obtain rfl : b = false := by cases b with | false => rfl | true => exact absurd (Hb rfl).2 (by decide)
      have HJ' : Below w.heap.size w w1 := HJ
      have e1 := (HD 1 _ 13 rfl rfl rfl).1.trans (HD 1 _ 13 rfl rfl rfl).2; go_simp; exact k _ _ (by simp) HJ trivial rfl
    · intro a w1 vs K b Hb HJ HK HD HN k; obtain rfl : b = false := by cases b with | false => rfl | true => exact absurd (Hb rfl).2 (by decide)
      have HJ' : Below w.heap.size w w1 := HJ
      have e2 := (HD 2 _ 14 rfl rfl rfl).1.trans (HD 2 _ 14 rfl rfl rfl).2; go_simp; exact k _ _ (by simp) HJ trivial rfl
    · intro a w1 vs K b Hb HJ HK HD HN k; obtain rfl : b = false := by cases b with | false => rfl | true => exact absurd (Hb rfl).2 (by decide)
      have HJ' : Below w.heap.size w w1 := HJ
      have e3 := (HD 3 _ 15 rfl rfl rfl).1.trans (HD 3 _ 15 rfl rfl rfl).2; exact wpo_loadS 27 (.tmp 15) rfl _ 0 (by simpa [Act.eval] using e3) (plantA X.pv S.p) _ (HS.out w1 HJ').loadPlant und_plant rfl info_plant (k _ _ (by simp) HJ trivial rfl)
    · intro a w1 vs K b Hb HJ HK HD HN k; obtain rfl : b = false := by cases b with | false => rfl | true => exact absurd (Hb rfl).2 (by decide)
      have HJ' : Below w.heap.size w w1 := HJ
      have k0 := HK 0 (by decide); go_simp; exact k _ _ (by simp) HJ trivial rfl
    · intro a w1 vs K b Hb HJ HK HD HN k; obtain rfl : b = false := by cases b with | false => rfl | true => exact absurd (Hb rfl).2 (by decide)
      have HJ' : Below w.heap.size w w1 := HJ
      have e5 := (HD 5 _ 17 rfl rfl rfl).1.trans (HD 5 _ 17 rfl rfl rfl).2; go_simp; exact k _ _ (by simp) HJ trivial rfl
    · intro a w1 vs K b Hb HJ HK HD HN k; obtain rfl : b = false := by cases b with | false => rfl | true => exact absurd (Hb rfl).2 (by decide)
      have HJ' : Below w.heap.size w w1 := HJ
      have e6 := (HD 6 _ 18 rfl rfl rfl).1.trans (HD 6 _ 18 rfl rfl rfl).2; go_simp; exact k _ _ (by simp) HJ trivial rfl
    · intro a w1 vs K b Hb HJ HK HD HN k; obtain rfl : b = false := by cases b with | false => rfl | true => exact absurd (Hb rfl).2 (by decide)
      have HJ' : Below w.heap.size w w1 := HJ
      have e7 := (HD 7 _ 19 rfl rfl rfl).1.trans (HD 7 _ 19 rfl rfl rfl).2; exact wpo_loadS 105 (.tmp 19) rfl _ 4 (by simpa [Act.eval] using e7) (spotsA S.at_) _ (HS.out w1 HJ').loadSpots und_spots rfl (info_spots_s _) (k _ _ (by simp) HJ trivial rfl)
    · intro a w1 vs K b Hb HJ HK HD HN k; obtain rfl : b = false := by cases b with | false => rfl | true => exact absurd (Hb rfl).2 (by decide)
      have HJ' : Below w.heap.size w w1 := HJ
      have k0 := HK 0 (by decide); go_simp; exact k _ _ (by simp) HJ trivial rfl
    · intro a w1 vs K b Hb HJ HK HD HN k; obtain rfl : b = false := by cases b with | false => rfl | true => exact absurd (Hb rfl).2 (by decide)
      have HJ' : Below w.heap.size w w1 := HJ
      have e9 := (HD 9 _ 21 rfl rfl rfl).1.trans (HD 9 _ 21 rfl rfl rfl).2; go_simp; exact k _ _ (by simp) HJ trivial rfl
    · intro a w1 vs K b Hb HJ HK HD HN k; obtain rfl : b = false := by cases b with | false => rfl | true => exact absurd (Hb rfl).2 (by decide)
      have HJ' : Below w.heap.size w w1 := HJ
      have e10 := (HD 10 _ 22 rfl rfl rfl).1.trans (HD 10 _ 22 rfl rfl rfl).2; go_simp; exact k _ _ (by simp) HJ trivial rfl
    · intro a w1 vs K b Hb HJ HK HD HN k; obtain rfl : b = false := by cases b with | false => rfl | true => exact absurd (Hb rfl).2 (by decide)
      have HJ' : Below w.heap.size w w1 := HJ
      have e11 := (HD 11 _ 23 rfl rfl rfl).1.trans (HD 11 _ 23 rfl rfl rfl).2; exact wpo_loadS 106 (.tmp 23) rfl _ 28 (by simpa [Act.eval] using e11) (stuckA S.stuck) _ (HS.out w1 HJ').loadStuck und_stuck rfl info_stuck (k _ _ (by simp) HJ trivial rfl)
    · intro a w1 vs K b Hb HJ HK HD HN k; obtain rfl : b = false := by cases b with | false => rfl | true => exact absurd (Hb rfl).2 (by decide)
      have HJ' : Below w.heap.size w w1 := HJ
      have e4 := (HD 4 _ 16 rfl rfl rfl).1.trans (HD 4 _ 16 rfl rfl rfl).2; have e8 := (HD 8 _ 20 rfl rfl rfl).1.trans (HD 8 _ 20 rfl rfl rfl).2; have e12 := (HD 12 _ 24 rfl rfl rfl).1.trans (HD 12 _ 24 rfl rfl rfl).2
      exact wpo_call 100 _ _ rfl #[.agg (plantA X.pv S.p), .agg (spotsA S.at_), .agg (stuckA S.stuck)] (by simp [Act.eval, e4, e8, e12]) (fun args w => by kernel_rfl)
        ((HC.out w1 HJ').mono fun e w' ⟨he, hb⟩ => ⟨_, he, k _ _ (by simp) (HJ'.trans (hb.mono HJ'.size)) trivial rfl⟩)
    · intro a w1 vs K b Hb HJ HK HD HN k; obtain rfl : b = false := by cases b with | false => rfl | true => exact absurd (Hb rfl).2 (by decide)
      have HJ' : Below w.heap.size w w1 := HJ
      have e0 := (HD 0 _ 12 rfl rfl rfl).1.trans (HD 0 _ 12 rfl rfl rfl).2; go_simp; exact k _ _ (by simp) HJ trivial rfl
    · intro a w1 vs K b Hb HJ HK HD HN k; obtain rfl : b = false := by cases b with | false => rfl | true => exact absurd (Hb rfl).2 (by decide)
      have HJ' : Below w.heap.size w w1 := HJ
      have e14 := (HD 14 _ 26 rfl rfl rfl).1.trans (HD 14 _ 26 rfl rfl rfl).2; go_simp; exact k _ _ (by simp) HJ trivial rfl
    · intro a w1 vs K b Hb HJ HK HD HN k; obtain rfl : b = false := by cases b with | false => rfl | true => exact absurd rfl (Hb rfl).1
      have HJ' : Below w.heap.size w w1 := HJ
      have e13 := (HD 13 _ 25 rfl rfl rfl).1.trans (HD 13 _ 25 rfl rfl rfl).2; have e15 := (HD 15 _ 27 rfl rfl rfl).1.trans (HD 15 _ 27 rfl rfl rfl).2
      refine wpo_storeS 105 (.tmp 27) (.tmp 25) rfl rfl X.sb 4 (by simpa [Act.eval] using e15) (spotsA S.move.at_) (by simpa [Act.eval] using e13) _ (sysA X S) (HS.out w1 HJ').s (by rw [spotsA_size, sysA_size]; omega) (spotsA_one _) (info_spots_s _) ?_
      intro w2 hk2 ho2
      obtain ⟨q1, q2⟩ := (HS.out w1 HJ').move ho2 hk2
      exact k _ _ (by simp) ⟨q1, (Chg.of_below HJ').trans q2⟩ trivial trivial
  · intro vs w1 hw1 hr
    have hw2 : SysAt w1 X S.move ∧ Chg X w w1 := hw1
    obtain ⟨h1, hC⟩ := hw2
    clear hw1 hr h h0 HI
    obtain ⟨A, hA⟩ : ∃ A, X.pv.lA = A := ⟨_, rfl⟩
    obtain ⟨n, hn⟩ : ∃ n, n = S.p.lines.length := ⟨_, rfl⟩
    obtain ⟨m, hm⟩ : ∃ m, m = S.p.tanks.length := ⟨_, rfl⟩
    have c2 := h1.cells.c2
    have c3 := h1.cells.c40
    rw [hA, show S.move.p = S.p from rfl, ← hn] at c2
    have H1 := Lib.hid h1
    have HC := Lib.hid hC
    have HA := Lib.hid hA
    have HN := Lib.hid hn
    have HM := Lib.hid hm
    have hn32 : n ≤ 32 := by have := h1.lens; have e : S.move.p = S.p := rfl; rw [e] at this; omega
    clear h1 hC hA hn hm
    simp only [putAll, Act.put]
    go_simp
    go_wp2_with fail
    go_loopw [34] (fun i wr => ∃ k : Nat, k ≤ n ∧ i = .int .i64 k ∧ SysAt wr X (linesK S.move k) ∧ Chg X w wr) (fun i _ => n - (intOf i).toNat)
    case atStart => exact ⟨0, Nat.zero_le _, rfl, H1.out, HC.out⟩
    case round =>
      obtain ⟨k, hk, rfl, hS, hCr⟩ := hrel
      have hp : (linesK S.move k).p = S.p := linesK_p _ _
      by_cases hlt : k < n
      · have hkl : k < (linesK S.move k).p.lines.length := by rw [hp, ← HN.out]; exact hlt
        have hki : (k : Int) < (n : Int) := by omega
        have h0i : (0 : Int) ≤ (k : Int) := by omega
        obtain ⟨b, off, hA', hB, d0, d1, d2, d3, d4⟩ := hS.plantAt.lines.at5 hkl
        simp only [lineC] at d0 d1 d2 d3 d4
        rw [HA.out] at hA'
        subst hA'
        have hb0 : ∀ o, Below wr.heap.size wr (wr.alloc o) := fun o => (Below.refl _ _).alloc (Nat.le_refl _) _
        have HO := Lib.hid fun o => open_any (wr.alloc o) X (linesK S.move k) (hS.below (hb0 o)) k hkl
        simp only [lineC] at HO
        rw [hp] at d0 d1 d2 d3 d4 HO
        have HCA := Lib.hid fun w2 hw2 => carry_any w2 X (linesK S.move k) hw2 k hkl
        have HS := Lib.hid hS
        have HCr := Lib.hid hCr
        have hsucc := Lib.hid (show linesK S.move (k + 1) = if openB (linesK S.move k) (S.p.line k) then carryB (linesK S.move k) k else linesK S.move k from rfl)
        clear hS hCr hp hkl
        go_wp2_with fail
        refine (HO.out _).mono ?_
        rintro e w2 ⟨rfl, hbo⟩
        have hS2 : SysAt w2 X (linesK S.move k) := (HS.out.below (hb0 _)).below hbo
        have hC2 : Chg X w w2 := HCr.out.trans (Chg.of_below ((hb0 _).trans (hbo.mono (by simp))))
        cases ho : openB (linesK S.move k) (S.p.line k) with
        | true =>
          have HH := Lib.hid ho
          clear ho hbo
          have HS2 := Lib.hid hS2
          have HC2 := Lib.hid hC2
          clear hS2 hC2
          go_wp2_with fail
          refine (HCA.out w2 HS2.out).mono ?_
          rintro e w3 ⟨rfl, hS3, hC3⟩
          have HS3 := Lib.hid hS3
          have HC3 := Lib.hid hC3
          clear hS3 hC3
          go_wp2_with fail
          go_roundw
          case rel => exact ⟨k + 1, by omega, by go_num, by rw [hsucc.out, HH.out]; exact HS3.out, HC2.out.trans HC3.out⟩
          case measure => simp [intOf]; omega
        | false =>
          have HH := Lib.hid ho
          clear ho hbo
          have HS2 := Lib.hid hS2
          have HC2 := Lib.hid hC2
          clear hS2 hC2
          go_wp2_with fail
          go_roundw
          case rel => exact ⟨k + 1, by omega, by go_num, by rw [hsucc.out, HH.out]; exact HS2.out, HC2.out⟩
          case measure => simp [intOf]; omega
      · obtain rfl : k = n := by omega
        clear H1 HC c2 c3 hlt
        have c3 := hS.cells.c40
        rw [hp, ← HM.out] at c3
        have HS := Lib.hid hS
        have HCr := Lib.hid hCr
        clear hS hCr hp
        go_wp2_with fail
        obtain ⟨SL, hSL⟩ : ∃ SL, SL = linesK S.move k := ⟨_, rfl⟩
        have HSL := Lib.hid hSL
        have HPL := Lib.hid (show SL.p = S.p by rw [hSL]; exact linesK_p _ _)
        rw [← hSL] at HS
        have hm16 : m ≤ 16 := by have := HS.out.lens; rw [HPL.out, ← HM.out] at this; omega
        clear hSL
        go_loopw [51] (fun i wr => ∃ k : Nat, k ≤ m ∧ i = .int .i64 k ∧ SysAt wr X (tanksK SL k) ∧ Chg X w wr) (fun i _ => m - (intOf i).toNat)
        case atStart => exact ⟨0, Nat.zero_le _, rfl, HS.out, HCr.out⟩
        case round =>
          clear HS HCr c3
          obtain ⟨j, hj, rfl, hS, hCr⟩ := hrel
          have hp : (tanksK SL j).p = S.p := (tanksK_p _ _).trans HPL.out
          have c3 := hS.cells.c40
          rw [hp, ← HM.out] at c3
          by_cases hlt : j < m
          · have hsucc := Lib.hid (show tanksK SL (j + 1) = ventS (leakS (tanksK SL j) j) j from rfl)
            obtain ⟨ST, hST⟩ : ∃ ST, ST = tanksK SL j := ⟨_, rfl⟩
            rw [← hST] at hS hp hsucc
            have HST := Lib.hid hST
            clear hST
            have hjl : j < ST.p.tanks.length := by rw [hp, ← HM.out]; exact hlt
            obtain ⟨t0, t1, t2, t3, t4⟩ := hS.tankCells j hjl
            have o1 := hS.ok.lost j hjl
            have o2 := hS.ok.tanks j hjl
            have o3 := tankOk_of hS.ok.valid j hjl
            have hmin : (if (ST.tank j).content < (ST.tank j).leak then (ST.tank j).content else (ST.tank j).leak) = lostB ST j := (min_go _ _).symm
            have hw1 : IntKind.i64.wrap ((ST.tank j).content - lostB ST j) = (ST.tank j).content - lostB ST j := IntWalk.i64_in _ (by omega)
            have hji : (j : Int) < (m : Int) := by omega
            have h0i : (0 : Int) ≤ (j : Int) := by omega
            have f0 := hS.t.free (j * 5)
            have f3 := hS.t.free (j * 5 + 3)
            have HS := Lib.hid hS
            have HCr := Lib.hid hCr
            have HP := Lib.hid hp
            clear hS hCr hp
            go_wp2_with fail
            go_region
            go_wp2_with fail
            go_region
            go_wp2_with fail
            obtain ⟨W, hW⟩ : ∃ W, W = ((wr.setCell ⟨X.tb, j * 5, none⟩ (.int .i64 ((ST.tank j).content - lostB ST j))).setCell ⟨X.tb, j * 5 + 3, none⟩ (.int .i64 (wrap64 ((ST.tank j).lost + lostB ST j)))).drew.drew := ⟨_, rfl⟩
            rw [← hW]
            have hT : SysAt W X (leakS ST j) ∧ Chg X wr W := by
              have := HS.out.setNums j hjl 0 3 (by omega) (by omega) ((ST.tank j).content - lostB ST j) (wrap64 ((ST.tank j).lost + lostB ST j)) (leakS ST j) rfl (HS.out.ok.setT j _ (by simp only [setTank]; omega)) (HS.out.ok.leakS j hjl)
              rw [hW]
              exact ⟨this.1.keep (fun _ _ _ => rfl) (Nat.le_refl _), this.2.trans (Chg.of_below (below_drewN (Below.refl _ _) 2))⟩
            obtain ⟨hT, hCT⟩ := hT
            have hCr2 := HCr.out.trans hCT
            clear hW hCT t0 t1 t2 t3 t4 f0 f3 c3 hmin hw1 o1 o2 o3
            obtain ⟨T, hTE⟩ : ∃ T, T = leakS ST j := ⟨_, rfl⟩
            rw [← hTE] at hT hsucc
            have hp : T.p = S.p := by rw [hTE]; exact HP.out
            have HTE := Lib.hid hTE
            clear hTE HS HCr HST HP hjl
            have hjl : j < T.p.tanks.length := by rw [hp, ← HM.out]; exact hlt
            obtain ⟨t0, t1, t2, t3, t4⟩ := hT.tankCells j hjl
            have c3 := hT.cells.c40
            have c0 := hT.cells.c0
            obtain ⟨b, off, hA', hB, _, _, _, d3⟩ := hT.plantAt.tanks.at4 hjl
            simp only [tankC] at d3
            rw [hA'] at c0
            have o2 := hT.ok.tanks j hjl
            have o3 := tankOk_of hT.ok.valid j hjl
            have o4 := hT.ok.vent j hjl
            have o5 := hT.ok.limit j hjl
            have f1 := hT.t.free (j * 5 + 1)
            have f4 := hT.t.free (j * 5 + 4)
            rw [hp, ← HM.out] at c3 c0
            have HR := Lib.hid fun n => room_any (W.drewN n) X T (hT.keep (fun _ _ _ => rfl) (Nat.le_refl _)) j hjl
            have hw1 : IntKind.i64.wrap ((T.p.tank j).limit + 1) = (T.p.tank j).limit + 1 := IntWalk.i64_in _ (by omega)
            have hw2 : IntKind.i64.wrap (((T.p.tank j).limit + 1) * roomB T j) = ((T.p.tank j).limit + 1) * roomB T j := IntWalk.i64_in _ (by omega)
            have hw3 : IntKind.i64.wrap (((T.p.tank j).limit + 1) * roomB T j - 1) = ((T.p.tank j).limit + 1) * roomB T j - 1 := IntWalk.i64_in _ (by omega)
            have hq : (((T.p.tank j).limit + 1) * roomB T j - 1).tdiv 100 = (((T.p.tank j).limit + 1) * roomB T j - 1) / 100 := Int.tdiv_eq_ediv_of_nonneg (by omega)
            have hw4 : IntKind.i64.wrap ((((T.p.tank j).limit + 1) * roomB T j - 1) / 100) = (((T.p.tank j).limit + 1) * roomB T j - 1) / 100 := IntWalk.i64_in _ (by omega)
            have hw5 : IntKind.i64.wrap ((T.tank j).gas - (((T.p.tank j).limit + 1) * roomB T j - 1) / 100) = (T.tank j).gas - (((T.p.tank j).limit + 1) * roomB T j - 1) / 100 := IntWalk.i64_in _ (by omega)
            have hmax : (if (((T.p.tank j).limit + 1) * roomB T j - 1) / 100 < (T.tank j).gas then (T.tank j).gas - (((T.p.tank j).limit + 1) * roomB T j - 1) / 100 else 0) = ventB T j := by unfold ventB; split <;> omega
            have hw6 : IntKind.i64.wrap ((T.tank j).gas - ventB T j) = (T.tank j).gas - ventB T j := IntWalk.i64_in _ (by omega)
            have HT := Lib.hid hT
            have HCr := Lib.hid hCr2
            have HP := Lib.hid hp
            have HO := Lib.hid o5
            clear hT hCr2 hp hA' o5
            go_quiet ((go_at_call 103; exact Calls.quiet_of (HR.out _)))
            go_wp2_with fail
            go_region
            go_wp2_with fail
            have hv := (HT.out.keep (w' := W.drewN nq) (fun _ _ _ => rfl) (Nat.le_refl _)).setNums j hjl 1 4 (by omega) (by omega) ((T.tank j).gas - ventB T j) (wrap64 ((T.tank j).vented + ventB T j)) (ventS T j) rfl (HT.out.ok.setT j _ (by simp only [setTank]; omega)) (HT.out.ok.ventS j hjl)
            go_roundw
            case rel => exact ⟨j + 1, by omega, by go_num, by rw [hsucc.out]; exact hv.1.keep (fun _ _ _ => rfl) (Nat.le_refl _), (HCr.out.trans (Chg.of_below (below_drewN (Below.refl _ _) _))).trans (hv.2.trans (Chg.of_below (below_drewN (Below.refl _ _) 1)))⟩
            case measure => simp [intOf]; omega
          · obtain rfl : j = m := by omega
            have HS := Lib.hid hS
            have HCr := Lib.hid hCr
            clear hS hCr hp c3 hlt
            go_wp2_with fail
            go_ret
            refine ⟨rfl, ?_, HCr.out⟩
            have e : tickB S = tanksK SL j := by rw [HM.out, HSL.out, HN.out]; rfl
            rw [e]; exact HS.out
end Go.Proofs.YtogobjmmgjfjjaaGreat
