/- What is proved: contracts of engine.moved and engine.order. Conditions: the plant lies in memory as the plain data say and is valid; the places are within the travels. -/
import Derived.Test.YtogobjmmgjfjjaaB5
import Derived.RegionTactic
import Derived.ChangeAlike
namespace Go.Proofs.Ytogobjmmgjfjjaa
open Go.RowKit

def stuckA (st : Nat → Bool) : Array Value := #[.bool (st 0), .bool (st 1), .bool (st 2), .bool (st 3), .bool (st 4), .bool (st 5), .bool (st 6), .bool (st 7), .bool (st 8), .bool (st 9), .bool (st 10), .bool (st 11)]
theorem stuckA_size (st : Nat → Bool) : (stuckA st).size = 12 := rfl
theorem stuck_get (st : Nat → Bool) (i : Nat) (hi : i < 12) : (stuckA st)[i]? = some (.bool (st i)) := by
  match i, hi with
  | 0, _ => rfl
  | 1, _ => rfl
  | 2, _ => rfl
  | 3, _ => rfl
  | 4, _ => rfl
  | 5, _ => rfl
  | 6, _ => rfl
  | 7, _ => rfl
  | 8, _ => rfl
  | 9, _ => rfl
  | 10, _ => rfl
  | 11, _ => rfl
theorem stuck_set (st : Nat → Bool) (i : Nat) (hi : i < 12) (b : Bool) : (stuckA st).setIfInBounds i (.bool b) = stuckA fun k => if k = i then b else st k := by
  match i, hi with
  | 0, _ => rfl
  | 1, _ => rfl
  | 2, _ => rfl
  | 3, _ => rfl
  | 4, _ => rfl
  | 5, _ => rfl
  | 6, _ => rfl
  | 7, _ => rfl
  | 8, _ => rfl
  | 9, _ => rfl
  | 10, _ => rfl
  | 11, _ => rfl

theorem min_go (a b : Int) : min a b = if b < a then b else a := by split <;> omega
theorem max_go (a b : Int) : max a b = if a < b then b else a := by split <;> omega
/-- One valve, one tick on. -/
def move1 (travel : Int) (stuck : Bool) (x : SpotD) : SpotD :=
  if stuck then x else if x.opn then ⟨min (x.place + 1) travel, x.opn⟩ else ⟨max (x.place - 1) 0, x.opn⟩
def movedK (p : PlantD) (s : Spots) (st : Nat → Bool) (k : Nat) : Spots := fun i => if i < k then move1 (p.valve i).travel (st i) (s i) else s i
def movedB (p : PlantD) (s : Spots) (st : Nat → Bool) : Spots := movedK p s st p.valves.length
/-- Where valves can be: from 0 to their travel; beyond the valves all is zero. -/
def SpotsOk (p : PlantD) (s : Spots) : Prop := (∀ i, i < p.valves.length → 0 ≤ (s i).place ∧ (s i).place ≤ (p.valve i).travel) ∧ ∀ i, p.valves.length ≤ i → s i = SpotD.zero
theorem SpotsOk.places {p : PlantD} {s : Spots} (h : SpotsOk p s) (hv : ValvesOk p) : PlacesOk s := by
  intro i
  by_cases hi : i < p.valves.length
  · have h1 := h.1 i hi; have h2 := hv.2 i hi; omega
  · rw [h.2 i (by omega)]; simp [SpotD.zero]
theorem move1_ok {t : Int} {b : Bool} {x : SpotD} (h0 : 0 ≤ x.place) (h1 : x.place ≤ t) : 0 ≤ (move1 t b x).place ∧ (move1 t b x).place ≤ t := by
  unfold move1
  split
  · exact ⟨h0, h1⟩
  · split <;> simp only <;> omega
theorem movedB_ok {p : PlantD} {s : Spots} (h : SpotsOk p s) (st : Nat → Bool) : SpotsOk p (movedB p s st) := by
  refine ⟨fun i hi => ?_, fun i hi => ?_⟩
  · unfold movedB movedK; rw [if_pos hi]; exact move1_ok (h.1 i hi).1 (h.1 i hi).2
  · unfold movedB movedK; rw [if_neg (by omega)]; exact h.2 i hi
theorem firstB_spots {p : PlantD} (hv : ValvesOk p) : SpotsOk p (firstB p) := by
  refine ⟨fun i hi => ?_, fun i hi => ?_⟩
  · unfold firstB
    have := hv.2 i hi
    split
    · simp only; omega
    · simp [SpotD.zero]; omega
  · unfold firstB; rw [if_neg (by omega)]
theorem movedK_zero (p : PlantD) (s : Spots) (st : Nat → Bool) : movedK p s st 0 = s := by funext i; simp [movedK]
theorem movedK_succ (p : PlantD) (s : Spots) (st : Nat → Bool) (k : Nat) : movedK p s st (k + 1) = fun i => if i = k then move1 (p.valve k).travel (st k) (movedK p s st k k) else movedK p s st k i := by
  funext i
  unfold movedK
  by_cases hi : i = k
  · subst hi; simp
  · have : (i < k + 1) = (i < k) := by simp; omega
    simp [this, hi]
theorem movedK_at (p : PlantD) (s : Spots) (st : Nat → Bool) (k : Nat) : movedK p s st k k = s k := by simp [movedK]

theorem info_stuck : (Try.prog.info? 77).map (·.size) = some 12 := by kernel_rfl

set_option maxRecDepth 100000 in
set_option maxHeartbeats 2000000 in
theorem moved_any (w : World) (x : PV) (p : PlantD) (h : PlantAt w w.heap.size x p) (hv : ValvesOk p) (s : Spots) (hs : SpotsOk p s) (st : Nat → Bool) :
    Calls Try.prog 37 #[.agg (plantA x p), .agg (spotsA s), .agg (stuckA st)] w fun e w' => e = .returned (.agg (spotsA (movedB p s st))) ∧ Below w.heap.size w w' := by
  obtain ⟨tA, tc, vA, vc, lA, lc, nA, nc, iA, ic, jA, jc⟩ := x
  have hsl : Sl w w.heap.size 3 vA p.valves.length fun i => valveC (p.valve i) := h.valves
  have hn := hsl.1
  have hn12 := hv.1
  have hvt := Lib.hid hv.2
  have hst := Lib.hid hs
  have hz := spotsA_size s
  have hz2 := stuckA_size st
  clear hv h hs
  dsimp only [plantA]
  go_enter Try.func37, Try.ntmps37
  go_wp2_with fail
  go_loopw [12] (fun i wr => ∃ k : Nat, k ≤ p.valves.length ∧ i = .int .i64 k ∧ Bk wr (w.heap.size + 1 + 1 + 1) 74 (spotsA zeroS) ∧ Bk wr (w.heap.size + 1) 74 (spotsA (movedK p s st k)) ∧ Bk wr (w.heap.size + 1 + 1) 77 (stuckA st) ∧ Below w.heap.size w wr) (fun i _ => p.valves.length - (intOf i).toNat)
  case atStart =>
    refine ⟨0, Nat.zero_le _, rfl, Bk.newAt _ _ (spotsA zeroS) _ (by simp), ?_, ?_, ((((Below.refl _ _).alloc (Nat.le_refl _) _).alloc (by simp) _).alloc (by simp; omega) _).alloc (by simp; omega) _⟩
    · rw [movedK_zero]; exact ((Bk.newAt _ _ _ _ (by simp)).alloc _).alloc _
    · exact (Bk.newAt _ _ _ _ (by simp)).alloc _
  case round =>
    obtain ⟨k, hk, rfl, hb1, hb2, hb3, hb⟩ := hrel
    have hs1 := hb1.lt
    have hs2 := hb2.lt
    have hs3 := hb3.lt
    by_cases hlt : k < p.valves.length
    · obtain ⟨b, off, rfl, hB, c0, c1, c2⟩ := (hsl.below hb).at3 hlt
      simp only [valveC] at c0 c1 c2
      have ht := hvt.out k hlt
      have hpl := hst.out.1 k hlt
      have h12 : (k : Int) < 12 := by omega
      have h0i : (0 : Int) ≤ (k : Int) := by omega
      have hwr : IntKind.i8.wrap (p.valve k).travel = (p.valve k).travel := IntWalk.i8_in _ (by omega)
      have hw1 : IntKind.i8.wrap ((s k).place + 1) = (s k).place + 1 := IntWalk.i8_in _ (by omega)
      have hw2 : IntKind.i8.wrap ((s k).place - 1) = (s k).place - 1 := IntWalk.i8_in _ (by omega)
      have hB1 : b < wr.heap.size := by omega
      have g1 := spots_get (movedK p s st k) k (by omega)
      rw [movedK_at] at g1
      have e1 := (hb2.cell (k * 2)).trans g1.1
      have e2 := (hb2.cell (k * 2 + 1)).trans g1.2
      have e3 := (hb3.cell k).trans (stuck_get st k (by omega))
      have f1 := hb2.free (k * 2)
      have hb1' := Lib.hid hb1
      have hb2' := Lib.hid hb2
      have hb3' := Lib.hid hb3
      clear hb1 hb2 hb3 g1
      have hsucc := Lib.hid (movedK_succ p s st k)
      cases h1 : st k with
      | true =>
        have H1 := Lib.hid h1
        rw [h1] at e3
        clear h1
        go_wp2
        go_roundw
        case rel =>
          refine ⟨k + 1, by omega, by go_num, hb1'.out.alloc _, ?_, hb3'.out.alloc _, hb.alloc (by omega) _⟩
          have : movedK p s st (k + 1) = movedK p s st k := by
            rw [hsucc.out]; funext i; by_cases hi : i = k
            · subst hi; simp [move1, H1.out]
            · simp [hi]
          rw [this]; exact hb2'.out.alloc _
        case measure => simp [intOf]; omega
      | false =>
        have H1 := Lib.hid h1
        rw [h1] at e3
        clear h1
        cases h2 : (s k).opn with
        | true =>
          have H2 := Lib.hid h2
          rw [h2] at e2
          clear h2
          go_wp2
          go_region
          go_wp2
          go_roundw
          case rel =>
            refine ⟨k + 1, by omega, by go_num, (hb1'.out.far (p := ⟨_, _, none⟩) (by simp <;> omega) _).alloc _, ?_, (hb3'.out.far (p := ⟨_, _, none⟩) (by simp <;> omega) _).alloc _, ((hb.setCell (p := ⟨_, _, none⟩) (by simp <;> omega) _).alloc (by simp <;> omega) _).drew⟩
            have : movedK p s st (k + 1) = fun i => if i = k then ⟨if (p.valve k).travel < (s k).place + 1 then (p.valve k).travel else (s k).place + 1, (movedK p s st k k).opn⟩ else movedK p s st k i := by
              rw [hsucc.out, movedK_at]; funext i; by_cases hi : i = k
              · subst hi; simp [move1, H1.out, H2.out, min_go]
              · simp [hi]
            rw [this, ← spots_place _ k (by omega)]
            have := (hb2'.out.set (k * 2) (.int .i8 (if (p.valve k).travel < (s k).place + 1 then (p.valve k).travel else (s k).place + 1))).alloc (.cells #[.string (p.valve k).name, .int .i64 (p.valve k).travel, .bool (p.valve k).opn] 59)
            exact this
          case measure => simp [intOf]; omega
        | false =>
          have H2 := Lib.hid h2
          rw [h2] at e2
          clear h2
          go_wp2
          go_roundw
          case rel =>
            refine ⟨k + 1, by omega, by go_num, (hb1'.out.far (p := ⟨_, _, none⟩) (by simp <;> omega) _).alloc _, ?_, (hb3'.out.far (p := ⟨_, _, none⟩) (by simp <;> omega) _).alloc _, (hb.setCell (p := ⟨_, _, none⟩) (by simp <;> omega) _).alloc (by simp <;> omega) _⟩
            have : movedK p s st (k + 1) = fun i => if i = k then ⟨if (s k).place - 1 < 0 then 0 else (s k).place - 1, (movedK p s st k k).opn⟩ else movedK p s st k i := by
              rw [hsucc.out, movedK_at]; funext i; by_cases hi : i = k
              · subst hi; simp [move1, H1.out, H2.out, max_go]
              · simp [hi]
            rw [this, ← spots_place _ k (by omega)]
            have := (hb2'.out.set (k * 2) (.int .i8 (if (s k).place - 1 < 0 then 0 else (s k).place - 1))).alloc (.cells #[.string (p.valve k).name, .int .i64 (p.valve k).travel, .bool (p.valve k).opn] 59)
            exact this
          case measure => simp [intOf]; omega
    · obtain rfl : k = p.valves.length := by omega
      rw [show movedK p s st p.valves.length = movedB p s st from rfl] at hb2
      have hl1 := hb1.lt
      clear hvt hst
      go_wp2_with (first | (refine wpLoadAt rfl 74 _ rfl (w.heap.size + 1) 0 rfl (spotsA (movedB p s st)) _ (fun j u hj => by rw [hb2.cell]; simpa using hj) und_spots rfl (info_spots_s _) ?_) | (refine wpStoreAt rfl rfl 74 _ _ rfl (w.heap.size + 1 + 1 + 1) 0 rfl (spotsA (movedB p s st)) rfl 74 _ hb1 (by rw [spotsA_size, spotsA_size]; omega) (spotsA_one _) (info_spots_s _) ?_; intro w' hr ho))
      refine bodyPost_ret (v := .agg (spotsA (movedB p s st))) ?_ rfl ⟨rfl, hb.trans (ho.below (by omega))⟩
      rw [splA_all _ _ (by rw [spotsA_size, spotsA_size])] at hr
      exact results_cellS rfl _ _ _ _ _ _ rfl hr und_spots rfl (info_spots_s _)
end Go.Proofs.Ytogobjmmgjfjjaa
