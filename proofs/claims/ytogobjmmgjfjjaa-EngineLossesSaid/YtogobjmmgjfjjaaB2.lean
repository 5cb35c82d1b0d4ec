/- What is proved: a contract of engine.first. Conditions: the plant lies in memory as the plain data say; at most 12 valves, each with a travel that an int8 holds. -/
import Derived.Test.YtogobjmmgjfjjaaB1
namespace Go.Proofs.Ytogobjmmgjfjjaa
open Go.RowKit

def zeroS : Spots := fun _ => SpotD.zero
def firstK (p : PlantD) (k : Nat) : Spots := fun i => if i < k ∧ (p.valve i).opn then ⟨(p.valve i).travel, true⟩ else SpotD.zero
theorem info_spots : (Try.prog.info? 74).map (·.size) = some 24 := by kernel_rfl
theorem und_spots : Try.prog.underlying 74 = some (.array 12 72) := by kernel_rfl
theorem info_spots_s (s : Spots) : (Try.prog.info? 74).map (·.size) = some (spotsA s).size := info_spots

def ValvesOk (p : PlantD) : Prop := p.valves.length ≤ 12 ∧ ∀ i, i < p.valves.length → 1 ≤ (p.valve i).travel ∧ (p.valve i).travel ≤ 8

theorem firstK_zero (p : PlantD) : firstK p 0 = zeroS := by funext i; simp [firstK, zeroS]
theorem firstK_all (p : PlantD) : firstK p p.valves.length = firstB p := rfl
theorem firstK_keep (p : PlantD) (k : Nat) (h : (p.valve k).opn = false) : firstK p (k + 1) = firstK p k := by
  funext i
  unfold firstK
  by_cases hi : i = k
  · subst hi; simp [h]
  · have : (i < k + 1) = (i < k) := by simp; omega
    simp [this]
theorem firstK_set (p : PlantD) (k : Nat) (h : (p.valve k).opn = true) : firstK p (k + 1) = fun i => if i = k then ⟨(p.valve k).travel, true⟩ else firstK p k i := by
  funext i
  unfold firstK
  by_cases hi : i = k
  · subst hi; simp [h]
  · have : (i < k + 1) = (i < k) := by simp; omega
    simp [this, hi]

set_option maxRecDepth 100000 in
set_option maxHeartbeats 1000000 in
theorem first_any (w : World) (x : PV) (p : PlantD) (h : PlantAt w w.heap.size x p) (hv : ValvesOk p) :
    Calls Try.prog 23 #[pval x p] w fun e w' => e = .returned (.agg (spotsA (firstB p))) ∧ Below w.heap.size w w' := by
  obtain ⟨tA, tc, vA, vc, lA, lc, nA, nc, iA, ic, jA, jc⟩ := x
  have hsl : Sl w w.heap.size 3 vA p.valves.length fun i => valveC (p.valve i) := h.valves
  have hn := hsl.1
  have hn12 := hv.1
  have hvt := Lib.hid hv.2
  clear hv h
  dsimp only [pval]
  go_enter Try.func23, Try.ntmps23
  go_wp2_with fail
  go_loopw [9] (fun i wr => ∃ k : Nat, k ≤ p.valves.length ∧ i = .int .i64 k ∧ Bk wr (w.heap.size + 1) 74 (spotsA zeroS) ∧ Bk wr (w.heap.size + 2) 74 (spotsA (firstK p k)) ∧ Below w.heap.size w wr) (fun i _ => p.valves.length - (intOf i).toNat)
  case atStart => exact ⟨0, Nat.zero_le _, rfl, (Bk.newAt _ _ (spotsA zeroS) _ (by simp)).alloc _, by rw [firstK_zero]; exact Bk.newAt _ _ (spotsA zeroS) _ (by simp), (((Below.refl _ _).alloc (Nat.le_refl _) _).alloc (by simp) _).alloc (by simp; omega) _⟩
  case round =>
    obtain ⟨k, hk, rfl, hb1, hb2, hb⟩ := hrel
    have hs2 := hb2.lt
    by_cases hlt : k < p.valves.length
    · obtain ⟨b, off, rfl, hB, c0, c1, c2⟩ := (hsl.below hb).at3 hlt
      simp only [valveC] at c0 c1 c2
      have ht := hvt.out k hlt
      have h12 : (k : Int) < 12 := by omega
      have hwr : IntKind.i8.wrap (p.valve k).travel = (p.valve k).travel := IntWalk.i8_in _ (by omega)
      have hB1 : b < wr.heap.size := by omega
      cases ho : (p.valve k).opn with
      | false =>
        have HO := Lib.hid ho; clear ho
        have hb1' := Lib.hid hb1
        have hb2' := Lib.hid hb2
        clear hb1 hb2
        rw [HO.out] at c2
        go_wp2_with fail
        go_roundw
        case rel => exact ⟨k + 1, by omega, by go_num, hb1'.out.alloc _, by rw [firstK_keep p k HO.out]; exact hb2'.out.alloc _, hb.alloc (by omega) _⟩
        case measure => simp [intOf]; omega
      | true =>
        have HO := Lib.hid ho; clear ho
        have hb1' := Lib.hid hb1
        have hb2' := Lib.hid hb2
        have g1 := spots_get (firstK p k) k (by omega)
        have e1 := (hb2.cell (k * 2)).trans g1.1
        have e2 := (hb2.cell (k * 2 + 1)).trans g1.2
        have f1 := hb2.free (k * 2)
        have f2 := hb2.free (k * 2 + 1)
        clear hb1 hb2 g1
        rw [HO.out] at c2
        go_wp2_with fail
        go_roundw
        case rel =>
          refine ⟨k + 1, by omega, by go_num, ((hb1'.out.far (p := ⟨_, _, none⟩) (by simp) _).far (p := ⟨_, _, none⟩) (by simp) _).alloc _, ?_, (((hb.setCell (p := ⟨_, _, none⟩) (by simp; omega) _).setCell (p := ⟨_, _, none⟩) (by simp; omega) _).alloc (by simp; omega) _)⟩
          rw [firstK_set p k HO.out, ← spots_set (firstK p k) k (by omega) ⟨(p.valve k).travel, true⟩]
          exact ((hb2'.out.set (k * 2) _).set (k * 2 + 1) _).alloc _
        case measure => simp [intOf]; omega
    · obtain rfl : k = p.valves.length := by omega
      rw [firstK_all] at hb2
      have hl1 := hb1.lt
      clear hvt
      go_wp2_with (first | (refine wpLoadAt rfl 74 _ rfl (w.heap.size + 1 + 1) 0 rfl (spotsA (firstB p)) _ (fun j u hj => by rw [hb2.cell]; simpa using hj) und_spots rfl (info_spots_s _) ?_) | (refine wpStoreAt rfl rfl 74 _ _ rfl (w.heap.size + 1) 0 rfl (spotsA (firstB p)) rfl 74 _ hb1 (by rw [spotsA_size, spotsA_size]; omega) (spotsA_one _) (info_spots_s _) ?_; intro w' hr ho))
      refine bodyPost_ret (v := .agg (spotsA (firstB p))) ?_ rfl ⟨rfl, hb.trans (ho.below (by omega))⟩
      rw [splA_all _ _ (by rw [spotsA_size, spotsA_size])] at hr
      exact results_cellS rfl _ _ _ _ _ _ rfl hr und_spots rfl (info_spots_s _)
end Go.Proofs.Ytogobjmmgjfjjaa
