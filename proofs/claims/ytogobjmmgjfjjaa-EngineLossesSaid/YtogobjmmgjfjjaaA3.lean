/- What is proved: contracts of engine.tanked, engine.valved. Conditions: the plant lies in memory as the plain data say. -/
import Derived.Test.YtogobjmmgjfjjaaA2
namespace Go.Proofs.Ytogobjmmgjfjjaa
open Go.RowKit

def pval (x : PV) (p : PlantD) : Value := .agg #[.slice x.tA p.tanks.length x.tc, .slice x.vA p.valves.length x.vc, .slice x.lA p.lines.length x.lc, .slice x.nA p.never.length x.nc]
theorem info_string : (Try.prog.info? 9).map (fun i => (i.zero, i.size, i.bytes)) = some (some (.string ByteArray.empty), 1, 16) := by kernel_rfl

set_option maxHeartbeats 400000 in
theorem tankOk_any (w : World) (t : TankD) :
    Calls Try.prog 71 #[.agg #[tankC t 0, tankC t 1, tankC t 2, tankC t 3]] w fun e w' => e = .returned (.bool (tankOk t)) ∧ Below w.heap.size w w' := by
  simp only [tankC]
  have hok : tankOk t = (inB t.room 1 1073741824 && inB t.least 1 1073741824 && inB t.limit 0 1073741824) := rfl
  have HOK := Lib.hid hok; clear hok
  have hb : ∀ o, Below w.heap.size w (w.alloc o) := fun o => (Below.refl _ _).alloc (Nat.le_refl _) _
  cases h1 : inB t.room 1 1073741824 <;> cases h2 : inB t.least 1 1073741824
  all_goals
    go_enter Try.func71, Try.ntmps71
    go_wp2_with (go_at_call 17; refine (within_any _ _ _ _).mono ?_; rintro e w' ⟨rfl, rfl⟩)
    go_ret
    exact ⟨ret_bool (by rw [HOK.out, h1]; simp [h2]), hb _⟩

set_option maxHeartbeats 400000 in
theorem valveOk_any (w : World) (t : ValveD) :
    Calls Try.prog 73 #[.agg #[valveC t 0, valveC t 1, valveC t 2]] w fun e w' => e = .returned (.bool (valveOk t)) ∧ Below w.heap.size w w' := by
  simp only [valveC]
  have hb : ∀ o, Below w.heap.size w (w.alloc o) := fun o => (Below.refl _ _).alloc (Nat.le_refl _) _
  go_enter Try.func73, Try.ntmps73
  go_wp2_with (go_at_call 17; refine (within_any _ _ _ _).mono ?_; rintro e w' ⟨rfl, rfl⟩)
  go_ret
  exact ⟨ret_bool rfl, hb _⟩

set_option maxRecDepth 100000 in
set_option maxHeartbeats 1000000 in
theorem tanked_any (w : World) (x : PV) (p : PlantD) (h : PlantAt w w.heap.size x p) :
    Calls Try.prog 48 #[pval x p] w fun e w' => e = .returned (.bool (tankedB p)) ∧ Below w.heap.size w w' := by
  obtain ⟨i0, hi, hz0, hz1, hz2⟩ := info_parts info_string
  obtain ⟨tA, tc, vA, vc, lA, lc, nA, nc, iA, ic, jA, jc⟩ := x
  have hsl : Sl w w.heap.size 4 tA p.tanks.length fun i => tankC (p.tank i) := h.tanks
  have hn := hsl.1
  have hroom := h.room.1
  clear h
  dsimp only [pval]
  go_enter Try.func48, Try.ntmps48
  go_wp2_with fail
  go_loopw [3, 9] (fun v i wr => ∃ k : Nat, k ≤ p.tanks.length ∧ i = .int .i64 k ∧ wr.ownsRow (w.heap.size + 1) 9 1 v k ((List.range k).map fun i => .string (p.tank i).name) ∧ Below (w.heap.size + 1) (w.alloc (.cells #[.slice tA p.tanks.length tc, .slice vA p.valves.length vc, .slice lA p.lines.length lc, .slice nA p.never.length nc] 33)) wr) (fun _ i _ => p.tanks.length - (intOf i).toNat)
  case atStart => exact ⟨0, Nat.zero_le _, rfl, World.ownsRow_nil _ _ _ _, Below.refl _ _⟩
  case round =>
    obtain ⟨k, hk, rfl, hown, hb⟩ := hrel
    have hbw : Below w.heap.size w wr := ((Below.refl _ _).alloc (Nat.le_refl _) _).trans (hb.mono (by omega))
    have hsz := hb.size
    simp only [World.size_alloc] at hsz
    by_cases hlt : k < p.tanks.length
    · obtain ⟨b, off, rfl, hB, c0, c1, c2, c3⟩ := (hsl.below hbw).at4 hlt
      simp only [tankC] at c0 c1 c2 c3
      go_wp2_with (first | (at_builtin; refine wpList_append_own _ rfl _ _ 132 rfl (w.heap.size + 1) 9 i0 (.string ByteArray.empty) 1 16 Try.underlying132 hi hz0 hz1 hz2 rfl (by decide) _ _ _ rfl ((hown.alloc _).alloc _) ⟨wr.heap.size + 1, 0, none⟩ 1 1 [.string (p.tank k).name] rfl rfl ?c1 ?c2 ?c3 ?c4 ?c5 ?_))
      case c1 => intro j u hj; match j, hj with | 0, hj => simp at hj; subst hj; simp [Addr.add]
      case c2 => intro u hu; simp at hu; subst hu; rfl
      case c3 => unfold maxLen; omega
      case c4 => omega
      case c5 => simp; omega
      intro v' w1 hown' hgrow _
      have hb1 : Below (w.heap.size + 1) wr w1 := (((Below.refl _ wr).alloc (by omega) _).alloc (by simp; omega) _).grown hgrow (by simp; omega) (fun g hg => (hown.lt g hg).1)
      clear hgrow hown
      go_wp2_with fail
      go_roundw
      case rel => exact ⟨k + 1, by omega, by go_num, by rw [List.range_succ, List.map_append]; exact hown', hb.trans hb1⟩
      case measure => simp [intOf]; omega
    · obtain rfl : k = p.tanks.length := by omega
      have hnames : ∃ A c, u3 = .slice A p.tanks.length c ∧ Sl wr wr.heap.size 1 A p.tanks.length fun i _ => .string (p.tank i).name := by
        rcases hown.2 with ⟨hv, h0⟩ | ⟨g, cap, cur, hv, hg, hh, _, _, _, _⟩
        · exact ⟨none, 0, by rw [hv, h0], by rw [h0]; exact Sl.nil _ _ _ _ _⟩
        · refine ⟨some ⟨g, 0, none⟩, cap, hv, hn, fun _ => ⟨g, 0, rfl, (hown.lt g (by rw [hv]; rfl)).2, fun i hi j hj => ?_⟩⟩
          have := hown.cells (g := g) (by rw [hv]; rfl) i (.string (p.tank i).name) (by simp [hi])
          obtain rfl : j = 0 := by omega
          simpa [Addr.add_lit] using this
      obtain ⟨A, cn, rfl, hsn⟩ := hnames
      have hap := apart_any wr A p.tanks.length cn (fun i => (p.tank i).name) 16 hsn
      have HAP := Lib.hid hap; clear hap hsn hown
      have hc0 : wr.cell? ⟨w.heap.size, 0, none⟩ = some (.slice tA p.tanks.length tc) := by rw [hb.cell (p := ⟨w.heap.size, 0, none⟩) (by simp)]; simp
      go_wp2_with fail
      refine HAP.out.mono ?_
      rintro e w1 ⟨rfl, hb1⟩
      have hc1 : w1.cell? ⟨w.heap.size, 0, none⟩ = some (.slice tA p.tanks.length tc) := by rw [hb1.cell (p := ⟨w.heap.size, 0, none⟩) (by simp; omega)]; exact hc0
      have hbw1 : Below w.heap.size w w1 := hbw.trans (hb1.mono (by omega))
      have hall := allTank w1 tA p.tanks.length tc _ ((hsl.below hbw1).mono hbw1.size) 71 #[] (fun i => tankOk (p.tank i)) (fun args w => by kernel_rfl) (fun w2 hw2 i hi => by
        have := tankOk_any w2 (p.tank i)
        simpa using this)
      have HALL := Lib.hid hall; clear hall hc0
      cases hq : apartB p.tanks.length (fun i => (p.tank i).name) 16 with
      | true =>
        have HQ := Lib.hid hq; clear hq
        go_wp2_with fail
        refine HALL.out.mono ?_
        rintro e w2 ⟨rfl, hb2⟩
        go_wp2_with fail
        go_ret
        exact ⟨ret_bool (by unfold tankedB; rw [HQ.out]; simp), hbw1.trans (hb2.mono hbw1.size)⟩
      | false =>
        have HQ := Lib.hid hq; clear hq
        go_wp2_with fail
        go_ret
        exact ⟨ret_bool (by unfold tankedB; rw [HQ.out]; simp), hbw1⟩

set_option maxRecDepth 100000 in
set_option maxHeartbeats 1000000 in
theorem valved_any (w : World) (x : PV) (p : PlantD) (h : PlantAt w w.heap.size x p) :
    Calls Try.prog 49 #[pval x p] w fun e w' => e = .returned (.bool (valvedB p)) ∧ Below w.heap.size w w' := by
  obtain ⟨i0, hi, hz0, hz1, hz2⟩ := info_parts info_string
  obtain ⟨tA, tc, vA, vc, lA, lc, nA, nc, iA, ic, jA, jc⟩ := x
  have hsl : Sl w w.heap.size 3 vA p.valves.length fun i => valveC (p.valve i) := h.valves
  have hn := hsl.1
  have hroom := h.room.2
  clear h
  dsimp only [pval]
  go_enter Try.func49, Try.ntmps49
  go_wp2_with fail
  go_loopw [3, 9] (fun v i wr => ∃ k : Nat, k ≤ p.valves.length ∧ i = .int .i64 k ∧ wr.ownsRow (w.heap.size + 1) 9 1 v k ((List.range k).map fun i => .string (p.valve i).name) ∧ Below (w.heap.size + 1) (w.alloc (.cells #[.slice tA p.tanks.length tc, .slice vA p.valves.length vc, .slice lA p.lines.length lc, .slice nA p.never.length nc] 33)) wr) (fun _ i _ => p.valves.length - (intOf i).toNat)
  case atStart => exact ⟨0, Nat.zero_le _, rfl, World.ownsRow_nil _ _ _ _, Below.refl _ _⟩
  case round =>
    obtain ⟨k, hk, rfl, hown, hb⟩ := hrel
    have hbw : Below w.heap.size w wr := ((Below.refl _ _).alloc (Nat.le_refl _) _).trans (hb.mono (by omega))
    have hsz := hb.size
    simp only [World.size_alloc] at hsz
    by_cases hlt : k < p.valves.length
    · obtain ⟨b, off, rfl, hB, c0, c1, c2⟩ := (hsl.below hbw).at3 hlt
      simp only [valveC] at c0 c1 c2
      go_wp2_with (first | (at_builtin; refine wpList_append_own _ rfl _ _ 132 rfl (w.heap.size + 1) 9 i0 (.string ByteArray.empty) 1 16 Try.underlying132 hi hz0 hz1 hz2 rfl (by decide) _ _ _ rfl ((hown.alloc _).alloc _) ⟨wr.heap.size + 1, 0, none⟩ 1 1 [.string (p.valve k).name] rfl rfl ?c1 ?c2 ?c3 ?c4 ?c5 ?_))
      case c1 => intro j u hj; match j, hj with | 0, hj => simp at hj; subst hj; simp [Addr.add]
      case c2 => intro u hu; simp at hu; subst hu; rfl
      case c3 => unfold maxLen; omega
      case c4 => omega
      case c5 => simp; omega
      intro v' w1 hown' hgrow _
      have hb1 : Below (w.heap.size + 1) wr w1 := (((Below.refl _ wr).alloc (by omega) _).alloc (by simp; omega) _).grown hgrow (by simp; omega) (fun g hg => (hown.lt g hg).1)
      clear hgrow hown
      go_wp2_with fail
      go_roundw
      case rel => exact ⟨k + 1, by omega, by go_num, by rw [List.range_succ, List.map_append]; exact hown', hb.trans hb1⟩
      case measure => simp [intOf]; omega
    · obtain rfl : k = p.valves.length := by omega
      have hnames : ∃ A c, u3 = .slice A p.valves.length c ∧ Sl wr wr.heap.size 1 A p.valves.length fun i _ => .string (p.valve i).name := by
        rcases hown.2 with ⟨hv, h0⟩ | ⟨g, cap, cur, hv, hg, hh, _, _, _, _⟩
        · exact ⟨none, 0, by rw [hv, h0], by rw [h0]; exact Sl.nil _ _ _ _ _⟩
        · refine ⟨some ⟨g, 0, none⟩, cap, hv, hn, fun _ => ⟨g, 0, rfl, (hown.lt g (by rw [hv]; rfl)).2, fun i hi j hj => ?_⟩⟩
          have := hown.cells (g := g) (by rw [hv]; rfl) i (.string (p.valve i).name) (by simp [hi])
          obtain rfl : j = 0 := by omega
          simpa [Addr.add_lit] using this
      obtain ⟨A, cn, rfl, hsn⟩ := hnames
      have hap := apart_any wr A p.valves.length cn (fun i => (p.valve i).name) 12 hsn
      have HAP := Lib.hid hap; clear hap hsn hown
      have hc0 : wr.cell? ⟨w.heap.size, 1, none⟩ = some (.slice vA p.valves.length vc) := by rw [hb.cell (p := ⟨w.heap.size, 1, none⟩) (by simp)]; simp
      go_wp2_with fail
      refine HAP.out.mono ?_
      rintro e w1 ⟨rfl, hb1⟩
      have hc1 : w1.cell? ⟨w.heap.size, 1, none⟩ = some (.slice vA p.valves.length vc) := by rw [hb1.cell (p := ⟨w.heap.size, 1, none⟩) (by simp; omega)]; exact hc0
      have hbw1 : Below w.heap.size w w1 := hbw.trans (hb1.mono (by omega))
      have hall := allValve w1 vA p.valves.length vc _ ((hsl.below hbw1).mono hbw1.size) 73 #[] (fun i => valveOk (p.valve i)) (fun args w => by kernel_rfl) (fun w2 hw2 i hi => by
        have := valveOk_any w2 (p.valve i)
        simpa using this)
      have HALL := Lib.hid hall; clear hall hc0
      cases hq : apartB p.valves.length (fun i => (p.valve i).name) 12 with
      | true =>
        have HQ := Lib.hid hq; clear hq
        go_wp2_with fail
        refine HALL.out.mono ?_
        rintro e w2 ⟨rfl, hb2⟩
        go_wp2_with fail
        go_ret
        exact ⟨ret_bool (by unfold valvedB; rw [HQ.out]; simp), hbw1.trans (hb2.mono hbw1.size)⟩
      | false =>
        have HQ := Lib.hid hq; clear hq
        go_wp2_with fail
        go_ret
        exact ⟨ret_bool (by unfold valvedB; rw [HQ.out]; simp), hbw1⟩
end Go.Proofs.Ytogobjmmgjfjjaa
