/- What is proved: a contract of carry of engine.System. Conditions: the system lies in memory; the line is of the plant. -/
import Derived.Test.YtogobjmmgjfjjaaE2
namespace Go.Proofs.Ytogobjmmgjfjjaa
open Go.RowKit

def addN (S : Sys) (gas : Bool) (t : Nat) (d : Int) : Sys := S.setT t (setTank (S.tank t) (numJ gas) (numB S gas t + d))
def much1 (S : Sys) (l : LineD) : Int := if 0 ≤ l.src then min l.flow (numB S l.gas l.src.toNat) else l.flow
def much2 (S : Sys) (l : LineD) : Int := if 0 ≤ l.dst then min (much1 S l) (mostB S l.gas l.dst.toNat - numB S l.gas l.dst.toNat) else much1 S l
def flowB (S : Sys) (l : LineD) : Sys :=
  let S1 := if 0 ≤ l.dst then addN S l.gas l.dst.toNat (much2 S l) else S
  if 0 ≤ l.src then addN S1 l.gas l.src.toNat (-(much2 S l)) else S1
def carryB (S : Sys) (i : Nat) : Sys := { flowB S (S.p.line i) with carried := fun k => if k = i then wrap64 (S.carried i + much2 S (S.p.line i)) else S.carried k }

theorem numB_at {w : World} {X : SX} {S : Sys} (h : SysAt w X S) (gas : Bool) (t : Nat) (ht : t < S.p.tanks.length) : w.cell? ⟨X.tb, t * 5 + numJ gas, none⟩ = some (.int .i64 (numB S gas t)) := by
  have := h.tankCells t ht
  cases gas
  · exact this.t0
  · exact this.t1
theorem numB_ok {S : Sys} (h : SysOk S) (gas : Bool) (t : Nat) (ht : t < S.p.tanks.length) : 0 ≤ numB S gas t ∧ numB S gas t ≤ mostB S gas t ∧ mostB S gas t ≤ 1073741824 := by
  have h1 := h.tanks t ht
  have h2 := tankOk_of h.valid t ht
  cases gas <;> simp [numB, mostB] <;> omega
theorem addN_num (S : Sys) (gas : Bool) (t : Nat) (d : Int) (k : Nat) : numB (addN S gas t d) gas k = if k = t then numB S gas t + d else numB S gas k := by
  unfold addN Sys.setT numB numJ setTank
  by_cases hk : k = t <;> cases gas <;> simp [hk]
theorem addN_ok {S : Sys} (h : SysOk S) (gas : Bool) (t : Nat) (ht : t < S.p.tanks.length) (d : Int) (h0 : 0 ≤ numB S gas t + d) (h1 : numB S gas t + d ≤ mostB S gas t) : SysOk (addN S gas t d) := by
  have h2 := h.tanks t ht
  refine h.setT t _ ?_
  cases gas <;> simp [numB, mostB, numJ, setTank] at h0 h1 ⊢ <;> omega
theorem addN_at {w : World} {X : SX} {S : Sys} (h : SysAt w X S) (gas : Bool) (t : Nat) (ht : t < S.p.tanks.length) (d : Int) (h0 : 0 ≤ numB S gas t + d) (h1 : numB S gas t + d ≤ mostB S gas t) :
    SysAt (w.setCell ⟨X.tb, t * 5 + numJ gas, none⟩ (.int .i64 (numB S gas t + d))) X (addN S gas t d) := by
  have ho := Only.setCell w X.tb (t * 5 + numJ gas) (.int .i64 (numB S gas t + d))
  obtain ⟨n1, n2, n3, _, _, _⟩ := h.ne
  refine h.turn (Chg.of_only ho (by simp)) rfl (h.s.only ho n1) ?_ (h.c.only ho (Ne.symm n3)) (addN_ok h.ok gas t ht d h0 h1)
  have := h.t.set (t * 5 + numJ gas) (.int .i64 (numB S gas t + d))
  rw [tanksA_set _ _ _ _ ht (by cases gas <;> simp [numJ])] at this
  exact this
theorem much_ok {S : Sys} (h : SysOk S) (i : Nat) (hi : i < S.p.lines.length) : 0 ≤ much1 S (S.p.line i) ∧ much1 S (S.p.line i) ≤ 1073741824 ∧ 0 ≤ much2 S (S.p.line i) ∧ much2 S (S.p.line i) ≤ much1 S (S.p.line i) ∧
    (0 ≤ (S.p.line i).src → much1 S (S.p.line i) ≤ numB S (S.p.line i).gas (S.p.line i).src.toNat) ∧ (0 ≤ (S.p.line i).dst → much2 S (S.p.line i) ≤ mostB S (S.p.line i).gas (S.p.line i).dst.toNat - numB S (S.p.line i).gas (S.p.line i).dst.toNat) ∧
    (S.p.line i).src.toNat < S.p.tanks.length ∧ (S.p.line i).dst.toNat < S.p.tanks.length ∧ -1 ≤ (S.p.line i).src ∧ -1 ≤ (S.p.line i).dst ∧ (S.p.line i).src ≠ (S.p.line i).dst ∧ 1 ≤ (S.p.line i).flow ∧ (S.p.line i).flow ≤ 1073741824 := by
  have hlo := lineOk_of h.valid i hi
  unfold lineOk at hlo
  simp only [Bool.and_eq_true, inB_iff, Bool.not_eq_true', decide_eq_false_iff_not] at hlo
  obtain ⟨⟨⟨⟨⟨a1, a2⟩, a3⟩, a4⟩, _⟩, _⟩ := hlo
  have hs : (S.p.line i).src.toNat < S.p.tanks.length := by omega
  have hd : (S.p.line i).dst.toNat < S.p.tanks.length := by omega
  have b1 := numB_ok h (S.p.line i).gas _ hs
  have b2 := numB_ok h (S.p.line i).gas _ hd
  unfold much2 much1
  refine ⟨?_, ?_, ?_, ?_, ?_, ?_, hs, hd, by omega, by omega, a3, by omega, by omega⟩
  · split <;> omega
  · split <;> omega
  · split <;> split <;> omega
  · split <;> split <;> omega
  · intro h; rw [if_pos h]; omega
  · intro h; rw [if_pos h]; split <;> omega
theorem flowB_p (S : Sys) (l : LineD) : (flowB S l).p = S.p := by unfold flowB; simp only; split <;> split <;> rfl
theorem flowB_c (S : Sys) (l : LineD) : (flowB S l).carried = S.carried := by unfold flowB; simp only; split <;> split <;> rfl

/-- The last step: what a line has carried. -/
theorem carry_end {w : World} {X : SX} {S S2 : Sys} (h : SysAt w X S2) (hc : S2.carried = S.carried) (i : Nat) (v : Int) :
    SysAt (w.setCell ⟨X.cb, i, none⟩ (.int .i64 v)) X { S2 with carried := fun k => if k = i then v else S.carried k } := by
  have ho := Only.setCell w X.cb i (.int .i64 v)
  obtain ⟨n1, n2, n3, _, _, _⟩ := h.ne
  refine h.turn (Chg.of_only ho (by simp)) rfl (h.s.only ho n2) (h.t.only ho n3) ?_ ⟨h.ok.valid, h.ok.spots, h.ok.safe, h.ok.tanks⟩
  have := h.c.set i (.int .i64 v)
  rw [carrA_set, hc] at this
  exact this

set_option maxRecDepth 100000 in
set_option maxHeartbeats 4000000 in
theorem carry_any (w : World) (X : SX) (S : Sys) (h : SysAt w X S) (i : Nat) (hi : i < S.p.lines.length) :
    Calls Try.prog 39 #[.pointer (some ⟨X.sb, 0, none⟩), .int .i64 i] w fun e w' => e = .returned (.tuple #[]) ∧ SysAt w' X (carryB S i) ∧ Chg X w w' := by
  obtain ⟨u1, u2, u3, u4, u5, u6, hs, hd, us, ud, une, uf1, uf2⟩ := much_ok h.ok i hi
  have hii : (i : Int) < (S.p.lines.length : Int) := by omega
  have h0i : (0 : Int) ≤ (i : Int) := by omega
  have c2 := h.cells.c2
  obtain ⟨b, off, hA, hB, d0, d1, d2, d3, d4⟩ := h.plantAt.lines.at5 hi
  simp only [lineC] at d0 d1 d2 d3 d4
  rw [hA] at c2
  have hfl := Lib.hid (show carryB S i = { flowB S (S.p.line i) with carried := fun k => if k = i then wrap64 (S.carried i + much2 S (S.p.line i)) else S.carried k } from rfl)
  have hF := Lib.hid (show flowB S (S.p.line i) = (if 0 ≤ (S.p.line i).src then addN (if 0 ≤ (S.p.line i).dst then addN S (S.p.line i).gas (S.p.line i).dst.toNat (much2 S (S.p.line i)) else S) (S.p.line i).gas (S.p.line i).src.toNat (-(much2 S (S.p.line i))) else (if 0 ≤ (S.p.line i).dst then addN S (S.p.line i).gas (S.p.line i).dst.toNat (much2 S (S.p.line i)) else S)) from rfl)
  have hFp := Lib.hid (flowB_p S (S.p.line i))
  have hFc := Lib.hid (flowB_c S (S.p.line i))
  have hm1 := Lib.hid (show much1 S (S.p.line i) = if 0 ≤ (S.p.line i).src then min (S.p.line i).flow (numB S (S.p.line i).gas (S.p.line i).src.toNat) else (S.p.line i).flow from rfl)
  have hm2 := Lib.hid (show much2 S (S.p.line i) = if 0 ≤ (S.p.line i).dst then min (much1 S (S.p.line i)) (mostB S (S.p.line i).gas (S.p.line i).dst.toNat - numB S (S.p.line i).gas (S.p.line i).dst.toNat) else much1 S (S.p.line i) from rfl)
  generalize much2 S (S.p.line i) = m2 at *
  generalize much1 S (S.p.line i) = m1 at *
  generalize hLF : flowB S (S.p.line i) = SF at *
  clear hLF
  generalize S.p.line i = L at *
  obtain ⟨src, dst, flow, gas, valves⟩ := L
  simp only at *
  have hb0 : ∀ o o', Below w.heap.size w ((w.alloc o).alloc o') := fun o o' => ((Below.refl _ _).alloc (Nat.le_refl _) _).alloc (by simp) _
  have hne := h.ne
  have hhi := h.hi
  have q1 : X.sb < w.heap.size := by omega
  have q2 : X.tb < w.heap.size := by omega
  have q3 : X.cb < w.heap.size := by omega
  -- what is kept from world to world
  have KEEP : Hid (∀ w1 n, SysAt w1 X S → SysAt (w1.drewN n) X S) := Lib.hid fun w1 n h1 => h1.keep (fun _ _ _ => rfl) (Nat.le_refl _)
  obtain ⟨W, hW⟩ : ∃ W, W = (w.alloc (.cells #[.pointer (some ⟨X.sb, 0, none⟩)] 37)).alloc (.cells #[.int .i64 src, .int .i64 dst, .int .i64 flow, .bool gas, .slice (X.pv.iA i) valves.length (X.pv.ic i)] 66) := ⟨_, rfl⟩
  have hSW : SysAt W X S := by rw [hW]; exact h.below (hb0 _ _)
  have hCW : Chg X w W := by rw [hW]; exact Chg.of_below (hb0 _ _)
  have hbbW : Bk W w.heap.size 37 #[.pointer (some ⟨X.sb, 0, none⟩)] := by rw [hW]; exact (Bk.new _ _ _).alloc _
  have hlbW : Bk W (w.heap.size + 1) 66 #[.int .i64 src, .int .i64 dst, .int .i64 flow, .bool gas, .slice (X.pv.iA i) valves.length (X.pv.ic i)] := by rw [hW]; exact Bk.newAt _ _ _ _ (by simp)
  have hHW := Lib.hid hW
  have h0 := Lib.hid h
  clear hW h hA hb0
  by_cases hsrc : 0 ≤ src
  · obtain ⟨sn, rfl⟩ := Int.eq_ofNat_of_zero_le hsrc
    simp only [Int.toNat_natCast] at *
    by_cases hdst : 0 ≤ dst
    · obtain ⟨dn, rfl⟩ := Int.eq_ofNat_of_zero_le hdst
      simp only [Int.toNat_natCast] at *
      have hns := numB_ok hSW.ok gas sn hs
      have hmm := hm1.out
      simp only [Int.natCast_nonneg, if_true] at hmm
      have hmin1 : (if numB S gas sn < flow then numB S gas sn else flow) = m1 := by rw [hmm, min_go]
      have hm2' := hm2.out
      have hF' := hF.out
      simp only [Int.natCast_nonneg, if_true] at hm2' hF'
      have hF2 := Lib.hid hF'
      have hm2h := Lib.hid hm2'
      have hmmh := Lib.hid hmm
      have u5' := u5 hsrc
      have w1s : IntKind.i64.wrap (numB S gas sn - m2) = numB S gas sn - m2 := IntWalk.i64_in _ (by omega)
      have hnd := numB_ok hSW.ok gas dn hd
      have u6' := u6 hdst
      have hmin2 : (if mostB S gas dn - numB S gas dn < m1 then mostB S gas dn - numB S gas dn else m1) = m2 := by rw [hm2h.out, min_go]
      have wd : IntKind.i64.wrap (mostB S gas dn - numB S gas dn) = mostB S gas dn - numB S gas dn := IntWalk.i64_in _ (by omega)
      have hsd : sn ≠ dn := by omega
      clear hm1 hm2 hm2' hF hF' hmm
      go_enter Try.func39, Try.ntmps39
      go_wp2_with fail
      rw [← hHW.out]
      refine (carryHas_any W X S hSW sn hs (w.heap.size + 1) w.heap.size gas (hlbW.cell 3) (hbbW.cell 0)).mono ?_
      rintro e w1 ⟨rfl, n1, hn1⟩
      have hS1 : SysAt w1 X S := by rw [hn1]; exact KEEP.out _ _ hSW
      have hbb1 : Bk w1 w.heap.size 37 #[.pointer (some ⟨X.sb, 0, none⟩)] := by rw [hn1]; exact hbbW
      have hlb1 : Bk w1 (w.heap.size + 1) 66 #[.int .i64 sn, .int .i64 dn, .int .i64 flow, .bool gas, .slice (X.pv.iA i) valves.length (X.pv.ic i)] := by rw [hn1]; exact hlbW
      have hC1 : Chg X w w1 := by rw [hn1]; exact hCW.trans (Chg.of_below (below_drewN (Below.refl _ _) _))
      clear hn1 hbbW hlbW hCW hSW
      have a1 := numB_at hS1 gas sn hs
      have a2 : w1.cell? ⟨w.heap.size + 1, 0, none⟩ = some (.int .i64 sn) := hlb1.cell 0
      have a3 : w1.cell? ⟨w.heap.size + 1, 1, none⟩ = some (.int .i64 dn) := hlb1.cell 1
      go_wp2_with fail
      clear a1 a2 a3
      refine (carryHas_any w1 X S hS1 dn hd (w.heap.size + 1) w.heap.size gas (hlb1.cell 3) (hbb1.cell 0)).mono ?_
      rintro e w2 ⟨rfl, n2, hn2⟩
      have hS2 : SysAt w2 X S := by rw [hn2]; exact KEEP.out _ _ hS1
      have hbb2 : Bk w2 w.heap.size 37 #[.pointer (some ⟨X.sb, 0, none⟩)] := by rw [hn2]; exact hbb1
      have hlb2 : Bk w2 (w.heap.size + 1) 66 #[.int .i64 sn, .int .i64 dn, .int .i64 flow, .bool gas, .slice (X.pv.iA i) valves.length (X.pv.ic i)] := by rw [hn2]; exact hlb1
      have hC2 : Chg X w w2 := by rw [hn2]; exact hC1.trans (Chg.of_below (below_drewN (Below.refl _ _) _))
      clear hn2 hbb1 hlb1 hC1 hS1
      have b1 := numB_at hS2 gas dn hd
      have b2 := hS2.t.free (dn * 5 + numJ gas)
      have b3 : w2.cell? ⟨w.heap.size + 1, 0, none⟩ = some (.int .i64 sn) := hlb2.cell 0
      go_wp2_with fail
      clear b1 b2 b3
      obtain ⟨w3, hw3⟩ : ∃ w3, w3 = w2.setCell ⟨X.tb, dn * 5 + numJ gas, none⟩ (.int .i64 (numB S gas dn + m2)) := ⟨_, rfl⟩
      have hS3 : SysAt w3 X (addN S gas dn m2) := by rw [hw3]; exact addN_at hS2 gas dn hd m2 (by omega) (by omega)
      have ho3 : Only X.tb w2 w3 := by rw [hw3]; exact Only.setCell _ _ _ _
      have hbb3 := hbb2.only ho3 (by omega)
      have hlb3 := hlb2.only ho3 (by omega)
      have hC3 := hC2.trans (Chg.of_only (X := X) ho3 (by simp))
      rw [← hw3]
      clear hw3 ho3 hbb2 hlb2 hC2 hS2
      refine (carryHas_any w3 X _ hS3 sn hs (w.heap.size + 1) w.heap.size gas (hlb3.cell 3) (hbb3.cell 0)).mono ?_
      rintro e w4 ⟨rfl, n4, hn4⟩
      have hS4 : SysAt w4 X (addN S gas dn m2) := by rw [hn4]; exact hS3.keep (fun _ _ _ => rfl) (Nat.le_refl _)
      have hbb4 : Bk w4 w.heap.size 37 #[.pointer (some ⟨X.sb, 0, none⟩)] := by rw [hn4]; exact hbb3
      have hC4 : Chg X w w4 := by rw [hn4]; exact hC3.trans (Chg.of_below (below_drewN (Below.refl _ _) _))
      clear hn4 hbb3 hlb3 hC3 hS3
      have hnum : numB (addN S gas dn m2) gas sn = numB S gas sn := by rw [addN_num, if_neg hsd]
      have d1 := numB_at hS4 gas sn hs
      rw [hnum] at d1
      have d2 := hS4.t.free (sn * 5 + numJ gas)
      have d3 : w4.cell? ⟨w.heap.size, 0, none⟩ = some (.pointer (some ⟨X.sb, 0, none⟩)) := hbb4.cell 0
      have e4 := hS4.cells.c41
      have e5 := (hS4.c.cell i).trans (carrA_get _ _ _ hi)
      have f5 := hS4.c.free i
      have hnumh := Lib.hid hnum
      have hH4 := Lib.hid hS4
      have hmo : mostB (addN S gas dn m2) gas sn = mostB S gas sn := rfl
      have hmoh := Lib.hid hmo
      clear hS4 hbb4 hnum hmo
      have e4' : w4.cell? ⟨X.sb, 41, none⟩ = some (.slice (some ⟨X.cb, 0, none⟩) S.p.lines.length S.p.lines.length) := e4
      have e5' : w4.cell? ⟨X.cb, i, none⟩ = some (.int .i64 (S.carried i)) := e5
      clear e4 e5
      go_wp2_with fail
      go_end0
      have hT := addN_at hH4.out gas sn hs (-m2) (by rw [hnumh.out]; omega) (by rw [hnumh.out, hmoh.out]; omega)
      rw [hnumh.out, ← Int.sub_eq_add_neg] at hT
      have hE := carry_end (S := S) hT rfl i (wrap64 (S.carried i + m2))
      rw [hfl.out, hF2.out]
      exact ⟨rfl, hE, (hC4.trans (Chg.of_only (Only.setCell _ X.tb _ _) (by simp))).trans (Chg.of_only (Only.setCell _ X.cb _ _) (by simp))⟩
    ·
      have hdst' : dst = -1 := by omega
      subst hdst'
      have hns := numB_ok hSW.ok gas sn hs
      have hmm := hm1.out
      simp only [Int.natCast_nonneg, if_true] at hmm
      have hmin1 : (if numB S gas sn < flow then numB S gas sn else flow) = m1 := by rw [hmm, min_go]
      have hm2' := hm2.out
      have hF' := hF.out
      simp only [Int.natCast_nonneg, if_true, Int.reduceNeg, show ¬ ((0 : Int) ≤ -1) from by decide, if_false] at hm2' hF'
      have hF2 := Lib.hid hF'
      have hm2h := Lib.hid hm2'
      have hmmh := Lib.hid hmm
      have u5' := u5 hsrc
      have w1s : IntKind.i64.wrap (numB S gas sn - m2) = numB S gas sn - m2 := IntWalk.i64_in _ (by omega)
      have hmeq : m1 = m2 := hm2'.symm
      subst hmeq
      clear hm1 hm2 hm2' hF hF' hmm
      go_enter Try.func39, Try.ntmps39
      go_wp2_with fail
      rw [← hHW.out]
      refine (carryHas_any W X S hSW sn hs (w.heap.size + 1) w.heap.size gas (hlbW.cell 3) (hbbW.cell 0)).mono ?_
      rintro e w1 ⟨rfl, n1, hn1⟩
      have hS1 : SysAt w1 X S := by rw [hn1]; exact KEEP.out _ _ hSW
      have hbb1 : Bk w1 w.heap.size 37 #[.pointer (some ⟨X.sb, 0, none⟩)] := by rw [hn1]; exact hbbW
      have hlb1 : Bk w1 (w.heap.size + 1) 66 #[.int .i64 sn, .int .i64 (-1), .int .i64 flow, .bool gas, .slice (X.pv.iA i) valves.length (X.pv.ic i)] := by rw [hn1]; exact hlbW
      have hC1 : Chg X w w1 := by rw [hn1]; exact hCW.trans (Chg.of_below (below_drewN (Below.refl _ _) _))
      clear hn1 hbbW hlbW hCW hSW
      have a1 := numB_at hS1 gas sn hs
      have a2 : w1.cell? ⟨w.heap.size + 1, 0, none⟩ = some (.int .i64 sn) := hlb1.cell 0
      have a3 : w1.cell? ⟨w.heap.size + 1, 1, none⟩ = some (.int .i64 (-1)) := hlb1.cell 1
      go_wp2_with fail
      clear a1 a2 a3
      refine (carryHas_any w1 X S hS1 sn hs (w.heap.size + 1) w.heap.size gas (hlb1.cell 3) (hbb1.cell 0)).mono ?_
      rintro e w4 ⟨rfl, n4, hn4⟩
      have hS4 : SysAt w4 X S := by rw [hn4]; exact KEEP.out _ _ hS1
      have hbb4 : Bk w4 w.heap.size 37 #[.pointer (some ⟨X.sb, 0, none⟩)] := by rw [hn4]; exact hbb1
      have hC4 : Chg X w w4 := by rw [hn4]; exact hC1.trans (Chg.of_below (below_drewN (Below.refl _ _) _))
      clear hn4 hbb1 hlb1 hC1 hS1
      have d1 := numB_at hS4 gas sn hs
      have d2 := hS4.t.free (sn * 5 + numJ gas)
      have d3 : w4.cell? ⟨w.heap.size, 0, none⟩ = some (.pointer (some ⟨X.sb, 0, none⟩)) := hbb4.cell 0
      have e4 := hS4.cells.c41
      have e5 := (hS4.c.cell i).trans (carrA_get _ _ _ hi)
      have f5 := hS4.c.free i
      have hH4 := Lib.hid hS4
      clear hS4 hbb4
      go_wp2_with fail
      go_end0
      have hT := addN_at hH4.out gas sn hs (-m1) (by omega) (by omega)
      rw [← Int.sub_eq_add_neg] at hT
      have hE := carry_end (S := S) hT rfl i (wrap64 (S.carried i + m1))
      rw [hfl.out, hF2.out]
      exact ⟨rfl, hE, (hC4.trans (Chg.of_only (Only.setCell _ X.tb _ _) (by simp))).trans (Chg.of_only (Only.setCell _ X.cb _ _) (by simp))⟩
  · have hsrc' : src = -1 := by omega
    subst hsrc'
    by_cases hdst : 0 ≤ dst
    · obtain ⟨dn, rfl⟩ := Int.eq_ofNat_of_zero_le hdst
      simp only [Int.toNat_natCast] at *
      have hnd := numB_ok hSW.ok gas dn hd
      have hmm := Lib.hid (show m1 = flow from hm1.out)
      have hm2' := hm2.out
      simp only [Int.natCast_nonneg, if_true] at hm2'
      have hF' := hF.out
      simp only [Int.natCast_nonneg, if_true, Int.reduceNeg, show ¬ ((0 : Int) ≤ -1) from by decide, if_false] at hF'
      have hF2 := Lib.hid hF'
      have hmin : (if mostB S gas dn - numB S gas dn < flow then mostB S gas dn - numB S gas dn else flow) = m2 := by rw [hm2', hmm.out, min_go]
      have hmv := Lib.hid hm2'
      clear hm1 hm2 hm2' hF hF'
      have u6' := u6 hdst
      have hw1 : IntKind.i64.wrap (mostB S gas dn - numB S gas dn) = mostB S gas dn - numB S gas dn := IntWalk.i64_in _ (by omega)
      go_enter Try.func39, Try.ntmps39
      go_wp2_with fail
      rw [← hHW.out]
      refine (carryHas_any W X S hSW dn hd (w.heap.size + 1) w.heap.size gas (hlbW.cell 3) (hbbW.cell 0)).mono ?_
      rintro e w1 ⟨rfl, n1, hn1⟩
      have hS1 : SysAt w1 X S := by rw [hn1]; exact KEEP.out _ _ hSW
      have hbb1 : Bk w1 w.heap.size 37 #[.pointer (some ⟨X.sb, 0, none⟩)] := by rw [hn1]; exact hbbW
      have hlb1 : Bk w1 (w.heap.size + 1) 66 #[.int .i64 (-1), .int .i64 dn, .int .i64 flow, .bool gas, .slice (X.pv.iA i) valves.length (X.pv.ic i)] := by rw [hn1]; exact hlbW
      have hC1 : Chg X w w1 := by rw [hn1]; exact hCW.trans (Chg.of_below (below_drewN (Below.refl _ _) _))
      clear hn1 hbbW hlbW hCW hSW
      have e1 := numB_at hS1 gas dn hd
      have f1 := hS1.t.free (dn * 5 + numJ gas)
      have e2 : w1.cell? ⟨w.heap.size + 1, 0, none⟩ = some (.int .i64 (-1)) := hlb1.cell 0
      have e3 : w1.cell? ⟨w.heap.size, 0, none⟩ = some (.pointer (some ⟨X.sb, 0, none⟩)) := hbb1.cell 0
      have e4 := hS1.cells.c41
      have e5 := (hS1.c.cell i).trans (carrA_get _ _ _ hi)
      have f5 := hS1.c.free i
      have hH1 := Lib.hid hS1
      clear hS1 hbb1 hlb1
      go_wp2_with fail
      go_end0
      have hT := addN_at hH1.out gas dn hd m2 (by omega) (by omega)
      have hE := carry_end (S := S) hT rfl i (wrap64 (S.carried i + m2))
      rw [hfl.out, hF2.out]
      exact ⟨rfl, hE, (hC1.trans (Chg.of_only (Only.setCell _ X.tb _ _) (by simp))).trans (Chg.of_only (Only.setCell _ X.cb _ _) (by simp))⟩
    · omega
end Go.Proofs.Ytogobjmmgjfjjaa
