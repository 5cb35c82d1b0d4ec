/- What is proved: engine.copied's first statement. Conditions: the plant lies in memory; it is valid. -/
import Derived.Test.YtogobjmmgjfjjaaF2
namespace Go.Proofs.Ytogobjmmgjfjjaa
open Go.RowKit

/-- What holds throughout: W: ahead of the statement; b: behind the first store. -/
def CopJ (w W : World) (b : Bool) (w1 : World) : Prop :=
  if b = true then Below w.heap.size w w1 ∧ Bk w1 (w.heap.size + 1) 33 #[.slice none 0 0, .slice none 0 0, .slice none 0 0, .slice none 0 0] ∧ (∃ cs, cs.size = 4 ∧ Bk w1 w.heap.size 33 cs) ∧ w.heap.size + 1 + 1 ≤ w1.heap.size
  else Below W.heap.size W w1
def CopE (w : World) (j : Nat) (w1 w2 : World) : Prop :=
  w1.heap.size ≤ w2.heap.size ∧ (∀ b, w.heap.size + 1 + 1 ≤ b → b < w1.heap.size → w2.heap[b]? = w1.heap[b]?) ∧ ∀ c, j ≠ 13 + 2 * c → w2.cell? ⟨w.heap.size, c, none⟩ = w1.cell? ⟨w.heap.size, c, none⟩
theorem CopE.below {w w1 w2 : World} {j : Nat} (h : Below w1.heap.size w1 w2) (hs : w.heap.size + 1 + 1 ≤ w1.heap.size) : CopE w j w1 w2 :=
  ⟨h.size, fun b _ hb => h.block b hb, fun c _ => h.cell (p := ⟨w.heap.size, c, none⟩) (by simp; omega)⟩
theorem CopJ.size {w W w1 : World} {b : Bool} (h : CopJ w W b w1) (hW : W.heap.size = w.heap.size + 1 + 1) : w.heap.size + 1 + 1 ≤ w1.heap.size := by
  unfold CopJ at h
  split at h
  · exact h.2.2.2
  · have := h.size; omega
theorem CopJ.store {w W w1 : World} {p : PlantD} {x : PV} {b : Bool} (h : CopJ w W b w1) (hW : W.heap.size = w.heap.size + 1 + 1) (hWB : Below w.heap.size w W) (hP : Bk W w.heap.size 33 (plantA x p))
    (hR : Bk W (w.heap.size + 1) 33 #[.slice none 0 0, .slice none 0 0, .slice none 0 0, .slice none 0 0]) (c : Nat) (v : Value) : CopJ w W true (w1.setCell ⟨w.heap.size, c, none⟩ v) := by
  have hs := h.size hW
  unfold CopJ at *
  have ho := Only.setCell w1 w.heap.size c v
  by_cases hb : b = true
  · rw [if_pos hb] at h
    rw [if_pos rfl]
    obtain ⟨h1, h2, ⟨cs, h3, h4⟩, h5⟩ := h
    exact ⟨h1.trans (ho.below (Nat.le_refl _)), h2.only ho (by omega), ⟨_, by simp [h3], h4.set c v⟩, by rw [ho.size]; exact h5⟩
  · rw [if_neg hb] at h
    rw [if_pos rfl]
    exact ⟨(hWB.trans (h.mono (by omega))).trans (ho.below (Nat.le_refl _)), (hR.below h (by omega)).only ho (by omega), ⟨_, by simp [plantA], (hP.below h (by omega)).set c v⟩, by rw [ho.size]; exact hs⟩
theorem CopJ.bk {w W w1 : World} {p : PlantD} {x : PV} {b : Bool} (h : CopJ w W b w1) (hW : W.heap.size = w.heap.size + 1 + 1) (hP : Bk W w.heap.size 33 (plantA x p)) : ∃ cs, cs.size = 4 ∧ Bk w1 w.heap.size 33 cs := by
  unfold CopJ at h
  split at h
  · exact h.2.2.1
  · exact ⟨_, rfl, hP.below h (by omega)⟩
theorem CopJ.cell {w W w1 : World} {p : PlantD} {x : PV} {b : Bool} (h : CopJ w W b w1) (hW : W.heap.size = w.heap.size + 1 + 1) (hP : Bk W w.heap.size 33 (plantA x p)) (c : Nat) (hc : c < 4) :
    (∃ u, w1.cell? ⟨w.heap.size, c, none⟩ = some u) ∧ w1.frozen? ⟨w.heap.size, c, none⟩ = false := by
  obtain ⟨cs, h1, h2⟩ := h.bk hW hP
  exact ⟨⟨cs[c], by rw [h2.cell]; simp [h1, hc]⟩, h2.free c⟩
theorem CopE.store {w w1 : World} (hb : ∃ cs, cs.size = 4 ∧ Bk w1 w.heap.size 33 cs) (c : Nat) (v : Value) : CopE w (13 + 2 * c) w1 (w1.setCell ⟨w.heap.size, c, none⟩ v) := by
  have ho := Only.setCell w1 w.heap.size c v
  refine ⟨by rw [ho.size]; exact Nat.le_refl _, fun b hb _ => ho.block b (by omega), fun c' hc => ?_⟩
  obtain ⟨cs, _, hb⟩ := hb
  rw [(hb.set c v).cell, hb.cell, Array.getElem?_setIfInBounds, if_neg (by omega)]

theorem row_set {cur : Array Value} {n K : Nat} {f : Nat → Nat → Value} (h : ∀ i, i < n → ∀ j, j < K → cur[i * K + j]? = some (f i j)) (k m : Nat) (hk : k < n) (hm : m < K) (v : Value) :
    ∀ i, i < n → ∀ j, j < K → (cur.setIfInBounds (k * K + m) v)[i * K + j]? = some (if i = k ∧ j = m then v else f i j) := by
  intro i hi j hj
  have h0 := h k hk m hm
  have hlt : k * K + m < cur.size := (Array.getElem?_eq_some_iff.1 h0).1
  rw [Array.getElem?_setIfInBounds]
  have key : (k * K + m = i * K + j) ↔ (i = k ∧ j = m) := by
    constructor
    · intro e
      have h1 : (k * K + m) / K = (i * K + j) / K := by rw [e]
      rw [Nat.mul_comm k, Nat.mul_comm i, Nat.mul_add_div (by omega), Nat.mul_add_div (by omega), Nat.div_eq_of_lt hm, Nat.div_eq_of_lt hj] at h1
      have : i = k := by omega
      subst this
      exact ⟨rfl, by omega⟩
    · rintro ⟨rfl, rfl⟩; rfl
  by_cases hc : i = k ∧ j = m
  · rw [if_pos (key.2 hc), if_pos hc, if_pos hlt]
  · rw [if_neg (fun e => hc (key.1 e)), if_neg hc]; exact h i hi j hj
theorem Copied1.keep {w w1 w2 : World} {B P0 R0 : Nat} {p : PlantD} {f g : Nat → Nat → Value} {tA vA lA nA : Option Addr} {tc vc lc nc : Nat} (h : Copied1 w w1 B P0 R0 p f g tA vA lA nA tc vc lc nc) (hb : Below w1.heap.size w1 w2) :
    Copied1 w w2 B P0 R0 p f g tA vA lA nA tc vc lc nc :=
  ⟨h.p0.below hb h.p0.lt, h.r0.below hb h.r0.lt, h.tanks.below hb, h.valves.below hb, h.lines.below hb, h.never.below hb, h.below.trans (hb.mono h.below.size)⟩
theorem Copied1.lset {w w1 : World} {B P0 R0 gl : Nat} {p : PlantD} {f f' g : Nat → Nat → Value} {tA vA nA : Option Addr} {tc vc lc nc : Nat} (h : Copied1 w w1 B P0 R0 p f g tA vA (some ⟨gl, 0, none⟩) nA tc vc lc nc) (hB : w.heap.size ≤ B)
    (k m : Nat) (hk : k < p.lines.length) (hm : m < 5) (v : Value) (hf : ∀ i j, i < p.lines.length → j < 5 → f' i j = if i = k ∧ j = m then v else f i j) :
    Copied1 w (w1.setCell ⟨gl, k * 5 + m, none⟩ v) B P0 R0 p f' g tA vA (some ⟨gl, 0, none⟩) nA tc vc lc nc ∧ Only gl w1 (w1.setCell ⟨gl, k * 5 + m, none⟩ v) ∧ ∃ cur, Bk w1 gl 66 cur := by
  obtain ⟨g', cur, e, h1, h2, h3⟩ := h.lines.2 (by omega)
  cases e
  have ho := Only.setCell w1 gl (k * 5 + m) v
  refine ⟨⟨h.p0.only ho (h.p0.ne h2 (by decide)), h.r0.only ho (h.r0.ne h2 (by decide)), h.tanks.only ho h2 (by decide), h.valves.only ho h2 (by decide), ?_, h.never.only ho h2 (by decide), h.below.trans (ho.below (by omega))⟩, ho, cur, h2⟩
  refine ⟨h.lines.1, fun _ => ⟨gl, _, rfl, h1, h2.set _ v, fun i hi j hj => ?_⟩⟩
  rw [row_set h3 k m hk hm v i hi j hj, hf i j hi hj]
theorem Copied1.nset {w w1 : World} {B P0 R0 gl : Nat} {p : PlantD} {f g g' : Nat → Nat → Value} {tA vA lA : Option Addr} {tc vc lc nc : Nat} (h : Copied1 w w1 B P0 R0 p f g tA vA lA (some ⟨gl, 0, none⟩) tc vc lc nc) (hB : w.heap.size ≤ B)
    (k : Nat) (hk : k < p.never.length) (v : Value) (hf : ∀ i j, i < p.never.length → j < 1 → g' i j = if i = k ∧ j = 0 then v else g i j) :
    Copied1 w (w1.setCell ⟨gl, k, none⟩ v) B P0 R0 p f g' tA vA lA (some ⟨gl, 0, none⟩) tc vc lc nc ∧ Only gl w1 (w1.setCell ⟨gl, k, none⟩ v) ∧ ∃ cur, Bk w1 gl 34 cur := by
  obtain ⟨g2, cur, e, h1, h2, h3⟩ := h.never.2 (by omega)
  cases e
  have ho := Only.setCell w1 gl k v
  refine ⟨⟨h.p0.only ho (h.p0.ne h2 (by decide)), h.r0.only ho (h.r0.ne h2 (by decide)), h.tanks.only ho h2 (by decide), h.valves.only ho h2 (by decide), h.lines.only ho h2 (by decide), ?_, h.below.trans (ho.below (by omega))⟩, ho, cur, h2⟩
  refine ⟨h.never.1, fun _ => ⟨gl, _, rfl, h1, h2.set _ v, fun i hi j hj => ?_⟩⟩
  have := row_set h3 k 0 hk (by omega) v i hi j hj
  rw [Nat.mul_one, Nat.add_zero] at this
  rw [this, hf i j hi hj]

set_option maxRecDepth 100000 in
set_option maxHeartbeats 4000000 in
theorem copied_any (w : World) (x : PV) (p : PlantD) (h : PlantAt w w.heap.size x p) (hv : plantB p = true) :
    Calls Try.prog 22 #[.agg (plantA x p)] w fun e w' => ∃ x', e = .returned (.agg (plantA x' p)) ∧ PlantIn w' (fun b => w.heap.size ≤ b ∧ b < w'.heap.size) x' p ∧ Below w.heap.size w w' := by
  have hsz := plantB_sizes hv
  have h0 := Lib.hid h
  have HV := Lib.hid hv
  clear h hv
  dsimp only [plantA]
  go_enter Try.func22, Try.ntmps22
  go_wp2_with fail
  obtain ⟨W, hW⟩ : ∃ W, W = (w.alloc (.cells #[.slice x.tA p.tanks.length x.tc, .slice x.vA p.valves.length x.vc, .slice x.lA p.lines.length x.lc, .slice x.nA p.never.length x.nc] 33)).alloc (.cells #[.slice none 0 0, .slice none 0 0, .slice none 0 0, .slice none 0 0] 33) := ⟨_, rfl⟩
  have hWs : W.heap.size = w.heap.size + 1 + 1 := by rw [hW]; simp
  have hWB : Below w.heap.size w W := by rw [hW]; exact ((Below.refl _ _).alloc (Nat.le_refl _) _).alloc (by simp) _
  have hP : Bk W w.heap.size 33 (plantA x p) := by rw [hW]; exact (Bk.new _ _ _).alloc _
  have hR : Bk W (w.heap.size + 1) 33 #[.slice none 0 0, .slice none 0 0, .slice none 0 0, .slice none 0 0] := by rw [hW]; exact Bk.newAt _ _ _ _ (by simp)
  rw [← hW]
  clear hW
  refine wp_region_stepsJ (by kernel_rfl) (by kernel_rfl) (fun dn _ w1 => CopJ w W (dn 13) w1) (CopE w)
    (fun i u d w1 => match i with
      | 0 | 12 => u = .pointer (some ⟨w.heap.size, 0, none⟩)
      | 3 | 14 => u = .pointer (some ⟨w.heap.size, 1, none⟩)
      | 6 | 16 => u = .pointer (some ⟨w.heap.size, 2, none⟩)
      | 9 | 18 => u = .pointer (some ⟨w.heap.size, 3, none⟩)
      | 1 => u = .slice x.tA p.tanks.length x.tc
      | 2 => ∃ A c, u = .slice A p.tanks.length c ∧ Cl w1 (w.heap.size + 1 + 1) 68 4 A p.tanks.length (fun i => tankC (p.tank i))
      | 13 => w1.cell? ⟨w.heap.size, 0, none⟩ = some (d 2)
      | 4 => u = .slice x.vA p.valves.length x.vc
      | 5 => ∃ A c, u = .slice A p.valves.length c ∧ Cl w1 (w.heap.size + 1 + 1) 59 3 A p.valves.length (fun i => valveC (p.valve i))
      | 15 => w1.cell? ⟨w.heap.size, 1, none⟩ = some (d 5)
      | 7 => u = .slice x.lA p.lines.length x.lc
      | 8 => ∃ A c, u = .slice A p.lines.length c ∧ Cl w1 (w.heap.size + 1 + 1) 66 5 A p.lines.length (fun i => lineC (x.iA i) (x.ic i) (p.line i))
      | 17 => w1.cell? ⟨w.heap.size, 2, none⟩ = some (d 8)
      | 10 => u = .slice x.nA p.never.length x.nc
      | 11 => ∃ A c, u = .slice A p.never.length c ∧ Cl w1 (w.heap.size + 1 + 1) 34 1 A p.never.length (fun i _ => .slice (x.jA i) (p.nev i).length (x.jc i))
      | 19 => w1.cell? ⟨w.heap.size, 3, none⟩ = some (d 11)
      | _ => True) ?_ ?_ ?_ ?_
  · intro _; unfold CopJ; rw [if_neg (by decide)]; exact (Below.refl _ _).drew
  · intro i j hij _ u d w1 w2 hr ⟨hE1, hE2, hE3⟩
    match i with
    | 0 => exact hr
    | 1 => exact hr
    | 2 => obtain ⟨A, c, e, hc⟩ := hr; exact ⟨A, c, e, hc.keep hE2⟩
    | 3 => exact hr
    | 4 => exact hr
    | 5 => obtain ⟨A, c, e, hc⟩ := hr; exact ⟨A, c, e, hc.keep hE2⟩
    | 6 => exact hr
    | 7 => exact hr
    | 8 => obtain ⟨A, c, e, hc⟩ := hr; exact ⟨A, c, e, hc.keep hE2⟩
    | 9 => exact hr
    | 10 => exact hr
    | 11 => obtain ⟨A, c, e, hc⟩ := hr; exact ⟨A, c, e, hc.keep hE2⟩
    | 12 => exact hr
    | 13 => exact (hE3 0 (by omega)).trans hr
    | 14 => exact hr
    | 15 => exact (hE3 1 (by omega)).trans hr
    | 16 => exact hr
    | 17 => exact (hE3 2 (by omega)).trans hr
    | 18 => exact hr
    | 19 => exact (hE3 3 (by omega)).trans hr
    | n + 20 => trivial
  · have HP := Lib.hid hP
    have HB := Lib.hid hWB
    have HW := Lib.hid hWs
    have HR := Lib.hid hR
    clear hP hWB hR
    refine ⟨?_, ?_, ?_, ?_, ?_, ?_, ?_, ?_, ?_, ?_, ?_, ?_, ?_, ?_, ?_, ?_, ?_, ?_, ?_, ?_, trivial⟩
    · intro a w1 vs K dn Hb Hb2 HJ HK HD HN k
      have hdn : dn 13 = false := by cases hd : dn 13 with | false => rfl | true => exact absurd (Hb 13 hd).2 (by decide)
      have HJ1 : CopJ w W (dn 13) w1 := HJ
      rw [hdn] at HJ1
      have HJ' : Below W.heap.size W w1 := HJ1
      have k1 := HK 1 (by decide); go_simp; exact k _ _ (by simp) HJ (CopE.below (Below.refl _ _) (CopJ.size HJ HW.out)) rfl
    · intro a w1 vs K dn Hb Hb2 HJ HK HD HN k
      have hdn : dn 13 = false := by cases hd : dn 13 with | false => rfl | true => exact absurd (Hb 13 hd).2 (by decide)
      have HJ1 : CopJ w W (dn 13) w1 := HJ
      rw [hdn] at HJ1
      have HJ' : Below W.heap.size W w1 := HJ1
      have e0 := (HD 0 _ 5 rfl rfl rfl).1.trans (HD 0 _ 5 rfl rfl rfl).2
      have hc : w1.cell? ⟨w.heap.size, 0, none⟩ = _ := (HP.out.below HJ' (by omega)).cell 0
      simp [plantA] at hc
      go_simp; exact k _ _ (by simp) HJ (CopE.below (Below.refl _ _) (CopJ.size HJ HW.out)) rfl
    · intro a w1 vs K dn Hb Hb2 HJ HK HD HN k
      have hdn : dn 13 = false := by cases hd : dn 13 with | false => rfl | true => exact absurd (Hb 13 hd).2 (by decide)
      have HJ1 : CopJ w W (dn 13) w1 := HJ
      rw [hdn] at HJ1
      have HJ' : Below W.heap.size W w1 := HJ1
      have e1 := (HD 1 _ 6 rfl rfl rfl).1.trans (HD 1 _ 6 rfl rfl rfl).2
      exact wpo_call 54 _ _ rfl #[.slice x.tA p.tanks.length x.tc] (by simp [Act.eval, e1]) (fun args w => by kernel_rfl)
        ((cloneTank w1 x.tA p.tanks.length x.tc (fun i => tankC (p.tank i)) ((h0.out.tanks.below (HB.out.trans (HJ'.mono (by omega)))).mono (by have := HJ'.size; omega)) (fun i j => tankC_one _ _) (by omega)).mono fun e w' ⟨A, c, he, hc, hb⟩ =>
          ⟨_, he, k _ _ (by simp) (show CopJ w W (dn 13) _ from by rw [hdn]; exact HJ'.trans (hb.mono HJ'.size)) (CopE.below hb (CopJ.size HJ HW.out)) ⟨A, c, rfl, hc.mono (CopJ.size HJ HW.out)⟩⟩)
    · intro a w1 vs K dn Hb Hb2 HJ HK HD HN k
      have hdn : dn 13 = false := by cases hd : dn 13 with | false => rfl | true => exact absurd (Hb 13 hd).2 (by decide)
      have HJ1 : CopJ w W (dn 13) w1 := HJ
      rw [hdn] at HJ1
      have HJ' : Below W.heap.size W w1 := HJ1
      have k1 := HK 1 (by decide); go_simp; exact k _ _ (by simp) HJ (CopE.below (Below.refl _ _) (CopJ.size HJ HW.out)) rfl
    · intro a w1 vs K dn Hb Hb2 HJ HK HD HN k
      have hdn : dn 13 = false := by cases hd : dn 13 with | false => rfl | true => exact absurd (Hb 13 hd).2 (by decide)
      have HJ1 : CopJ w W (dn 13) w1 := HJ
      rw [hdn] at HJ1
      have HJ' : Below W.heap.size W w1 := HJ1
      have e3 := (HD 3 _ 8 rfl rfl rfl).1.trans (HD 3 _ 8 rfl rfl rfl).2
      have hc : w1.cell? ⟨w.heap.size, 1, none⟩ = _ := (HP.out.below HJ' (by omega)).cell 1
      simp [plantA] at hc
      go_simp; exact k _ _ (by simp) HJ (CopE.below (Below.refl _ _) (CopJ.size HJ HW.out)) rfl
    · intro a w1 vs K dn Hb Hb2 HJ HK HD HN k
      have hdn : dn 13 = false := by cases hd : dn 13 with | false => rfl | true => exact absurd (Hb 13 hd).2 (by decide)
      have HJ1 : CopJ w W (dn 13) w1 := HJ
      rw [hdn] at HJ1
      have HJ' : Below W.heap.size W w1 := HJ1
      have e4 := (HD 4 _ 9 rfl rfl rfl).1.trans (HD 4 _ 9 rfl rfl rfl).2
      exact wpo_call 55 _ _ rfl #[.slice x.vA p.valves.length x.vc] (by simp [Act.eval, e4]) (fun args w => by kernel_rfl)
        ((cloneValve w1 x.vA p.valves.length x.vc (fun i => valveC (p.valve i)) ((h0.out.valves.below (HB.out.trans (HJ'.mono (by omega)))).mono (by have := HJ'.size; omega)) (fun i j => valveC_one _ _) (by omega)).mono fun e w' ⟨A, c, he, hc, hb⟩ =>
          ⟨_, he, k _ _ (by simp) (show CopJ w W (dn 13) _ from by rw [hdn]; exact HJ'.trans (hb.mono HJ'.size)) (CopE.below hb (CopJ.size HJ HW.out)) ⟨A, c, rfl, hc.mono (CopJ.size HJ HW.out)⟩⟩)
    · intro a w1 vs K dn Hb Hb2 HJ HK HD HN k
      have hdn : dn 13 = false := by cases hd : dn 13 with | false => rfl | true => exact absurd (Hb 13 hd).2 (by decide)
      have HJ1 : CopJ w W (dn 13) w1 := HJ
      rw [hdn] at HJ1
      have HJ' : Below W.heap.size W w1 := HJ1
      have k1 := HK 1 (by decide); go_simp; exact k _ _ (by simp) HJ (CopE.below (Below.refl _ _) (CopJ.size HJ HW.out)) rfl
    · intro a w1 vs K dn Hb Hb2 HJ HK HD HN k
      have hdn : dn 13 = false := by cases hd : dn 13 with | false => rfl | true => exact absurd (Hb 13 hd).2 (by decide)
      have HJ1 : CopJ w W (dn 13) w1 := HJ
      rw [hdn] at HJ1
      have HJ' : Below W.heap.size W w1 := HJ1
      have e6 := (HD 6 _ 11 rfl rfl rfl).1.trans (HD 6 _ 11 rfl rfl rfl).2
      have hc : w1.cell? ⟨w.heap.size, 2, none⟩ = _ := (HP.out.below HJ' (by omega)).cell 2
      simp [plantA] at hc
      go_simp; exact k _ _ (by simp) HJ (CopE.below (Below.refl _ _) (CopJ.size HJ HW.out)) rfl
    · intro a w1 vs K dn Hb Hb2 HJ HK HD HN k
      have hdn : dn 13 = false := by cases hd : dn 13 with | false => rfl | true => exact absurd (Hb 13 hd).2 (by decide)
      have HJ1 : CopJ w W (dn 13) w1 := HJ
      rw [hdn] at HJ1
      have HJ' : Below W.heap.size W w1 := HJ1
      have e7 := (HD 7 _ 12 rfl rfl rfl).1.trans (HD 7 _ 12 rfl rfl rfl).2
      exact wpo_call 56 _ _ rfl #[.slice x.lA p.lines.length x.lc] (by simp [Act.eval, e7]) (fun args w => by kernel_rfl)
        ((cloneLine w1 x.lA p.lines.length x.lc (fun i => lineC (x.iA i) (x.ic i) (p.line i)) ((h0.out.lines.below (HB.out.trans (HJ'.mono (by omega)))).mono (by have := HJ'.size; omega)) (fun i j => lineC_one _ _ _ _) (by omega)).mono fun e w' ⟨A, c, he, hc, hb⟩ =>
          ⟨_, he, k _ _ (by simp) (show CopJ w W (dn 13) _ from by rw [hdn]; exact HJ'.trans (hb.mono HJ'.size)) (CopE.below hb (CopJ.size HJ HW.out)) ⟨A, c, rfl, hc.mono (CopJ.size HJ HW.out)⟩⟩)
    · intro a w1 vs K dn Hb Hb2 HJ HK HD HN k
      have hdn : dn 13 = false := by cases hd : dn 13 with | false => rfl | true => exact absurd (Hb 13 hd).2 (by decide)
      have HJ1 : CopJ w W (dn 13) w1 := HJ
      rw [hdn] at HJ1
      have HJ' : Below W.heap.size W w1 := HJ1
      have k1 := HK 1 (by decide); go_simp; exact k _ _ (by simp) HJ (CopE.below (Below.refl _ _) (CopJ.size HJ HW.out)) rfl
    · intro a w1 vs K dn Hb Hb2 HJ HK HD HN k
      have hdn : dn 13 = false := by cases hd : dn 13 with | false => rfl | true => exact absurd (Hb 13 hd).2 (by decide)
      have HJ1 : CopJ w W (dn 13) w1 := HJ
      rw [hdn] at HJ1
      have HJ' : Below W.heap.size W w1 := HJ1
      have e9 := (HD 9 _ 14 rfl rfl rfl).1.trans (HD 9 _ 14 rfl rfl rfl).2
      have hc : w1.cell? ⟨w.heap.size, 3, none⟩ = _ := (HP.out.below HJ' (by omega)).cell 3
      simp [plantA] at hc
      go_simp; exact k _ _ (by simp) HJ (CopE.below (Below.refl _ _) (CopJ.size HJ HW.out)) rfl
    · intro a w1 vs K dn Hb Hb2 HJ HK HD HN k
      have hdn : dn 13 = false := by cases hd : dn 13 with | false => rfl | true => exact absurd (Hb 13 hd).2 (by decide)
      have HJ1 : CopJ w W (dn 13) w1 := HJ
      rw [hdn] at HJ1
      have HJ' : Below W.heap.size W w1 := HJ1
      have e10 := (HD 10 _ 15 rfl rfl rfl).1.trans (HD 10 _ 15 rfl rfl rfl).2
      exact wpo_call 57 _ _ rfl #[.slice x.nA p.never.length x.nc] (by simp [Act.eval, e10]) (fun args w => by kernel_rfl)
        ((cloneLits w1 x.nA p.never.length x.nc (fun i _ => .slice (x.jA i) (p.nev i).length (x.jc i)) ((h0.out.never.below (HB.out.trans (HJ'.mono (by omega)))).mono (by have := HJ'.size; omega)) (fun i j => rfl) (by omega)).mono fun e w' ⟨A, c, he, hc, hb⟩ =>
          ⟨_, he, k _ _ (by simp) (show CopJ w W (dn 13) _ from by rw [hdn]; exact HJ'.trans (hb.mono HJ'.size)) (CopE.below hb (CopJ.size HJ HW.out)) ⟨A, c, rfl, hc.mono (CopJ.size HJ HW.out)⟩⟩)
    · intro a w1 vs K dn Hb Hb2 HJ HK HD HN k
      have hdn : dn 13 = false := by cases hd : dn 13 with | false => rfl | true => exact absurd (Hb 13 hd).2 (by decide)
      have HJ1 : CopJ w W (dn 13) w1 := HJ
      rw [hdn] at HJ1
      have HJ' : Below W.heap.size W w1 := HJ1
      have k1 := HK 1 (by decide); go_simp; exact k _ _ (by simp) HJ (CopE.below (Below.refl _ _) (CopJ.size HJ HW.out)) rfl
    · intro a w1 vs K dn Hb Hb2 HJ HK HD HN k
      have hdn : dn 13 = false := by cases hd : dn 13 with | false => rfl | true => exact absurd rfl (Hb 13 hd).1
      have e12 := (HD 12 _ 17 rfl rfl rfl).1.trans (HD 12 _ 17 rfl rfl rfl).2
      obtain ⟨q, A, c, r, hc⟩ := HD 2 _ 7 rfl rfl rfl
      have q2 := q.trans r
      obtain ⟨⟨u, hcell⟩, hfree⟩ := CopJ.cell HJ HW.out HP.out 0 (by omega)
      go_simp
      refine k undef _ (by simp) (by exact CopJ.store HJ HW.out HB.out HP.out HR.out 0 _) (CopE.store (CopJ.bk HJ HW.out HP.out) 0 _) ?_
      show _ = some (vs 2)
      rw [r]
      obtain ⟨cs, h1, h2⟩ := CopJ.bk HJ HW.out HP.out
      rw [(h2.set 0 _).cell]
      simp [h1]
    · intro a w1 vs K dn Hb Hb2 HJ HK HD HN k
      have k1 := HK 1 (by decide); go_simp; exact k _ _ (by simp) HJ (CopE.below (Below.refl _ _) (CopJ.size HJ HW.out)) rfl
    · intro a w1 vs K dn Hb Hb2 HJ HK HD HN k
      have hdn : dn 13 = true := Hb2 13 (by decide)
      have e14 := (HD 14 _ 18 rfl rfl rfl).1.trans (HD 14 _ 18 rfl rfl rfl).2
      obtain ⟨q, A, c, r, hc⟩ := HD 5 _ 10 rfl rfl rfl
      have q2 := q.trans r
      obtain ⟨⟨u, hcell⟩, hfree⟩ := CopJ.cell HJ HW.out HP.out 1 (by omega)
      go_simp
      refine k undef _ (by simp) (by show CopJ w W (dn 13) _; rw [hdn]; exact CopJ.store HJ HW.out HB.out HP.out HR.out 1 _) (CopE.store (CopJ.bk HJ HW.out HP.out) 1 _) ?_
      show _ = some (vs 5)
      rw [r]
      obtain ⟨cs, h1, h2⟩ := CopJ.bk HJ HW.out HP.out
      rw [(h2.set 1 _).cell]
      simp [h1]
    · intro a w1 vs K dn Hb Hb2 HJ HK HD HN k
      have k1 := HK 1 (by decide); go_simp; exact k _ _ (by simp) HJ (CopE.below (Below.refl _ _) (CopJ.size HJ HW.out)) rfl
    · intro a w1 vs K dn Hb Hb2 HJ HK HD HN k
      have hdn : dn 13 = true := Hb2 13 (by decide)
      have e16 := (HD 16 _ 19 rfl rfl rfl).1.trans (HD 16 _ 19 rfl rfl rfl).2
      obtain ⟨q, A, c, r, hc⟩ := HD 8 _ 13 rfl rfl rfl
      have q2 := q.trans r
      obtain ⟨⟨u, hcell⟩, hfree⟩ := CopJ.cell HJ HW.out HP.out 2 (by omega)
      go_simp
      refine k undef _ (by simp) (by show CopJ w W (dn 13) _; rw [hdn]; exact CopJ.store HJ HW.out HB.out HP.out HR.out 2 _) (CopE.store (CopJ.bk HJ HW.out HP.out) 2 _) ?_
      show _ = some (vs 8)
      rw [r]
      obtain ⟨cs, h1, h2⟩ := CopJ.bk HJ HW.out HP.out
      rw [(h2.set 2 _).cell]
      simp [h1]
    · intro a w1 vs K dn Hb Hb2 HJ HK HD HN k
      have k1 := HK 1 (by decide); go_simp; exact k _ _ (by simp) HJ (CopE.below (Below.refl _ _) (CopJ.size HJ HW.out)) rfl
    · intro a w1 vs K dn Hb Hb2 HJ HK HD HN k
      have hdn : dn 13 = true := Hb2 13 (by decide)
      have e18 := (HD 18 _ 20 rfl rfl rfl).1.trans (HD 18 _ 20 rfl rfl rfl).2
      obtain ⟨q, A, c, r, hc⟩ := HD 11 _ 16 rfl rfl rfl
      have q2 := q.trans r
      obtain ⟨⟨u, hcell⟩, hfree⟩ := CopJ.cell HJ HW.out HP.out 3 (by omega)
      go_simp
      refine k undef _ (by simp) (by show CopJ w W (dn 13) _; rw [hdn]; exact CopJ.store HJ HW.out HB.out HP.out HR.out 3 _) (CopE.store (CopJ.bk HJ HW.out HP.out) 3 _) ?_
      show _ = some (vs 11)
      rw [r]
      obtain ⟨cs, h1, h2⟩ := CopJ.bk HJ HW.out HP.out
      rw [(h2.set 3 _).cell]
      simp [h1]
  · intro vs dn w1 hdn HJ hr
    have HJ1 : CopJ w W (dn 13) w1 := HJ
    rw [hdn 13 (by decide)] at HJ1
    obtain ⟨j1, j2, ⟨cs, j3, j4⟩, j5⟩ : Below w.heap.size w w1 ∧ Bk w1 (w.heap.size + 1) 33 #[.slice none 0 0, .slice none 0 0, .slice none 0 0, .slice none 0 0] ∧ (∃ cs : Array Value, cs.size = 4 ∧ Bk w1 w.heap.size 33 cs) ∧ w.heap.size + 1 + 1 ≤ w1.heap.size := HJ1
    obtain ⟨tA, tc, t1, t2⟩ := hr 2 _ rfl
    obtain ⟨vA, vc, v1, v2⟩ := hr 5 _ rfl
    obtain ⟨lA, lc, l1, l2⟩ := hr 8 _ rfl
    obtain ⟨nA, nc, n1, n2⟩ := hr 11 _ rfl
    have q0 : w1.cell? ⟨w.heap.size, 0, none⟩ = some (vs 2) := hr 13 _ rfl
    have q1 : w1.cell? ⟨w.heap.size, 1, none⟩ = some (vs 5) := hr 15 _ rfl
    have q2 : w1.cell? ⟨w.heap.size, 2, none⟩ = some (vs 8) := hr 17 _ rfl
    have q3 : w1.cell? ⟨w.heap.size, 3, none⟩ = some (vs 11) := hr 19 _ rfl
    rw [j4.cell, t1] at q0
    rw [j4.cell, v1] at q1
    rw [j4.cell, l1] at q2
    rw [j4.cell, n1] at q3
    have ecs := arr4 j3 q0 q1 q2 q3
    subst ecs
    have C1 : Copied1 w w1 (w.heap.size + 1 + 1) w.heap.size (w.heap.size + 1) p (fun i => lineC (x.iA i) (x.ic i) (p.line i)) (fun i _ => .slice (x.jA i) (p.nev i).length (x.jc i)) tA vA lA nA tc vc lc nc := ⟨j4, j2, t2, v2, l2, n2, j1⟩
    clear q0 q1 q2 q3 j1 j2 j3 j4 t1 t2 v1 v2 l1 l2 n1 n2 HJ hr hdn hP hR hWB hWs
    obtain ⟨nl, hnl⟩ : ∃ nl, nl = p.lines.length := ⟨_, rfl⟩
    have hnl32 : nl ≤ 32 := by omega
    have c2 := C1.p0.cell 2
    simp only [plant4, ← hnl] at c2
    have c2' : w1.cell? ⟨w.heap.size, 2, none⟩ = some (.slice lA nl lc) := c2
    have HC1 := Lib.hid C1
    have HNL := Lib.hid hnl
    have HSZ := Lib.hid hsz
    clear C1 hnl c2 hsz
    simp only [putAll, Act.put]
    go_simp
    go_wp2_with fail
    go_loopw [24] (fun i wr => ∃ (k : Nat) (iA : Nat → Option Addr) (ic : Nat → Nat), k ≤ nl ∧ i = .int .i64 k ∧ (∀ i, k ≤ i → iA i = x.iA i ∧ ic i = x.ic i) ∧
      (∀ i, i < k → Cl wr (w.heap.size + 1 + 1) 3 1 (iA i) (p.line i).valves.length fun j _ => .int .i64 ((p.line i).valves.getD j 0)) ∧
      Copied1 w wr (w.heap.size + 1 + 1) w.heap.size (w.heap.size + 1) p (fun i => lineC (iA i) (ic i) (p.line i)) (fun i _ => .slice (x.jA i) (p.nev i).length (x.jc i)) tA vA lA nA tc vc lc nc) (fun i _ => nl - (intOf i).toNat)
    case atStart => exact ⟨0, x.iA, x.ic, Nat.zero_le _, rfl, fun _ _ => ⟨rfl, rfl⟩, fun i hi => absurd hi (by omega), HC1.out⟩
    case round =>
      clear HC1 c2'
      obtain ⟨k, iA, ic, hk, rfl, hold, hnew, hC⟩ := hrel
      have c2 := hC.p0.cell 2
      simp only [plant4, ← HNL.out] at c2
      have c2' : wr.cell? ⟨w.heap.size, 2, none⟩ = some (.slice lA nl lc) := c2
      clear c2
      by_cases hlt : k < nl
      · have hkl : k < p.lines.length := by rw [← HNL.out]; exact hlt
        obtain ⟨gl, cur, e, hgB, hgl, hgc⟩ := hC.lines.2 (by omega)
        subst e
        have hki : (k : Int) < (nl : Int) := by omega
        have h0i : (0 : Int) ≤ (k : Int) := by omega
        have hc4 : wr.cell? ⟨gl, k * 5 + 4, none⟩ = some (.slice (x.iA k) (p.line k).valves.length (x.ic k)) := by
          rw [hgl.cell, hgc k hkl 4 (by omega)]
          simp only [lineC]
          rw [(hold k (Nat.le_refl _)).1, (hold k (Nat.le_refl _)).2]
        have hpl : w.heap.size < wr.heap.size := hC.p0.lt
        have hfree := hgl.free (k * 5 + 4)
        have hgls := hgl.lt
        have hIN : Hid (∀ w1, Below wr.heap.size wr w1 → Sl w1 w1.heap.size 1 (x.iA k) (p.line k).valves.length fun j _ => .int .i64 ((p.line k).valves.getD j 0)) :=
          Lib.hid fun w1 hb => Sl.mono (Sl.below (h0.out.lv k hkl) (hC.below.trans (hb.mono (by omega)))) (by have := hb.size; omega)
        have hv4 := HSZ.out.2.2.2.2.1 k hkl
        have HC := Lib.hid hC
        have HOLD := Lib.hid hold
        have HNEW := Lib.hid hnew
        clear hC hold hnew hgc
        go_wp2_with fail
        refine wp_region_stepsM (by kernel_rfl) (by kernel_rfl) 12 (by decide)
          (fun b w1 => if b = true then ∃ A c w2, Below wr.heap.size wr w2 ∧ Cl w2 wr.heap.size 3 1 A (p.line k).valves.length (fun j _ => .int .i64 ((p.line k).valves.getD j 0)) ∧ w1 = w2.setCell ⟨gl, k * 5 + 4, none⟩ (.slice A (p.line k).valves.length c) else Below wr.heap.size wr w1)
          (fun _ w1 w2 => ∀ b, wr.heap.size ≤ b → b < w1.heap.size → w2.heap[b]? = w1.heap[b]?)
          (fun i u d w1 => match i with
            | 0 | 3 => u = .pointer (some ⟨w.heap.size, 2, none⟩)
            | 1 | 4 => u = .slice (some ⟨gl, 0, none⟩) nl lc
            | 2 | 5 => u = .int .i64 k
            | 6 | 10 => u = .pointer (some ⟨gl, k * 5, none⟩)
            | 7 | 11 => u = .pointer (some ⟨gl, k * 5 + 4, none⟩)
            | 8 => u = .slice (x.iA k) (p.line k).valves.length (x.ic k)
            | 9 => ∃ A c, u = .slice A (p.line k).valves.length c ∧ Cl w1 wr.heap.size 3 1 A (p.line k).valves.length (fun j _ => .int .i64 ((p.line k).valves.getD j 0))
            | _ => True) (Below.refl _ _).drew ?_ ?_ ?_
        · intro i j hij _ u d w1 w2 hr hE
          match i with
          | 0 => exact hr
          | 1 => exact hr
          | 2 => exact hr
          | 3 => exact hr
          | 4 => exact hr
          | 5 => exact hr
          | 6 => exact hr
          | 7 => exact hr
          | 8 => exact hr
          | 9 => obtain ⟨A, c, e, hc⟩ := hr; exact ⟨A, c, e, hc.keep hE⟩
          | 10 => exact hr
          | 11 => exact hr
          | n + 12 => trivial
        · refine ⟨?_, ?_, ?_, ?_, ?_, ?_, ?_, ?_, ?_, ?_, ?_, ?_, ?_, trivial⟩
          · intro a w1 vs K b Hb HJ HK HD HN kc
            obtain rfl : b = false := by cases b with | false => rfl | true => exact absurd (Hb rfl).2 (by decide)
            have HJ' : Below wr.heap.size wr w1 := HJ
            have k1 := HK 1 (by decide); go_simp; exact kc _ _ (by simp) HJ (fun _ _ _ => rfl) rfl
          · intro a w1 vs K b Hb HJ HK HD HN kc
            obtain rfl : b = false := by cases b with | false => rfl | true => exact absurd (Hb rfl).2 (by decide)
            have HJ' : Below wr.heap.size wr w1 := HJ
            have e0 := (HD 0 _ 27 rfl rfl rfl).1.trans (HD 0 _ 27 rfl rfl rfl).2; have hc := (HJ'.cell (p := ⟨w.heap.size, 2, none⟩) hpl).trans c2'; go_simp; exact kc _ _ (by simp) HJ (fun _ _ _ => rfl) rfl
          · intro a w1 vs K b Hb HJ HK HD HN kc
            obtain rfl : b = false := by cases b with | false => rfl | true => exact absurd (Hb rfl).2 (by decide)
            have HJ' : Below wr.heap.size wr w1 := HJ
            have k3 := HK 3 (by decide); go_simp; exact kc _ _ (by simp) HJ (fun _ _ _ => rfl) rfl
          · intro a w1 vs K b Hb HJ HK HD HN kc
            obtain rfl : b = false := by cases b with | false => rfl | true => exact absurd (Hb rfl).2 (by decide)
            have HJ' : Below wr.heap.size wr w1 := HJ
            have k1 := HK 1 (by decide); go_simp; exact kc _ _ (by simp) HJ (fun _ _ _ => rfl) rfl
          · intro a w1 vs K b Hb HJ HK HD HN kc
            obtain rfl : b = false := by cases b with | false => rfl | true => exact absurd (Hb rfl).2 (by decide)
            have HJ' : Below wr.heap.size wr w1 := HJ
            have e3 := (HD 3 _ 30 rfl rfl rfl).1.trans (HD 3 _ 30 rfl rfl rfl).2; have hc := (HJ'.cell (p := ⟨w.heap.size, 2, none⟩) hpl).trans c2'; go_simp; exact kc _ _ (by simp) HJ (fun _ _ _ => rfl) rfl
          · intro a w1 vs K b Hb HJ HK HD HN kc
            obtain rfl : b = false := by cases b with | false => rfl | true => exact absurd (Hb rfl).2 (by decide)
            have HJ' : Below wr.heap.size wr w1 := HJ
            have k3 := HK 3 (by decide); go_simp; exact kc _ _ (by simp) HJ (fun _ _ _ => rfl) rfl
          · intro a w1 vs K b Hb HJ HK HD HN kc
            obtain rfl : b = false := by cases b with | false => rfl | true => exact absurd (Hb rfl).2 (by decide)
            have HJ' : Below wr.heap.size wr w1 := HJ
            have e4 := (HD 4 _ 31 rfl rfl rfl).1.trans (HD 4 _ 31 rfl rfl rfl).2; have e5 := (HD 5 _ 32 rfl rfl rfl).1.trans (HD 5 _ 32 rfl rfl rfl).2; go_simp; exact kc _ _ (by simp) HJ (fun _ _ _ => rfl) rfl
          · intro a w1 vs K b Hb HJ HK HD HN kc
            obtain rfl : b = false := by cases b with | false => rfl | true => exact absurd (Hb rfl).2 (by decide)
            have HJ' : Below wr.heap.size wr w1 := HJ
            have e6 := (HD 6 _ 33 rfl rfl rfl).1.trans (HD 6 _ 33 rfl rfl rfl).2; go_simp; exact kc _ _ (by simp) HJ (fun _ _ _ => rfl) rfl
          · intro a w1 vs K b Hb HJ HK HD HN kc
            obtain rfl : b = false := by cases b with | false => rfl | true => exact absurd (Hb rfl).2 (by decide)
            have HJ' : Below wr.heap.size wr w1 := HJ
            have e7 := (HD 7 _ 34 rfl rfl rfl).1.trans (HD 7 _ 34 rfl rfl rfl).2; have hc := (HJ'.cell (p := ⟨gl, k * 5 + 4, none⟩) hgls).trans hc4; go_simp; exact kc _ _ (by simp) HJ (fun _ _ _ => rfl) rfl
          · intro a w1 vs K b Hb HJ HK HD HN kc
            obtain rfl : b = false := by cases b with | false => rfl | true => exact absurd (Hb rfl).2 (by decide)
            have HJ' : Below wr.heap.size wr w1 := HJ
            have e8 := (HD 8 _ 35 rfl rfl rfl).1.trans (HD 8 _ 35 rfl rfl rfl).2
            exact wpo_call 58 _ _ rfl #[.slice (x.iA k) (p.line k).valves.length (x.ic k)] (by simp [Act.eval, e8]) (fun args w => by kernel_rfl)
              ((cloneInt w1 _ _ _ _ (hIN.out w1 HJ') (fun _ _ => rfl) (by omega)).mono fun e w' ⟨A, c, he, hc, hb⟩ =>
                ⟨_, he, kc _ _ (by simp) (show Below wr.heap.size wr w' from HJ'.trans (hb.mono HJ'.size)) (fun b _ h => hb.block b h) ⟨A, c, rfl, hc.mono HJ'.size⟩⟩)
          · intro a w1 vs K b Hb HJ HK HD HN kc
            obtain rfl : b = false := by cases b with | false => rfl | true => exact absurd (Hb rfl).2 (by decide)
            have HJ' : Below wr.heap.size wr w1 := HJ
            have e1 := (HD 1 _ 28 rfl rfl rfl).1.trans (HD 1 _ 28 rfl rfl rfl).2; have e2 := (HD 2 _ 29 rfl rfl rfl).1.trans (HD 2 _ 29 rfl rfl rfl).2; go_simp; exact kc _ _ (by simp) HJ (fun _ _ _ => rfl) rfl
          · intro a w1 vs K b Hb HJ HK HD HN kc
            obtain rfl : b = false := by cases b with | false => rfl | true => exact absurd (Hb rfl).2 (by decide)
            have HJ' : Below wr.heap.size wr w1 := HJ
            have e10 := (HD 10 _ 37 rfl rfl rfl).1.trans (HD 10 _ 37 rfl rfl rfl).2; go_simp; exact kc _ _ (by simp) HJ (fun _ _ _ => rfl) rfl
          · intro a w1 vs K b Hb HJ HK HD HN kc
            obtain rfl : b = false := by cases b with | false => rfl | true => exact absurd rfl (Hb rfl).1
            have HJ' : Below wr.heap.size wr w1 := HJ
            have e11 := (HD 11 _ 38 rfl rfl rfl).1.trans (HD 11 _ 38 rfl rfl rfl).2
            obtain ⟨q, A, c, r, hc⟩ := HD 9 _ 36 rfl rfl rfl
            have q2 := q.trans r
            have hc4' := (HJ'.cell (p := ⟨gl, k * 5 + 4, none⟩) hgls).trans hc4
            have hf4' := (HJ'.frozen (p := ⟨gl, k * 5 + 4, none⟩) hgls).trans hfree
            go_simp
            refine kc undef _ (by simp) ⟨A, c, w1, HJ', hc, rfl⟩ (fun b hb _ => (Only.setCell w1 gl _ _).block b (by omega)) trivial
        · intro vs2 w1 HJ hr
          obtain ⟨A, c, w2, hb, hcl, rfl⟩ : ∃ A c w2, Below wr.heap.size wr w2 ∧ Cl w2 wr.heap.size 3 1 A (p.line k).valves.length (fun j _ => .int .i64 ((p.line k).valves.getD j 0)) ∧ w1 = w2.setCell ⟨gl, k * 5 + 4, none⟩ (.slice A (p.line k).valves.length c) := HJ
          obtain ⟨hC3, ho, cur2, hgl2⟩ := (HC.out.keep hb).lset (by omega) k 4 hkl (by omega) (.slice A (p.line k).valves.length c) (f' := fun i => lineC (if i = k then A else iA i) (if i = k then c else ic i) (p.line i)) (by
            intro i j hi hj
            by_cases hik : i = k
            · subst hik
              simp only [if_true, true_and]
              match j, hj with
              | 0, _ => rfl
              | 1, _ => rfl
              | 2, _ => rfl
              | 3, _ => rfl
              | 4, _ => rfl
            · simp [hik])
          have hN : ∀ i, i < k + 1 → Cl (w2.setCell ⟨gl, k * 5 + 4, none⟩ (.slice A (p.line k).valves.length c)) (w.heap.size + 1 + 1) 3 1 (if i = k then A else iA i) (p.line i).valves.length fun j _ => .int .i64 ((p.line i).valves.getD j 0) := by
            intro i hi
            by_cases hik : i = k
            · subst hik; rw [if_pos rfl]; exact (hcl.mono (by have := HC.out.r0.lt; omega)).only ho hgl2 (by decide)
            · rw [if_neg hik]; exact ((HNEW.out i (by omega)).below hb).only ho hgl2 (by decide)
          have H3 := Lib.hid hC3
          have HN3 := Lib.hid hN
          clear hC3 hN ho hgl2 hcl hb hr
          obtain ⟨w3, hw3⟩ : ∃ w3, w3 = w2.setCell ⟨gl, k * 5 + 4, none⟩ (.slice A (p.line k).valves.length c) := ⟨_, rfl⟩
          rw [← hw3] at H3 HN3 ⊢
          clear hw3
          simp only [putAll, Act.put]
          go_simp
          go_wp2_with fail
          go_roundw
          case rel => exact ⟨k + 1, fun i => if i = k then A else iA i, fun i => if i = k then c else ic i, by omega, by go_num, fun i hi => by simp only [show i ≠ k from by omega, if_false]; exact HOLD.out i (by omega), HN3.out, H3.out⟩
          case measure => simp [intOf]; omega
      · obtain rfl : k = nl := by omega
        have HC := Lib.hid hC
        have HNEW := Lib.hid hnew
        clear hC hnew hold hlt
        obtain ⟨nn, hnn⟩ : ∃ nn, nn = p.never.length := ⟨_, rfl⟩
        have hnn32 : nn ≤ 32 := by have := HSZ.out; omega
        have c3 := HC.out.p0.cell 3
        simp only [plant4, ← hnn] at c3
        have c3' : wr.cell? ⟨w.heap.size, 3, none⟩ = some (.slice nA nn nc) := c3
        have HNN := Lib.hid hnn
        clear hnn c3 c2'
        go_wp2_with fail
        go_loopw [43] (fun i wr => ∃ (j : Nat) (jA : Nat → Option Addr) (jc : Nat → Nat), j ≤ nn ∧ i = .int .i64 j ∧ (∀ i, j ≤ i → jA i = x.jA i ∧ jc i = x.jc i) ∧
          (∀ i, i < j → Cl wr (w.heap.size + 1 + 1) 51 2 (jA i) (p.nev i).length fun m => litC ((p.nev i).getD m lit0)) ∧
          (∀ i, i < k → Cl wr (w.heap.size + 1 + 1) 3 1 (iA i) (p.line i).valves.length fun j _ => .int .i64 ((p.line i).valves.getD j 0)) ∧
          Copied1 w wr (w.heap.size + 1 + 1) w.heap.size (w.heap.size + 1) p (fun i => lineC (iA i) (ic i) (p.line i)) (fun i _ => .slice (jA i) (p.nev i).length (jc i)) tA vA lA nA tc vc lc nc) (fun i _ => nn - (intOf i).toNat)
        case atStart => exact ⟨0, x.jA, x.jc, Nat.zero_le _, rfl, fun _ _ => ⟨rfl, rfl⟩, fun i hi => absurd hi (by omega), HNEW.out, HC.out⟩
        case round =>
          clear HC HNEW c3'
          obtain ⟨j, jA, jc, hj, rfl, hold, hnew, hints, hC⟩ := hrel
          have c3 := hC.p0.cell 3
          simp only [plant4, ← HNN.out] at c3
          have c3' : wr.cell? ⟨w.heap.size, 3, none⟩ = some (.slice nA nn nc) := c3
          clear c3
          by_cases hlt : j < nn
          · have hjl : j < p.never.length := by rw [← HNN.out]; exact hlt
            obtain ⟨gn, cur, e, hgB, hgn, hgc⟩ := hC.never.2 (by omega)
            subst e
            have hji : (j : Int) < (nn : Int) := by omega
            have h0i : (0 : Int) ≤ (j : Int) := by omega
            have hc4 : wr.cell? ⟨gn, j, none⟩ = some (.slice (x.jA j) (p.nev j).length (x.jc j)) := by
              have := hgc j hjl 0 (by omega)
              rw [Nat.mul_one, Nat.add_zero] at this
              rw [hgn.cell, this]
              simp only
              rw [(hold j (Nat.le_refl _)).1, (hold j (Nat.le_refl _)).2]
            have hpl : w.heap.size < wr.heap.size := hC.p0.lt
            have hfree := hgn.free j
            have hgns := hgn.lt
            have hIN : Hid (∀ w1, Below wr.heap.size wr w1 → Sl w1 w1.heap.size 2 (x.jA j) (p.nev j).length fun m => litC ((p.nev j).getD m lit0)) :=
              Lib.hid fun w1 hb => Sl.mono (Sl.below (h0.out.nv j hjl) (hC.below.trans (hb.mono (by omega)))) (by have := hb.size; omega)
            have hv4 := HSZ.out.2.2.2.2.2 j hjl
            have HC := Lib.hid hC
            have HOLD := Lib.hid hold
            have HNEW := Lib.hid hnew
            have HINTS := Lib.hid hints
            clear hC hold hnew hgc hints
            go_wp2_with fail
            refine wp_region_stepsM (by kernel_rfl) (by kernel_rfl) 10 (by decide)
              (fun b w1 => if b = true then ∃ A c w2, Below wr.heap.size wr w2 ∧ Cl w2 wr.heap.size 51 2 A (p.nev j).length (fun m => litC ((p.nev j).getD m lit0)) ∧ w1 = w2.setCell ⟨gn, j, none⟩ (.slice A (p.nev j).length c) else Below wr.heap.size wr w1)
              (fun _ w1 w2 => ∀ b, wr.heap.size ≤ b → b < w1.heap.size → w2.heap[b]? = w1.heap[b]?)
              (fun i u d w1 => match i with
                | 0 | 3 => u = .pointer (some ⟨w.heap.size, 3, none⟩)
                | 1 | 4 => u = .slice (some ⟨gn, 0, none⟩) nn nc
                | 2 | 5 => u = .int .i64 j
                | 6 | 9 => u = .pointer (some ⟨gn, j, none⟩)
                | 7 => u = .slice (x.jA j) (p.nev j).length (x.jc j)
                | 8 => ∃ A c, u = .slice A (p.nev j).length c ∧ Cl w1 wr.heap.size 51 2 A (p.nev j).length (fun m => litC ((p.nev j).getD m lit0))
                | _ => True) (Below.refl _ _).drew ?_ ?_ ?_
            · intro i j' hij _ u d w1 w2 hr hE
              match i with
              | 0 => exact hr
              | 1 => exact hr
              | 2 => exact hr
              | 3 => exact hr
              | 4 => exact hr
              | 5 => exact hr
              | 6 => exact hr
              | 7 => exact hr
              | 8 => obtain ⟨A, c, e, hc⟩ := hr; exact ⟨A, c, e, hc.keep hE⟩
              | 9 => exact hr
              | n + 10 => trivial
            · refine ⟨?_, ?_, ?_, ?_, ?_, ?_, ?_, ?_, ?_, ?_, ?_, trivial⟩
              · intro a w1 vs K b Hb HJ HK HD HN kc
                obtain rfl : b = false := by cases b with | false => rfl | true => exact absurd (Hb rfl).2 (by decide)
                have HJ' : Below wr.heap.size wr w1 := HJ
                have k1 := HK 1 (by decide); go_simp; exact kc _ _ (by simp) HJ (fun _ _ _ => rfl) rfl
              · intro a w1 vs K b Hb HJ HK HD HN kc
                obtain rfl : b = false := by cases b with | false => rfl | true => exact absurd (Hb rfl).2 (by decide)
                have HJ' : Below wr.heap.size wr w1 := HJ
                have e0 := (HD 0 _ 46 rfl rfl rfl).1.trans (HD 0 _ 46 rfl rfl rfl).2; have hc := (HJ'.cell (p := ⟨w.heap.size, 3, none⟩) hpl).trans c3'; go_simp; exact kc _ _ (by simp) HJ (fun _ _ _ => rfl) rfl
              · intro a w1 vs K b Hb HJ HK HD HN kc
                obtain rfl : b = false := by cases b with | false => rfl | true => exact absurd (Hb rfl).2 (by decide)
                have HJ' : Below wr.heap.size wr w1 := HJ
                have k3 := HK 4 (by decide); go_simp; exact kc _ _ (by simp) HJ (fun _ _ _ => rfl) rfl
              · intro a w1 vs K b Hb HJ HK HD HN kc
                obtain rfl : b = false := by cases b with | false => rfl | true => exact absurd (Hb rfl).2 (by decide)
                have HJ' : Below wr.heap.size wr w1 := HJ
                have k1 := HK 1 (by decide); go_simp; exact kc _ _ (by simp) HJ (fun _ _ _ => rfl) rfl
              · intro a w1 vs K b Hb HJ HK HD HN kc
                obtain rfl : b = false := by cases b with | false => rfl | true => exact absurd (Hb rfl).2 (by decide)
                have HJ' : Below wr.heap.size wr w1 := HJ
                have e3 := (HD 3 _ 49 rfl rfl rfl).1.trans (HD 3 _ 49 rfl rfl rfl).2; have hc := (HJ'.cell (p := ⟨w.heap.size, 3, none⟩) hpl).trans c3'; go_simp; exact kc _ _ (by simp) HJ (fun _ _ _ => rfl) rfl
              · intro a w1 vs K b Hb HJ HK HD HN kc
                obtain rfl : b = false := by cases b with | false => rfl | true => exact absurd (Hb rfl).2 (by decide)
                have HJ' : Below wr.heap.size wr w1 := HJ
                have k3 := HK 4 (by decide); go_simp; exact kc _ _ (by simp) HJ (fun _ _ _ => rfl) rfl
              · intro a w1 vs K b Hb HJ HK HD HN kc
                obtain rfl : b = false := by cases b with | false => rfl | true => exact absurd (Hb rfl).2 (by decide)
                have HJ' : Below wr.heap.size wr w1 := HJ
                have e4 := (HD 4 _ 50 rfl rfl rfl).1.trans (HD 4 _ 50 rfl rfl rfl).2; have e5 := (HD 5 _ 51 rfl rfl rfl).1.trans (HD 5 _ 51 rfl rfl rfl).2; go_simp; exact kc _ _ (by simp) HJ (fun _ _ _ => rfl) rfl
              · intro a w1 vs K b Hb HJ HK HD HN kc
                obtain rfl : b = false := by cases b with | false => rfl | true => exact absurd (Hb rfl).2 (by decide)
                have HJ' : Below wr.heap.size wr w1 := HJ
                have e6 := (HD 6 _ 52 rfl rfl rfl).1.trans (HD 6 _ 52 rfl rfl rfl).2; have hc := (HJ'.cell (p := ⟨gn, j, none⟩) hgns).trans hc4; go_simp; exact kc _ _ (by simp) HJ (fun _ _ _ => rfl) rfl
              · intro a w1 vs K b Hb HJ HK HD HN kc
                obtain rfl : b = false := by cases b with | false => rfl | true => exact absurd (Hb rfl).2 (by decide)
                have HJ' : Below wr.heap.size wr w1 := HJ
                have e7 := (HD 7 _ 53 rfl rfl rfl).1.trans (HD 7 _ 53 rfl rfl rfl).2
                exact wpo_call 59 _ _ rfl #[.slice (x.jA j) (p.nev j).length (x.jc j)] (by simp [Act.eval, e7]) (fun args w => by kernel_rfl)
                  ((cloneLit w1 _ _ _ _ (hIN.out w1 HJ') (fun _ _ => litC_one _ _) (by omega)).mono fun e w' ⟨A, c, he, hc, hb⟩ =>
                    ⟨_, he, kc _ _ (by simp) (show Below wr.heap.size wr w' from HJ'.trans (hb.mono HJ'.size)) (fun b _ h => hb.block b h) ⟨A, c, rfl, hc.mono HJ'.size⟩⟩)
              · intro a w1 vs K b Hb HJ HK HD HN kc
                obtain rfl : b = false := by cases b with | false => rfl | true => exact absurd (Hb rfl).2 (by decide)
                have HJ' : Below wr.heap.size wr w1 := HJ
                have e1 := (HD 1 _ 47 rfl rfl rfl).1.trans (HD 1 _ 47 rfl rfl rfl).2; have e2 := (HD 2 _ 48 rfl rfl rfl).1.trans (HD 2 _ 48 rfl rfl rfl).2; go_simp; exact kc _ _ (by simp) HJ (fun _ _ _ => rfl) rfl
              · intro a w1 vs K b Hb HJ HK HD HN kc
                obtain rfl : b = false := by cases b with | false => rfl | true => exact absurd rfl (Hb rfl).1
                have HJ' : Below wr.heap.size wr w1 := HJ
                have e9 := (HD 9 _ 55 rfl rfl rfl).1.trans (HD 9 _ 55 rfl rfl rfl).2
                obtain ⟨q, A, c, r, hc⟩ := HD 8 _ 54 rfl rfl rfl
                have q2 := q.trans r
                have hc4' := (HJ'.cell (p := ⟨gn, j, none⟩) hgns).trans hc4
                have hf4' := (HJ'.frozen (p := ⟨gn, j, none⟩) hgns).trans hfree
                go_simp
                refine kc undef _ (by simp) ⟨A, c, w1, HJ', hc, rfl⟩ (fun b hb _ => (Only.setCell w1 gn _ _).block b (by omega)) trivial
            · intro vs2 w1 HJ hr
              obtain ⟨A, c, w2, hb, hcl, rfl⟩ : ∃ A c w2, Below wr.heap.size wr w2 ∧ Cl w2 wr.heap.size 51 2 A (p.nev j).length (fun m => litC ((p.nev j).getD m lit0)) ∧ w1 = w2.setCell ⟨gn, j, none⟩ (.slice A (p.nev j).length c) := HJ
              obtain ⟨hC3, ho, cur2, hgn2⟩ := (HC.out.keep hb).nset (by omega) j hjl (.slice A (p.nev j).length c) (g' := fun i _ => .slice (if i = j then A else jA i) (p.nev i).length (if i = j then c else jc i)) (by
                intro i m hi hm
                by_cases hij : i = j
                · subst hij
                  obtain rfl : m = 0 := by omega
                  simp
                · simp [hij])
              have hN : ∀ i, i < j + 1 → Cl (w2.setCell ⟨gn, j, none⟩ (.slice A (p.nev j).length c)) (w.heap.size + 1 + 1) 51 2 (if i = j then A else jA i) (p.nev i).length fun m => litC ((p.nev i).getD m lit0) := by
                intro i hi
                by_cases hij : i = j
                · subst hij; rw [if_pos rfl]; exact (hcl.mono (by have := HC.out.r0.lt; omega)).only ho hgn2 (by decide)
                · rw [if_neg hij]; exact ((HNEW.out i (by omega)).below hb).only ho hgn2 (by decide)
              have hI : ∀ i, i < k → Cl (w2.setCell ⟨gn, j, none⟩ (.slice A (p.nev j).length c)) (w.heap.size + 1 + 1) 3 1 (iA i) (p.line i).valves.length fun j _ => .int .i64 ((p.line i).valves.getD j 0) :=
                fun i hi => ((HINTS.out i hi).below hb).only ho hgn2 (by decide)
              have H3 := Lib.hid hC3
              have HN3 := Lib.hid hN
              have HI3 := Lib.hid hI
              clear hC3 hN hI ho hgn2 hcl hb hr
              obtain ⟨w3, hw3⟩ : ∃ w3, w3 = w2.setCell ⟨gn, j, none⟩ (.slice A (p.nev j).length c) := ⟨_, rfl⟩
              rw [← hw3] at H3 HN3 HI3 ⊢
              clear hw3
              simp only [putAll, Act.put]
              go_simp
              go_wp2_with fail
              go_roundw
              case rel => exact ⟨j + 1, fun i => if i = j then A else jA i, fun i => if i = j then c else jc i, by omega, by go_num, fun i hi => by simp only [show i ≠ j from by omega, if_false]; exact HOLD.out i (by omega), HN3.out, HI3.out, H3.out⟩
              case measure => simp [intOf]; omega
          · obtain rfl : j = nn := by omega
            have HC := Lib.hid hC
            have HNEW := Lib.hid hnew
            have HINTS := Lib.hid hints
            clear hnew hold hlt hints
            have d0 := hC.p0.cell 0
            have d1 := hC.p0.cell 1
            have d2 := hC.p0.cell 2
            have d3 := hC.p0.cell 3
            have hr0 := hC.r0
            clear hC c3'
            simp only [plant4] at d0 d1 d2 d3
            have d0' : wr.cell? ⟨w.heap.size, 0, none⟩ = some (.slice tA p.tanks.length tc) := d0
            have d1' : wr.cell? ⟨w.heap.size, 1, none⟩ = some (.slice vA p.valves.length vc) := d1
            have d2' : wr.cell? ⟨w.heap.size, 2, none⟩ = some (.slice lA p.lines.length lc) := d2
            have d3' : wr.cell? ⟨w.heap.size, 3, none⟩ = some (.slice nA p.never.length nc) := d3
            clear d0 d1 d2 d3
            go_wp2_with (first | (refine wpStoreAt rfl rfl 33 _ _ rfl (w.heap.size + 1) 0 rfl (plant4 p tA vA lA nA tc vc lc nc) rfl 33 _ hr0 (by simp [plant4]) (by simp [plant4, Value.oneCell']) info_plant ?_; intro w' hr ho))
            refine bodyPost_ret (v := .agg (plant4 p tA vA lA nA tc vc lc nc)) ?_ rfl ⟨⟨tA, tc, vA, vc, lA, lc, nA, nc, iA, ic, jA, jc⟩, rfl, ?_, HC.out.below.trans (ho.below (by omega))⟩
            · rw [splA_all _ _ (by simp [plant4])] at hr
              exact results_cellS rfl _ _ _ _ _ _ rfl hr und_plant rfl info_plant
            · have hT : ∀ {B K n : Nat} {T : TypeId} {A : Option Addr} {f : Nat → Nat → Value}, Cl wr B T K A n f → w.heap.size ≤ B → T ≠ 33 → SlD w' (fun b => w.heap.size ≤ b ∧ b < w'.heap.size) K A n f :=
                fun hc hB hne => (hc.only ho hr0 hne).slD fun b h1 h2 => ⟨by omega, h2⟩
              have hsz := HSZ.out
              have h32 := HNL.out
              exact ⟨hT HC.out.tanks (by omega) (by decide), hT HC.out.valves (by omega) (by decide), hT HC.out.lines (by omega) (by decide), fun i hi => hT (HINTS.out i (by omega)) (by omega) (by decide), hT HC.out.never (by omega) (by decide),
                fun i hi => hT (HNEW.out i (by rw [HNN.out]; exact hi)) (by omega) (by decide), by omega⟩
end Go.Proofs.Ytogobjmmgjfjjaa
