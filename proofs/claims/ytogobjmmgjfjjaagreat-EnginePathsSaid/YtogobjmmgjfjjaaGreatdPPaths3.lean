/- What is proved: the texts F2 F3 F4 F5 F6 F7 F8 G1 G2 G3 G4 G5 G6, one behind the other; each says at its head what it proves, and under which conditions. -/
import Derived.OwnWalk
import Derived.Maps.Keyed
import Derived.DeepKeys4
import Derived.Test.YtogobjmmgjfjjaaGreatdPPaths2
/- What is proved: a contract of engine.copied. Conditions: the plant lies in memory; it is valid. -/
namespace Go.Proofs.YtogobjmmgjfjjaaGreat
open Go.RowKit

theorem Bk.ne {w : World} {g g' t t' : Nat} {c c' : Array Value} (h1 : Bk w g t c) (h2 : Bk w g' t' c') (hne : t ≠ t') : g ≠ g' := by
  intro e
  subst e
  unfold Bk at h1 h2
  rw [h1] at h2
  injection h2 with h2
  injection h2 with _ h3 _
  exact hne h3
theorem Cl.only {w w' : World} {B k n g : Nat} {T T' : TypeId} {A : Option Addr} {f : Nat → Nat → Value} {cs : Array Value} (h : Cl w B T k A n f) (ho : Only g w w') (hb : Bk w g T' cs) (hne : T ≠ T') : Cl w' B T k A n f :=
  ⟨h.1, fun hn => by obtain ⟨g', cur, e, h1, h2, h3⟩ := h.2 hn; exact ⟨g', cur, e, h1, h2.only ho (h2.ne hb hne), h3⟩⟩
theorem Cl.keep {w w' : World} {B k n : Nat} {T : TypeId} {A : Option Addr} {f : Nat → Nat → Value} (h : Cl w B T k A n f) (ho : ∀ b, B ≤ b → b < w.heap.size → w'.heap[b]? = w.heap[b]?) : Cl w' B T k A n f :=
  ⟨h.1, fun hn => by obtain ⟨g', cur, e, h1, h2, h3⟩ := h.2 hn; exact ⟨g', cur, e, h1, (ho _ h1 h2.lt).trans h2, h3⟩⟩
theorem Cl.mono {w : World} {B B' k n : Nat} {T : TypeId} {A : Option Addr} {f : Nat → Nat → Value} (h : Cl w B T k A n f) (hb : B' ≤ B) : Cl w B' T k A n f :=
  ⟨h.1, fun hn => by obtain ⟨g', cur, e, h1, h2, h3⟩ := h.2 hn; exact ⟨g', cur, e, Nat.le_trans hb h1, h2, h3⟩⟩
theorem Cl.slD {w : World} {B k n : Nat} {T : TypeId} {A : Option Addr} {f : Nat → Nat → Value} {D : Nat → Prop} (h : Cl w B T k A n f) (hD : ∀ b, B ≤ b → b < w.heap.size → D b) : SlD w D k A n f :=
  ⟨by have := h.1; omega, fun hn => by
    obtain ⟨g, cur, e, h1, hb, hc⟩ := h.2 hn
    exact ⟨g, 0, e, hD g h1 hb.lt, fun i hi j hj => by rw [Nat.zero_add, hb.cell]; exact hc i hi j hj⟩⟩

theorem tankC_one (t : TankD) (j : Nat) : (tankC t j).oneCell' = true := by match j with | 0 => rfl | 1 => rfl | 2 => rfl | n + 3 => rfl
theorem valveC_one (t : ValveD) (j : Nat) : (valveC t j).oneCell' = true := by match j with | 0 => rfl | 1 => rfl | n + 2 => rfl
theorem litC_one (t : LitD) (j : Nat) : (litC t j).oneCell' = true := by match j with | 0 => rfl | n + 1 => rfl
theorem lineC_one (A : Option Addr) (c : Nat) (t : LineD) (j : Nat) : (lineC A c t j).oneCell' = true := by match j with | 0 => rfl | 1 => rfl | 2 => rfl | 3 => rfl | n + 4 => rfl

/-- The four cells of a plant. -/
def plant4 (p : PlantD) (tA vA lA nA : Option Addr) (tc vc lc nc : Nat) : Array Value := #[.slice tA p.tanks.length tc, .slice vA p.valves.length vc, .slice lA p.lines.length lc, .slice nA p.never.length nc]
theorem arr4 {cs : Array Value} {a b c d : Value} (h : cs.size = 4) (h0 : cs[0]? = some a) (h1 : cs[1]? = some b) (h2 : cs[2]? = some c) (h3 : cs[3]? = some d) : cs = #[a, b, c, d] := by
  apply Array.ext_getElem?
  intro i
  match i with
  | 0 => exact h0
  | 1 => exact h1
  | 2 => exact h2
  | 3 => exact h3
  | n + 4 => rw [Array.getElem?_eq_none (by omega), Array.getElem?_eq_none (by simp)]

/-- What copied's first statement does, from the world W, P0 the box of the plant, R0 that of the result. -/
structure Copied1 (w w1 : World) (B P0 R0 : Nat) (p : PlantD) (f : Nat → Nat → Value) (g : Nat → Nat → Value) (tA vA lA nA : Option Addr) (tc vc lc nc : Nat) : Prop where
  p0 : Bk w1 P0 27 (plant4 p tA vA lA nA tc vc lc nc)
  r0 : Bk w1 R0 27 #[.slice none 0 0, .slice none 0 0, .slice none 0 0, .slice none 0 0]
  tanks : Cl w1 B 72 4 tA p.tanks.length fun i => tankC (p.tank i)
  valves : Cl w1 B 78 3 vA p.valves.length fun i => valveC (p.valve i)
  lines : Cl w1 B 76 5 lA p.lines.length f
  never : Cl w1 B 28 1 nA p.never.length g
  below : Below w.heap.size w w1

/-- The sizes of a valid plant. -/
theorem plantB_sizes {p : PlantD} (h : plantB p = true) : p.tanks.length ≤ 16 ∧ p.valves.length ≤ 12 ∧ p.lines.length ≤ 32 ∧ p.never.length ≤ 32 ∧ (∀ i, i < p.lines.length → (p.line i).valves.length ≤ 4) ∧ ∀ i, i < p.never.length → (p.nev i).length ≤ 4 := by
  have hl := lineOk_of h
  unfold plantB tankedB valvedB linedB apartB at h
  simp only [Bool.and_eq_true, decide_eq_true_eq] at h
  obtain ⟨⟨⟨⟨⟨⟨⟨_, h1⟩, _⟩, ⟨⟨_, h2⟩, _⟩⟩, ⟨h3, _⟩⟩, h4⟩, h5⟩, _⟩ := h
  rw [inB_iff] at h1 h2
  rw [allN_iff] at h5
  refine ⟨by omega, by omega, by omega, by omega, fun i hi => ?_, fun i hi => ?_⟩
  · have := hl i hi
    unfold lineOk at this
    simp only [Bool.and_eq_true, inB_iff] at this
    omega
  · have := h5 i hi
    unfold litsOk at this
    simp only [Bool.and_eq_true, inB_iff] at this
    omega
end Go.Proofs.YtogobjmmgjfjjaaGreat
/- What is proved: engine.copied's first statement. Conditions: the plant lies in memory; it is valid. -/
namespace Go.Proofs.YtogobjmmgjfjjaaGreat
open Go.RowKit

/-- What holds throughout: W: ahead of the statement; b: behind the first store. -/
def CopJ (w W : World) (b : Bool) (w1 : World) : Prop :=
  if b = true then Below w.heap.size w w1 ∧ Bk w1 (w.heap.size + 1) 27 #[.slice none 0 0, .slice none 0 0, .slice none 0 0, .slice none 0 0] ∧ (∃ cs, cs.size = 4 ∧ Bk w1 w.heap.size 27 cs) ∧ w.heap.size + 1 + 1 ≤ w1.heap.size
  else Below W.heap.size W w1
def CopE (w : World) (j : Nat) (w1 w2 : World) : Prop :=
  w1.heap.size ≤ w2.heap.size ∧ (∀ b, w.heap.size + 1 + 1 ≤ b → b < w1.heap.size → w2.heap[b]? = w1.heap[b]?) ∧ ∀ c, j ≠ 13 + 2 * c → w2.cell? ⟨w.heap.size, c, none⟩ = w1.cell? ⟨w.heap.size, c, none⟩
theorem CopE.below {w w1 w2 : World} {j : Nat} (h : Below w1.heap.size w1 w2) (hs : w.heap.size + 1 + 1 ≤ w1.heap.size) : CopE w j w1 w2 :=
  ⟨h.size, fun b _ hb => h.block b hb, fun c _ => h.cell (p := ⟨w.heap.size, c, none⟩) (by simp; omega)⟩
theorem CopJ.size {w W w1 : World} {b : Bool} (h : CopJ w W b w1) (hW : W.heap.size = w.heap.size + 1 + 1) : w.heap.size + 1 + 1 ≤ w1.heap.size := by
  unfold CopJ at h
  split at h
  · exact h.2.2.2
  · have := h.size; omega
theorem CopJ.store {w W w1 : World} {p : PlantD} {x : PV} {b : Bool} (h : CopJ w W b w1) (hW : W.heap.size = w.heap.size + 1 + 1) (hWB : Below w.heap.size w W) (hP : Bk W w.heap.size 27 (plantA x p))
    (hR : Bk W (w.heap.size + 1) 27 #[.slice none 0 0, .slice none 0 0, .slice none 0 0, .slice none 0 0]) (c : Nat) (v : Value) : CopJ w W true (w1.setCell ⟨w.heap.size, c, none⟩ v) := by
  have hs := h.size hW
  unfold CopJ at *
  have ho := Only.setCell w1 w.heap.size c v
  by_cases hb : b = true
  · rw [if_pos hb] at h
    rw [if_pos rfl]
    obtain ⟨h1, h2, ⟨cs, h3, h4⟩, h5⟩ := h
    exact ⟨h1.trans (ho.below (Nat.le_refl _)), h2.only ho (by omega), ⟨_, by simp [h3], h4.set c v⟩, by rw [ho.size]; exact h5⟩
  · rw [if_neg hb] at h
    rw [if_pos rfl]
    exact ⟨(hWB.trans (h.mono (by omega))).trans (ho.below (Nat.le_refl _)), (hR.below h (by omega)).only ho (by omega), ⟨_, by simp [plantA], (hP.below h (by omega)).set c v⟩, by rw [ho.size]; exact hs⟩
theorem CopJ.bk {w W w1 : World} {p : PlantD} {x : PV} {b : Bool} (h : CopJ w W b w1) (hW : W.heap.size = w.heap.size + 1 + 1) (hP : Bk W w.heap.size 27 (plantA x p)) : ∃ cs, cs.size = 4 ∧ Bk w1 w.heap.size 27 cs := by
  unfold CopJ at h
  split at h
  · exact h.2.2.1
  · exact ⟨_, rfl, hP.below h (by omega)⟩
theorem CopJ.cell {w W w1 : World} {p : PlantD} {x : PV} {b : Bool} (h : CopJ w W b w1) (hW : W.heap.size = w.heap.size + 1 + 1) (hP : Bk W w.heap.size 27 (plantA x p)) (c : Nat) (hc : c < 4) :
    (∃ u, w1.cell? ⟨w.heap.size, c, none⟩ = some u) ∧ w1.frozen? ⟨w.heap.size, c, none⟩ = false := by
  obtain ⟨cs, h1, h2⟩ := h.bk hW hP
  exact ⟨⟨cs[c], by rw [h2.cell]; simp [h1, hc]⟩, h2.free c⟩
theorem CopE.store {w w1 : World} (hb : ∃ cs, cs.size = 4 ∧ Bk w1 w.heap.size 27 cs) (c : Nat) (v : Value) : CopE w (13 + 2 * c) w1 (w1.setCell ⟨w.heap.size, c, none⟩ v) := by
  have ho := Only.setCell w1 w.heap.size c v
  refine ⟨by rw [ho.size]; exact Nat.le_refl _, fun b hb _ => ho.block b (by omega), fun c' hc => ?_⟩
  obtain ⟨cs, _, hb⟩ := hb
  rw [(hb.set c v).cell, hb.cell, Array.getElem?_setIfInBounds, if_neg (by omega)]

theorem row_set {cur : Array Value} {n K : Nat} {f : Nat → Nat → Value} (h : ∀ i, i < n → ∀ j, j < K → cur[i * K + j]? = some (f i j)) (k m : Nat) (hk : k < n) (hm : m < K) (v : Value) :
    ∀ i, i < n → ∀ j, j < K → (cur.setIfInBounds (k * K + m) v)[i * K + j]? = some (if i = k ∧ j = m then v else f i j) := by
  intro i hi j hj
  have h0 := h k hk m hm
  have hlt : k * K + m < cur.size := (Array.getElem?_eq_some_iff.1 h0).1
  rw [Array.getElem?_setIfInBounds]
  have key : (k * K + m = i * K + j) ↔ (i = k ∧ j = m) := by
    constructor
    · intro e
      have h1 : (k * K + m) / K = (i * K + j) / K := by rw [e]
      rw [Nat.mul_comm k, Nat.mul_comm i, Nat.mul_add_div (by omega), Nat.mul_add_div (by omega), Nat.div_eq_of_lt hm, Nat.div_eq_of_lt hj] at h1
      have : i = k := by omega
      subst this
      exact ⟨rfl, by omega⟩
    · rintro ⟨rfl, rfl⟩; rfl
  by_cases hc : i = k ∧ j = m
  · rw [if_pos (key.2 hc), if_pos hc, if_pos hlt]
  · rw [if_neg (fun e => hc (key.1 e)), if_neg hc]; exact h i hi j hj
theorem Copied1.keep {w w1 w2 : World} {B P0 R0 : Nat} {p : PlantD} {f g : Nat → Nat → Value} {tA vA lA nA : Option Addr} {tc vc lc nc : Nat} (h : Copied1 w w1 B P0 R0 p f g tA vA lA nA tc vc lc nc) (hb : Below w1.heap.size w1 w2) :
    Copied1 w w2 B P0 R0 p f g tA vA lA nA tc vc lc nc :=
  ⟨h.p0.below hb h.p0.lt, h.r0.below hb h.r0.lt, h.tanks.below hb, h.valves.below hb, h.lines.below hb, h.never.below hb, h.below.trans (hb.mono h.below.size)⟩
theorem Copied1.lset {w w1 : World} {B P0 R0 gl : Nat} {p : PlantD} {f f' g : Nat → Nat → Value} {tA vA nA : Option Addr} {tc vc lc nc : Nat} (h : Copied1 w w1 B P0 R0 p f g tA vA (some ⟨gl, 0, none⟩) nA tc vc lc nc) (hB : w.heap.size ≤ B)
    (k m : Nat) (hk : k < p.lines.length) (hm : m < 5) (v : Value) (hf : ∀ i j, i < p.lines.length → j < 5 → f' i j = if i = k ∧ j = m then v else f i j) :
    Copied1 w (w1.setCell ⟨gl, k * 5 + m, none⟩ v) B P0 R0 p f' g tA vA (some ⟨gl, 0, none⟩) nA tc vc lc nc ∧ Only gl w1 (w1.setCell ⟨gl, k * 5 + m, none⟩ v) ∧ ∃ cur, Bk w1 gl 76 cur := by
  obtain ⟨g', cur, e, h1, h2, h3⟩ := h.lines.2 (by omega)
  cases e
  have ho := Only.setCell w1 gl (k * 5 + m) v
  refine ⟨⟨h.p0.only ho (h.p0.ne h2 (by decide)), h.r0.only ho (h.r0.ne h2 (by decide)), h.tanks.only ho h2 (by decide), h.valves.only ho h2 (by decide), ?_, h.never.only ho h2 (by decide), h.below.trans (ho.below (by omega))⟩, ho, cur, h2⟩
  refine ⟨h.lines.1, fun _ => ⟨gl, _, rfl, h1, h2.set _ v, fun i hi j hj => ?_⟩⟩
  rw [row_set h3 k m hk hm v i hi j hj, hf i j hi hj]
theorem Copied1.nset {w w1 : World} {B P0 R0 gl : Nat} {p : PlantD} {f g g' : Nat → Nat → Value} {tA vA lA : Option Addr} {tc vc lc nc : Nat} (h : Copied1 w w1 B P0 R0 p f g tA vA lA (some ⟨gl, 0, none⟩) tc vc lc nc) (hB : w.heap.size ≤ B)
    (k : Nat) (hk : k < p.never.length) (v : Value) (hf : ∀ i j, i < p.never.length → j < 1 → g' i j = if i = k ∧ j = 0 then v else g i j) :
    Copied1 w (w1.setCell ⟨gl, k, none⟩ v) B P0 R0 p f g' tA vA lA (some ⟨gl, 0, none⟩) tc vc lc nc ∧ Only gl w1 (w1.setCell ⟨gl, k, none⟩ v) ∧ ∃ cur, Bk w1 gl 28 cur := by
  obtain ⟨g2, cur, e, h1, h2, h3⟩ := h.never.2 (by omega)
  cases e
  have ho := Only.setCell w1 gl k v
  refine ⟨⟨h.p0.only ho (h.p0.ne h2 (by decide)), h.r0.only ho (h.r0.ne h2 (by decide)), h.tanks.only ho h2 (by decide), h.valves.only ho h2 (by decide), h.lines.only ho h2 (by decide), ?_, h.below.trans (ho.below (by omega))⟩, ho, cur, h2⟩
  refine ⟨h.never.1, fun _ => ⟨gl, _, rfl, h1, h2.set _ v, fun i hi j hj => ?_⟩⟩
  have := row_set h3 k 0 hk (by omega) v i hi j hj
  rw [Nat.mul_one, Nat.add_zero] at this
  rw [this, hf i j hi hj]

set_option maxRecDepth 100000 in
set_option maxHeartbeats 4000000 in
theorem copied_any (w : World) (x : PV) (p : PlantD) (h : PlantAt w w.heap.size x p) (hv : plantB p = true) :
    Calls Tryz.prog 53 #[.agg (plantA x p)] w fun e w' => ∃ x', e = .returned (.agg (plantA x' p)) ∧ PlantIn w' (fun b => w.heap.size ≤ b ∧ b < w'.heap.size) x' p ∧ Below w.heap.size w w' := by
  have hsz := plantB_sizes hv
  have h0 := Lib.hid h
  have HV := Lib.hid hv
  clear h hv
  dsimp only [plantA]
  go_enter Tryz.func53, Tryz.ntmps53
  go_wp2_with fail
  obtain ⟨W, hW⟩ : ∃ W, W = (w.alloc (.cells #[.slice x.tA p.tanks.length x.tc, .slice x.vA p.valves.length x.vc, .slice x.lA p.lines.length x.lc, .slice x.nA p.never.length x.nc] 27)).alloc (.cells #[.slice none 0 0, .slice none 0 0, .slice none 0 0, .slice none 0 0] 27) := ⟨_, rfl⟩
  have hWs : W.heap.size = w.heap.size + 1 + 1 := by rw [hW]; simp
  have hWB : Below w.heap.size w W := by rw [hW]; exact ((Below.refl _ _).alloc (Nat.le_refl _) _).alloc (by simp) _
  have hP : Bk W w.heap.size 27 (plantA x p) := by rw [hW]; exact (Bk.new _ _ _).alloc _
  have hR : Bk W (w.heap.size + 1) 27 #[.slice none 0 0, .slice none 0 0, .slice none 0 0, .slice none 0 0] := by rw [hW]; exact Bk.newAt _ _ _ _ (by simp)
  rw [← hW]
  clear hW
  refine wp_region_stepsJ (by kernel_rfl) (by kernel_rfl) (fun dn _ w1 => CopJ w W (dn 13) w1) (CopE w)
    (fun i u d w1 => match i with
      | 0 | 12 => u = .pointer (some ⟨w.heap.size, 0, none⟩)
      | 3 | 14 => u = .pointer (some ⟨w.heap.size, 1, none⟩)
      | 6 | 16 => u = .pointer (some ⟨w.heap.size, 2, none⟩)
      | 9 | 18 => u = .pointer (some ⟨w.heap.size, 3, none⟩)
      | 1 => u = .slice x.tA p.tanks.length x.tc
      | 2 => ∃ A c, u = .slice A p.tanks.length c ∧ Cl w1 (w.heap.size + 1 + 1) 72 4 A p.tanks.length (fun i => tankC (p.tank i))
      | 13 => w1.cell? ⟨w.heap.size, 0, none⟩ = some (d 2)
      | 4 => u = .slice x.vA p.valves.length x.vc
      | 5 => ∃ A c, u = .slice A p.valves.length c ∧ Cl w1 (w.heap.size + 1 + 1) 78 3 A p.valves.length (fun i => valveC (p.valve i))
      | 15 => w1.cell? ⟨w.heap.size, 1, none⟩ = some (d 5)
      | 7 => u = .slice x.lA p.lines.length x.lc
      | 8 => ∃ A c, u = .slice A p.lines.length c ∧ Cl w1 (w.heap.size + 1 + 1) 76 5 A p.lines.length (fun i => lineC (x.iA i) (x.ic i) (p.line i))
      | 17 => w1.cell? ⟨w.heap.size, 2, none⟩ = some (d 8)
      | 10 => u = .slice x.nA p.never.length x.nc
      | 11 => ∃ A c, u = .slice A p.never.length c ∧ Cl w1 (w.heap.size + 1 + 1) 28 1 A p.never.length (fun i _ => .slice (x.jA i) (p.nev i).length (x.jc i))
      | 19 => w1.cell? ⟨w.heap.size, 3, none⟩ = some (d 11)
      | _ => True) ?_ ?_ ?_ ?_
  · intro _; unfold CopJ; rw [if_neg (by decide)]; exact (Below.refl _ _).drew
  · intro i j hij _ u d w1 w2 hr ⟨hE1, hE2, hE3⟩
    match i with
    | 0 => exact hr
    | 1 => exact hr
    | 2 => obtain ⟨A, c, e, hc⟩ := hr; exact ⟨A, c, e, hc.keep hE2⟩
    | 3 => exact hr
    | 4 => exact hr
    | 5 => obtain ⟨A, c, e, hc⟩ := hr; exact ⟨A, c, e, hc.keep hE2⟩
    | 6 => exact hr
    | 7 => exact hr
    | 8 => obtain ⟨A, c, e, hc⟩ := hr; exact ⟨A, c, e, hc.keep hE2⟩
    | 9 => exact hr
    | 10 => exact hr
    | 11 => obtain ⟨A, c, e, hc⟩ := hr; exact ⟨A, c, e, hc.keep hE2⟩
    | 12 => exact hr
    | 13 => exact (hE3 0 (by omega)).trans hr
    | 14 => exact hr
    | 15 => exact (hE3 1 (by omega)).trans hr
    | 16 => exact hr
    | 17 => exact (hE3 2 (by omega)).trans hr
    | 18 => exact hr
    | 19 => exact (hE3 3 (by omega)).trans hr
    | n + 20 => trivial
  · have HP := Lib.hid hP
    have HB := Lib.hid hWB
    have HW := Lib.hid hWs
    have HR := Lib.hid hR
    clear hP hWB hR
    refine ⟨?_, ?_, ?_, ?_, ?_, ?_, ?_, ?_, ?_, ?_, ?_, ?_, ?_, ?_, ?_, ?_, ?_, ?_, ?_, ?_, trivial⟩
    · intro a w1 vs K dn Hb Hb2 HJ HK HD HN k
      have hdn : dn 13 = false := by cases hd : dn 13 with | false => rfl | true => exact absurd (Hb 13 hd).2 (by decide)
      have HJ1 : CopJ w W (dn 13) w1 := HJ
      rw [hdn] at HJ1
      have HJ' : Below W.heap.size W w1 := HJ1
      have k1 := HK 1 (by decide); go_simp; exact k _ _ (by simp) HJ (CopE.below (Below.refl _ _) (CopJ.size HJ HW.out)) rfl
    · intro a w1 vs K dn Hb Hb2 HJ HK HD HN k
      have hdn : dn 13 = false := by cases hd : dn 13 with | false => rfl | true => exact absurd (Hb 13 hd).2 (by decide)
      have HJ1 : CopJ w W (dn 13) w1 := HJ
      rw [hdn] at HJ1
      have HJ' : Below W.heap.size W w1 := HJ1
      have e0 := (HD 0 _ 5 rfl rfl rfl).1.trans (HD 0 _ 5 rfl rfl rfl).2
      have hc : w1.cell? ⟨w.heap.size, 0, none⟩ = _ := (HP.out.below HJ' (by omega)).cell 0
      simp [plantA] at hc
      go_simp; exact k _ _ (by simp) HJ (CopE.below (Below.refl _ _) (CopJ.size HJ HW.out)) rfl
    · intro a w1 vs K dn Hb Hb2 HJ HK HD HN k
      have hdn : dn 13 = false := by cases hd : dn 13 with | false => rfl | true => exact absurd (Hb 13 hd).2 (by decide)
      have HJ1 : CopJ w W (dn 13) w1 := HJ
      rw [hdn] at HJ1
      have HJ' : Below W.heap.size W w1 := HJ1
      have e1 := (HD 1 _ 6 rfl rfl rfl).1.trans (HD 1 _ 6 rfl rfl rfl).2
      exact wpo_call 118 _ _ rfl #[.slice x.tA p.tanks.length x.tc] (by simp [Act.eval, e1]) (fun args w => by kernel_rfl)
        ((cloneTank w1 x.tA p.tanks.length x.tc (fun i => tankC (p.tank i)) ((h0.out.tanks.below (HB.out.trans (HJ'.mono (by omega)))).mono (by have := HJ'.size; omega)) (fun i j => tankC_one _ _) (by omega)).mono fun e w' ⟨A, c, he, hc, hb⟩ =>
          ⟨_, he, k _ _ (by simp) (show CopJ w W (dn 13) _ from by rw [hdn]; exact HJ'.trans (hb.mono HJ'.size)) (CopE.below hb (CopJ.size HJ HW.out)) ⟨A, c, rfl, hc.mono (CopJ.size HJ HW.out)⟩⟩)
    · intro a w1 vs K dn Hb Hb2 HJ HK HD HN k
      have hdn : dn 13 = false := by cases hd : dn 13 with | false => rfl | true => exact absurd (Hb 13 hd).2 (by decide)
      have HJ1 : CopJ w W (dn 13) w1 := HJ
      rw [hdn] at HJ1
      have HJ' : Below W.heap.size W w1 := HJ1
      have k1 := HK 1 (by decide); go_simp; exact k _ _ (by simp) HJ (CopE.below (Below.refl _ _) (CopJ.size HJ HW.out)) rfl
    · intro a w1 vs K dn Hb Hb2 HJ HK HD HN k
      have hdn : dn 13 = false := by cases hd : dn 13 with | false => rfl | true => exact absurd (Hb 13 hd).2 (by decide)
      have HJ1 : CopJ w W (dn 13) w1 := HJ
      rw [hdn] at HJ1
      have HJ' : Below W.heap.size W w1 := HJ1
      have e3 := (HD 3 _ 8 rfl rfl rfl).1.trans (HD 3 _ 8 rfl rfl rfl).2
      have hc : w1.cell? ⟨w.heap.size, 1, none⟩ = _ := (HP.out.below HJ' (by omega)).cell 1
      simp [plantA] at hc
      go_simp; exact k _ _ (by simp) HJ (CopE.below (Below.refl _ _) (CopJ.size HJ HW.out)) rfl
    · intro a w1 vs K dn Hb Hb2 HJ HK HD HN k
      have hdn : dn 13 = false := by cases hd : dn 13 with | false => rfl | true => exact absurd (Hb 13 hd).2 (by decide)
      have HJ1 : CopJ w W (dn 13) w1 := HJ
      rw [hdn] at HJ1
      have HJ' : Below W.heap.size W w1 := HJ1
      have e4 := (HD 4 _ 9 rfl rfl rfl).1.trans (HD 4 _ 9 rfl rfl rfl).2
      exact wpo_call 119 _ _ rfl #[.slice x.vA p.valves.length x.vc] (by simp [Act.eval, e4]) (fun args w => by kernel_rfl)
        ((cloneValve w1 x.vA p.valves.length x.vc (fun i => valveC (p.valve i)) ((h0.out.valves.below (HB.out.trans (HJ'.mono (by omega)))).mono (by have := HJ'.size; omega)) (fun i j => valveC_one _ _) (by omega)).mono fun e w' ⟨A, c, he, hc, hb⟩ =>
          ⟨_, he, k _ _ (by simp) (show CopJ w W (dn 13) _ from by rw [hdn]; exact HJ'.trans (hb.mono HJ'.size)) (CopE.below hb (CopJ.size HJ HW.out)) ⟨A, c, rfl, hc.mono (CopJ.size HJ HW.out)⟩⟩)
    · intro a w1 vs K dn Hb Hb2 HJ HK HD HN k
      have hdn : dn 13 = false := by cases hd : dn 13 with | false => rfl | true => exact absurd (Hb 13 hd).2 (by decide)
      have HJ1 : CopJ w W (dn 13) w1 := HJ
      rw [hdn] at HJ1
      have HJ' : Below W.heap.size W w1 := HJ1
      have k1 := HK 1 (by decide); go_simp; exact k _ _ (by simp) HJ (CopE.below (Below.refl _ _) (CopJ.size HJ HW.out)) rfl
    · intro a w1 vs K dn Hb Hb2 HJ HK HD HN k
      have hdn : dn 13 = false := by cases hd : dn 13 with | false => rfl | true => exact absurd (Hb 13 hd).2 (by decide)
      have HJ1 : CopJ w W (dn 13) w1 := HJ
      rw [hdn] at HJ1
      have HJ' : Below W.heap.size W w1 := HJ1
      have e6 := (HD 6 _ 11 rfl rfl rfl).1.trans (HD 6 _ 11 rfl rfl rfl).2
      have hc : w1.cell? ⟨w.heap.size, 2, none⟩ = _ := (HP.out.below HJ' (by omega)).cell 2
      simp [plantA] at hc
      go_simp; exact k _ _ (by simp) HJ (CopE.below (Below.refl _ _) (CopJ.size HJ HW.out)) rfl
    · intro a w1 vs K dn Hb Hb2 HJ HK HD HN k
      have hdn : dn 13 = false := by cases hd : dn 13 with | false => rfl | true => exact absurd (Hb 13 hd).2 (by decide)
      have HJ1 : CopJ w W (dn 13) w1 := HJ
      rw [hdn] at HJ1
      have HJ' : Below W.heap.size W w1 := HJ1
      have e7 := (HD 7 _ 12 rfl rfl rfl).1.trans (HD 7 _ 12 rfl rfl rfl).2
      exact wpo_call 120 _ _ rfl #[.slice x.lA p.lines.length x.lc] (by simp [Act.eval, e7]) (fun args w => by kernel_rfl)
        ((cloneLine w1 x.lA p.lines.length x.lc (fun i => lineC (x.iA i) (x.ic i) (p.line i)) ((h0.out.lines.below (HB.out.trans (HJ'.mono (by omega)))).mono (by have := HJ'.size; omega)) (fun i j => lineC_one _ _ _ _) (by omega)).mono fun e w' ⟨A, c, he, hc, hb⟩ =>
          ⟨_, he, k _ _ (by simp) (show CopJ w W (dn 13) _ from by rw [hdn]; exact HJ'.trans (hb.mono HJ'.size)) (CopE.below hb (CopJ.size HJ HW.out)) ⟨A, c, rfl, hc.mono (CopJ.size HJ HW.out)⟩⟩)
    · intro a w1 vs K dn Hb Hb2 HJ HK HD HN k
      have hdn : dn 13 = false := by cases hd : dn 13 with | false => rfl | true => exact absurd (Hb 13 hd).2 (by decide)
      have HJ1 : CopJ w W (dn 13) w1 := HJ
      rw [hdn] at HJ1
      have HJ' : Below W.heap.size W w1 := HJ1
      have k1 := HK 1 (by decide); go_simp; exact k _ _ (by simp) HJ (CopE.below (Below.refl _ _) (CopJ.size HJ HW.out)) rfl
    · intro a w1 vs K dn Hb Hb2 HJ HK HD HN k
      have hdn : dn 13 = false := by cases hd : dn 13 with | false => rfl | true => exact absurd (Hb 13 hd).2 (by decide)
      have HJ1 : CopJ w W (dn 13) w1 := HJ
      rw [hdn] at HJ1
      have HJ' : Below W.heap.size W w1 := HJ1
      have e9 := (HD 9 _ 14 rfl rfl rfl).1.trans (HD 9 _ 14 rfl rfl rfl).2
      have hc : w1.cell? ⟨w.heap.size, 3, none⟩ = _ := (HP.out.below HJ' (by omega)).cell 3
      simp [plantA] at hc
      go_simp; exact k _ _ (by simp) HJ (CopE.below (Below.refl _ _) (CopJ.size HJ HW.out)) rfl
    · intro a w1 vs K dn Hb Hb2 HJ HK HD HN k
      have hdn : dn 13 = false := by cases hd : dn 13 with | false => rfl | true => exact absurd (Hb 13 hd).2 (by decide)
      have HJ1 : CopJ w W (dn 13) w1 := HJ
      rw [hdn] at HJ1
      have HJ' : Below W.heap.size W w1 := HJ1
      have e10 := (HD 10 _ 15 rfl rfl rfl).1.trans (HD 10 _ 15 rfl rfl rfl).2
      exact wpo_call 121 _ _ rfl #[.slice x.nA p.never.length x.nc] (by simp [Act.eval, e10]) (fun args w => by kernel_rfl)
        ((cloneLits w1 x.nA p.never.length x.nc (fun i _ => .slice (x.jA i) (p.nev i).length (x.jc i)) ((h0.out.never.below (HB.out.trans (HJ'.mono (by omega)))).mono (by have := HJ'.size; omega)) (fun i j => rfl) (by omega)).mono fun e w' ⟨A, c, he, hc, hb⟩ =>
          ⟨_, he, k _ _ (by simp) (show CopJ w W (dn 13) _ from by rw [hdn]; exact HJ'.trans (hb.mono HJ'.size)) (CopE.below hb (CopJ.size HJ HW.out)) ⟨A, c, rfl, hc.mono (CopJ.size HJ HW.out)⟩⟩)
    · intro a w1 vs K dn Hb Hb2 HJ HK HD HN k
      have hdn : dn 13 = false := by cases hd : dn 13 with | false => rfl | true => exact absurd (Hb 13 hd).2 (by decide)
      have HJ1 : CopJ w W (dn 13) w1 := HJ
      rw [hdn] at HJ1
      have HJ' : Below W.heap.size W w1 := HJ1
      have k1 := HK 1 (by decide); go_simp; exact k _ _ (by simp) HJ (CopE.below (Below.refl _ _) (CopJ.size HJ HW.out)) rfl
    · intro a w1 vs K dn Hb Hb2 HJ HK HD HN k
      have hdn : dn 13 = false := by cases hd : dn 13 with | false => rfl | true => exact absurd rfl (Hb 13 hd).1
      have e12 := (HD 12 _ 17 rfl rfl rfl).1.trans (HD 12 _ 17 rfl rfl rfl).2
      obtain ⟨q, A, c, r, hc⟩ := HD 2 _ 7 rfl rfl rfl
      have q2 := q.trans r
      obtain ⟨⟨u, hcell⟩, hfree⟩ := CopJ.cell HJ HW.out HP.out 0 (by omega)
      go_simp
      refine k undef _ (by simp) (by exact CopJ.store HJ HW.out HB.out HP.out HR.out 0 _) (CopE.store (CopJ.bk HJ HW.out HP.out) 0 _) ?_
      show _ = some (vs 2)
      rw [r]
      obtain ⟨cs, h1, h2⟩ := CopJ.bk HJ HW.out HP.out
      rw [(h2.set 0 _).cell]
      simp [h1]
    · intro a w1 vs K dn Hb Hb2 HJ HK HD HN k
      have k1 := HK 1 (by decide); go_simp; exact k _ _ (by simp) HJ (CopE.below (Below.refl _ _) (CopJ.size HJ HW.out)) rfl
    · intro a w1 vs K dn Hb Hb2 HJ HK HD HN k
      have hdn : dn 13 = true := Hb2 13 (by decide)
      have e14 := (HD 14 _ 18 rfl rfl rfl).1.trans (HD 14 _ 18 rfl rfl rfl).2
      obtain ⟨q, A, c, r, hc⟩ := HD 5 _ 10 rfl rfl rfl
      have q2 := q.trans r
      obtain ⟨⟨u, hcell⟩, hfree⟩ := CopJ.cell HJ HW.out HP.out 1 (by omega)
      go_simp
      refine k undef _ (by simp) (by show CopJ w W (dn 13) _; rw [hdn]; exact CopJ.store HJ HW.out HB.out HP.out HR.out 1 _) (CopE.store (CopJ.bk HJ HW.out HP.out) 1 _) ?_
      show _ = some (vs 5)
      rw [r]
      obtain ⟨cs, h1, h2⟩ := CopJ.bk HJ HW.out HP.out
      rw [(h2.set 1 _).cell]
      simp [h1]
    · intro a w1 vs K dn Hb Hb2 HJ HK HD HN k
      have k1 := HK 1 (by decide); go_simp; exact k _ _ (by simp) HJ (CopE.below (Below.refl _ _) (CopJ.size HJ HW.out)) rfl
    · intro a w1 vs K dn Hb Hb2 HJ HK HD HN k
      have hdn : dn 13 = true := Hb2 13 (by decide)
      have e16 := (HD 16 _ 19 rfl rfl rfl).1.trans (HD 16 _ 19 rfl rfl rfl).2
      obtain ⟨q, A, c, r, hc⟩ := HD 8 _ 13 rfl rfl rfl
      have q2 := q.trans r
      obtain ⟨⟨u, hcell⟩, hfree⟩ := CopJ.cell HJ HW.out HP.out 2 (by omega)
      go_simp
      refine k undef _ (by simp) (by show CopJ w W (dn 13) _; rw [hdn]; exact CopJ.store HJ HW.out HB.out HP.out HR.out 2 _) (CopE.store (CopJ.bk HJ HW.out HP.out) 2 _) ?_
      show _ = some (vs 8)
      rw [r]
      obtain ⟨cs, h1, h2⟩ := CopJ.bk HJ HW.out HP.out
      rw [(h2.set 2 _).cell]
      simp [h1]
    · intro a w1 vs K dn Hb Hb2 HJ HK HD HN k
      have k1 := HK 1 (by decide); go_simp; exact k _ _ (by simp) HJ (CopE.below (Below.refl _ _) (CopJ.size HJ HW.out)) rfl
    · intro a w1 vs K dn Hb Hb2 HJ HK HD HN k
      have hdn : dn 13 = true := Hb2 13 (by decide)
      have e18 := (HD 18 _ 20 rfl rfl rfl).1.trans (HD 18 _ 20 rfl rfl rfl).2
      obtain ⟨q, A, c, r, hc⟩ := HD 11 _ 16 rfl rfl rfl
      have q2 := q.trans r
      obtain ⟨⟨u, hcell⟩, hfree⟩ := CopJ.cell HJ HW.out HP.out 3 (by omega)
      go_simp
      refine k undef _ (by simp) (by show CopJ w W (dn 13) _; rw [hdn]; exact CopJ.store HJ HW.out HB.out HP.out HR.out 3 _) (CopE.store (CopJ.bk HJ HW.out HP.out) 3 _) ?_
      show _ = some (vs 11)
      rw [r]
      obtain ⟨cs, h1, h2⟩ := CopJ.bk HJ HW.out HP.out
      rw [(h2.set 3 _).cell]
      simp [h1]
  · intro vs dn w1 hdn HJ hr
    have HJ1 : CopJ w W (dn 13) w1 := HJ
    rw [hdn 13 (by decide)] at HJ1
    obtain ⟨j1, j2, ⟨cs, j3, j4⟩, j5⟩ : Below w.heap.size w w1 ∧ Bk w1 (w.heap.size + 1) 27 #[.slice none 0 0, .slice none 0 0, .slice none 0 0, .slice none 0 0] ∧ (∃ cs : Array Value, cs.size = 4 ∧ Bk w1 w.heap.size 27 cs) ∧ w.heap.size + 1 + 1 ≤ w1.heap.size := HJ1
    obtain ⟨tA, tc, t1, t2⟩ := hr 2 _ rfl
    obtain ⟨vA, vc, v1, v2⟩ := hr 5 _ rfl
    obtain ⟨lA, lc, l1, l2⟩ := hr 8 _ rfl
    obtain ⟨nA, nc, n1, n2⟩ := hr 11 _ rfl
    have q0 : w1.cell? ⟨w.heap.size, 0, none⟩ = some (vs 2) := hr 13 _ rfl
    have q1 : w1.cell? ⟨w.heap.size, 1, none⟩ = some (vs 5) := hr 15 _ rfl
    have q2 : w1.cell? ⟨w.heap.size, 2, none⟩ = some (vs 8) := hr 17 _ rfl
    have q3 : w1.cell? ⟨w.heap.size, 3, none⟩ = some (vs 11) := hr 19 _ rfl
    rw [j4.cell, t1] at q0
    rw [j4.cell, v1] at q1
    rw [j4.cell, l1] at q2
    rw [j4.cell, n1] at q3
    have ecs := arr4 j3 q0 q1 q2 q3
    subst ecs
    have C1 : Copied1 w w1 (w.heap.size + 1 + 1) w.heap.size (w.heap.size + 1) p (fun i => lineC (x.iA i) (x.ic i) (p.line i)) (fun i _ => .slice (x.jA i) (p.nev i).length (x.jc i)) tA vA lA nA tc vc lc nc := ⟨j4, j2, t2, v2, l2, n2, j1⟩
    clear q0 q1 q2 q3 j1 j2 j3 j4 t1 t2 v1 v2 l1 l2 n1 n2 HJ hr hdn hP hR hWB hWs
    obtain ⟨nl, hnl⟩ : ∃ nl, nl = p.lines.length := ⟨_, rfl⟩
    have hnl32 : nl ≤ 32 := by omega
    have c2 := C1.p0.cell 2
    simp only [plant4, ← hnl] at c2
    have c2' : w1.cell? ⟨w.heap.size, 2, none⟩ = some (.slice lA nl lc) := c2
    have HC1 := Lib.hid C1
    have HNL := Lib.hid hnl
    have HSZ := Lib.hid hsz
    clear C1 hnl c2 hsz
    simp only [putAll, Act.put]
    go_simp
    go_wp2_with fail
    go_loopw [24] (fun i wr => ∃ (k : Nat) (iA : Nat → Option Addr) (ic : Nat → Nat), k ≤ nl ∧ i = .int .i64 k ∧ (∀ i, k ≤ i → iA i = x.iA i ∧ ic i = x.ic i) ∧
      (∀ i, i < k → Cl wr (w.heap.size + 1 + 1) 3 1 (iA i) (p.line i).valves.length fun j _ => .int .i64 ((p.line i).valves.getD j 0)) ∧
      Copied1 w wr (w.heap.size + 1 + 1) w.heap.size (w.heap.size + 1) p (fun i => lineC (iA i) (ic i) (p.line i)) (fun i _ => .slice (x.jA i) (p.nev i).length (x.jc i)) tA vA lA nA tc vc lc nc) (fun i _ => nl - (intOf i).toNat)
    case atStart => exact ⟨0, x.iA, x.ic, Nat.zero_le _, rfl, fun _ _ => ⟨rfl, rfl⟩, fun i hi => absurd hi (by omega), HC1.out⟩
    case round =>
      clear HC1 c2'
      obtain ⟨k, iA, ic, hk, rfl, hold, hnew, hC⟩ := hrel
      have c2 := hC.p0.cell 2
      simp only [plant4, ← HNL.out] at c2
      have c2' : wr.cell? ⟨w.heap.size, 2, none⟩ = some (.slice lA nl lc) := c2
      clear c2
      by_cases hlt : k < nl
      · have hkl : k < p.lines.length := by rw [← HNL.out]; exact hlt
        obtain ⟨gl, cur, e, hgB, hgl, hgc⟩ := hC.lines.2 (by omega)
        subst e
        have hki : (k : Int) < (nl : Int) := by omega
        have h0i : (0 : Int) ≤ (k : Int) := by omega
        have hc4 : wr.cell? ⟨gl, k * 5 + 4, none⟩ = some (.slice (x.iA k) (p.line k).valves.length (x.ic k)) := by
          rw [hgl.cell, hgc k hkl 4 (by omega)]
          simp only [lineC]
          rw [(hold k (Nat.le_refl _)).1, (hold k (Nat.le_refl _)).2]
        have hpl : w.heap.size < wr.heap.size := hC.p0.lt
        have hfree := hgl.free (k * 5 + 4)
        have hgls := hgl.lt
        have hIN : Hid (∀ w1, Below wr.heap.size wr w1 → Sl w1 w1.heap.size 1 (x.iA k) (p.line k).valves.length fun j _ => .int .i64 ((p.line k).valves.getD j 0)) :=
          Lib.hid fun w1 hb => Sl.mono (Sl.below (h0.out.lv k hkl) (hC.below.trans (hb.mono (by omega)))) (by have := hb.size; omega)
        have hv4 := HSZ.out.2.2.2.2.1 k hkl
        have HC := Lib.hid hC
        have HOLD := Lib.hid hold
        have HNEW := Lib.hid hnew
        clear hC hold hnew hgc
        go_wp2_with fail
        refine wp_region_stepsM (by kernel_rfl) (by kernel_rfl) 12 (by decide)
          (fun b w1 => if b = true then ∃ A c w2, Below wr.heap.size wr w2 ∧ Cl w2 wr.heap.size 3 1 A (p.line k).valves.length (fun j _ => .int .i64 ((p.line k).valves.getD j 0)) ∧ w1 = w2.setCell ⟨gl, k * 5 + 4, none⟩ (.slice A (p.line k).valves.length c) else Below wr.heap.size wr w1)
          (fun _ w1 w2 => ∀ b, wr.heap.size ≤ b → b < w1.heap.size → w2.heap[b]? = w1.heap[b]?)
          (fun i u d w1 => match i with
            | 0 | 3 => u = .pointer (some ⟨w.heap.size, 2, none⟩)
            | 1 | 4 => u = .slice (some ⟨gl, 0, none⟩) nl lc
            | 2 | 5 => u = .int .i64 k
            | 6 | 10 => u = .pointer (some ⟨gl, k * 5, none⟩)
            | 7 | 11 => u = .pointer (some ⟨gl, k * 5 + 4, none⟩)
            | 8 => u = .slice (x.iA k) (p.line k).valves.length (x.ic k)
            | 9 => ∃ A c, u = .slice A (p.line k).valves.length c ∧ Cl w1 wr.heap.size 3 1 A (p.line k).valves.length (fun j _ => .int .i64 ((p.line k).valves.getD j 0))
            | _ => True) (Below.refl _ _).drew ?_ ?_ ?_
        · intro i j hij _ u d w1 w2 hr hE
          match i with
          | 0 => exact hr
          | 1 => exact hr
          | 2 => exact hr
          | 3 => exact hr
          | 4 => exact hr
          | 5 => exact hr
          | 6 => exact hr
          | 7 => exact hr
          | 8 => exact hr
          | 9 => obtain ⟨A, c, e, hc⟩ := hr; exact ⟨A, c, e, hc.keep hE⟩
          | 10 => exact hr
          | 11 => exact hr
          | n + 12 => trivial
        · refine ⟨?_, ?_, ?_, ?_, ?_, ?_, ?_, ?_, ?_, ?_, ?_, ?_, ?_, trivial⟩
          · intro a w1 vs K b Hb HJ HK HD HN kc
            obtain rfl : b = false := by cases b with | false => rfl | true => exact absurd (Hb rfl).2 (by decide)
            have HJ' : Below wr.heap.size wr w1 := HJ
            have k1 := HK 1 (by decide); go_simp; exact kc _ _ (by simp) HJ (fun _ _ _ => rfl) rfl
          · intro a w1 vs K b Hb HJ HK HD HN kc
            obtain rfl : b = false := by cases b with | false => rfl | true => exact absurd (Hb rfl).2 (by decide)
            have HJ' : Below wr.heap.size wr w1 := HJ
            have e0 := (HD 0 _ 27 rfl rfl rfl).1.trans (HD 0 _ 27 rfl rfl rfl).2; have hc := (HJ'.cell (p := ⟨w.heap.size, 2, none⟩) hpl).trans c2'; go_simp; exact kc _ _ (by simp) HJ (fun _ _ _ => rfl) rfl
          · intro a w1 vs K b Hb HJ HK HD HN kc
            obtain rfl : b = false := by cases b with | false => rfl | true => exact absurd (Hb rfl).2 (by decide)
            have HJ' : Below wr.heap.size wr w1 := HJ
            have k3 := HK 3 (by decide); go_simp; exact kc _ _ (by simp) HJ (fun _ _ _ => rfl) rfl
          · intro a w1 vs K b Hb HJ HK HD HN kc
            obtain rfl : b = false := by cases b with | false => rfl | true => exact absurd (Hb rfl).2 (by decide)
            have HJ' : Below wr.heap.size wr w1 := HJ
            have k1 := HK 1 (by decide); go_simp; exact kc _ _ (by simp) HJ (fun _ _ _ => rfl) rfl
          · intro a w1 vs K b Hb HJ HK HD HN kc
            obtain rfl : b = false := by cases b with | false => rfl | true => exact absurd (Hb rfl).2 (by decide)
            have HJ' : Below wr.heap.size wr w1 := HJ
            have e3 := (HD 3 _ 30 rfl rfl rfl).1.trans (HD 3 _ 30 rfl rfl rfl).2; have hc := (HJ'.cell (p := ⟨w.heap.size, 2, none⟩) hpl).trans c2'; go_simp; exact kc _ _ (by simp) HJ (fun _ _ _ => rfl) rfl
          · intro a w1 vs K b Hb HJ HK HD HN kc
            obtain rfl : b = false := by cases b with | false => rfl | true => exact absurd (Hb rfl).2 (by decide)
            have HJ' : Below wr.heap.size wr w1 := HJ
            have k3 := HK 3 (by decide); go_simp; exact kc _ _ (by simp) HJ (fun _ _ _ => rfl) rfl
          · intro a w1 vs K b Hb HJ HK HD HN kc
            obtain rfl : b = false := by cases b with | false => rfl | true => exact absurd (Hb rfl).2 (by decide)
            have HJ' : Below wr.heap.size wr w1 := HJ
            have e4 := (HD 4 _ 31 rfl rfl rfl).1.trans (HD 4 _ 31 rfl rfl rfl).2; have e5 := (HD 5 _ 32 rfl rfl rfl).1.trans (HD 5 _ 32 rfl rfl rfl).2; go_simp; exact kc _ _ (by simp) HJ (fun _ _ _ => rfl) rfl
          · intro a w1 vs K b Hb HJ HK HD HN kc
            obtain rfl : b = false := by cases b with | false => rfl | true => exact absurd (Hb rfl).2 (by decide)
            have HJ' : Below wr.heap.size wr w1 := HJ
            have e6 := (HD 6 _ 33 rfl rfl rfl).1.trans (HD 6 _ 33 rfl rfl rfl).2; go_simp; exact kc _ _ (by simp) HJ (fun _ _ _ => rfl) rfl
          · intro a w1 vs K b Hb HJ HK HD HN kc
            obtain rfl : b = false := by cases b with | false => rfl | true => exact absurd (Hb rfl).2 (by decide)
            have HJ' : Below wr.heap.size wr w1 := HJ
            have e7 := (HD 7 _ 34 rfl rfl rfl).1.trans (HD 7 _ 34 rfl rfl rfl).2; have hc := (HJ'.cell (p := ⟨gl, k * 5 + 4, none⟩) hgls).trans hc4; go_simp; exact kc _ _ (by simp) HJ (fun _ _ _ => rfl) rfl
          · intro a w1 vs K b Hb HJ HK HD HN kc
            obtain rfl : b = false := by cases b with | false => rfl | true => exact absurd (Hb rfl).2 (by decide)
            have HJ' : Below wr.heap.size wr w1 := HJ
            have e8 := (HD 8 _ 35 rfl rfl rfl).1.trans (HD 8 _ 35 rfl rfl rfl).2
            exact wpo_call 91 _ _ rfl #[.slice (x.iA k) (p.line k).valves.length (x.ic k)] (by simp [Act.eval, e8]) (fun args w => by kernel_rfl)
              ((cloneInt w1 _ _ _ _ (hIN.out w1 HJ') (fun _ _ => rfl) (by omega)).mono fun e w' ⟨A, c, he, hc, hb⟩ =>
                ⟨_, he, kc _ _ (by simp) (show Below wr.heap.size wr w' from HJ'.trans (hb.mono HJ'.size)) (fun b _ h => hb.block b h) ⟨A, c, rfl, hc.mono HJ'.size⟩⟩)
          · intro a w1 vs K b Hb HJ HK HD HN kc
            obtain rfl : b = false := by cases b with | false => rfl | true => exact absurd (Hb rfl).2 (by decide)
            have HJ' : Below wr.heap.size wr w1 := HJ
            have e1 := (HD 1 _ 28 rfl rfl rfl).1.trans (HD 1 _ 28 rfl rfl rfl).2; have e2 := (HD 2 _ 29 rfl rfl rfl).1.trans (HD 2 _ 29 rfl rfl rfl).2; go_simp; exact kc _ _ (by simp) HJ (fun _ _ _ => rfl) rfl
          · intro a w1 vs K b Hb HJ HK HD HN kc
            obtain rfl : b = false := by cases b with | false => rfl | true => exact absurd (Hb rfl).2 (by decide)
            have HJ' : Below wr.heap.size wr w1 := HJ
            have e10 := (HD 10 _ 37 rfl rfl rfl).1.trans (HD 10 _ 37 rfl rfl rfl).2; go_simp; exact kc _ _ (by simp) HJ (fun _ _ _ => rfl) rfl
          · intro a w1 vs K b Hb HJ HK HD HN kc
            obtain rfl : b = false := by cases b with | false => rfl | true => exact absurd rfl (Hb rfl).1
            have HJ' : Below wr.heap.size wr w1 := HJ
            have e11 := (HD 11 _ 38 rfl rfl rfl).1.trans (HD 11 _ 38 rfl rfl rfl).2
            obtain ⟨q, A, c, r, hc⟩ := HD 9 _ 36 rfl rfl rfl
            have q2 := q.trans r
            have hc4' := (HJ'.cell (p := ⟨gl, k * 5 + 4, none⟩) hgls).trans hc4
            have hf4' := (HJ'.frozen (p := ⟨gl, k * 5 + 4, none⟩) hgls).trans hfree
            go_simp
            refine kc undef _ (by simp) ⟨A, c, w1, HJ', hc, rfl⟩ (fun b hb _ => (Only.setCell w1 gl _ _).block b (by omega)) trivial
        · intro vs2 w1 HJ hr
          obtain ⟨A, c, w2, hb, hcl, rfl⟩ : ∃ A c w2, Below wr.heap.size wr w2 ∧ Cl w2 wr.heap.size 3 1 A (p.line k).valves.length (fun j _ => .int .i64 ((p.line k).valves.getD j 0)) ∧ w1 = w2.setCell ⟨gl, k * 5 + 4, none⟩ (.slice A (p.line k).valves.length c) := HJ
          obtain ⟨hC3, ho, cur2, hgl2⟩ := (HC.out.keep hb).lset (by omega) k 4 hkl (by omega) (.slice A (p.line k).valves.length c) (f' := fun i => lineC (if i = k then A else iA i) (if i = k then c else ic i) (p.line i)) (by
            intro i j hi hj
            by_cases hik : i = k
            · subst hik
              simp only [if_true, true_and]
              match j, hj with
              | 0, _ => rfl
              | 1, _ => rfl
              | 2, _ => rfl
              | 3, _ => rfl
              | 4, _ => rfl
            · simp [hik])
          have hN : ∀ i, i < k + 1 → Cl (w2.setCell ⟨gl, k * 5 + 4, none⟩ (.slice A (p.line k).valves.length c)) (w.heap.size + 1 + 1) 3 1 (if i = k then A else iA i) (p.line i).valves.length fun j _ => .int .i64 ((p.line i).valves.getD j 0) := by
            intro i hi
            by_cases hik : i = k
            · subst hik; rw [if_pos rfl]; exact (hcl.mono (by have := HC.out.r0.lt; omega)).only ho hgl2 (by decide)
            · rw [if_neg hik]; exact ((HNEW.out i (by omega)).below hb).only ho hgl2 (by decide)
          have H3 := Lib.hid hC3
          have HN3 := Lib.hid hN
          clear hC3 hN ho hgl2 hcl hb hr
          obtain ⟨w3, hw3⟩ : ∃ w3, w3 = w2.setCell ⟨gl, k * 5 + 4, none⟩ (.slice A (p.line k).valves.length c) := ⟨_, rfl⟩
          rw [← hw3] at H3 HN3 ⊢
          clear hw3
          simp only [putAll, Act.put]
          go_simp
          go_wp2_with fail
          go_roundw
          case rel => exact ⟨k + 1, fun i => if i = k then A else iA i, fun i => if i = k then c else ic i, by omega, by go_num, fun i hi => by simp only [show i ≠ k from by omega, if_false]; exact HOLD.out i (by omega), HN3.out, H3.out⟩
          case measure => simp [intOf]; omega
      · obtain rfl : k = nl := by omega
        have HC := Lib.hid hC
        have HNEW := Lib.hid hnew
        clear hC hnew hold hlt
        obtain ⟨nn, hnn⟩ : ∃ nn, nn = p.never.length := ⟨_, rfl⟩
        have hnn32 : nn ≤ 32 := by have := HSZ.out; omega
        have c3 := HC.out.p0.cell 3
        simp only [plant4, ← hnn] at c3
        have c3' : wr.cell? ⟨w.heap.size, 3, none⟩ = some (.slice nA nn nc) := c3
        have HNN := Lib.hid hnn
        clear hnn c3 c2'
        go_wp2_with fail
        go_loopw [43] (fun i wr => ∃ (j : Nat) (jA : Nat → Option Addr) (jc : Nat → Nat), j ≤ nn ∧ i = .int .i64 j ∧ (∀ i, j ≤ i → jA i = x.jA i ∧ jc i = x.jc i) ∧
          (∀ i, i < j → Cl wr (w.heap.size + 1 + 1) 79 2 (jA i) (p.nev i).length fun m => litC ((p.nev i).getD m lit0)) ∧
          (∀ i, i < k → Cl wr (w.heap.size + 1 + 1) 3 1 (iA i) (p.line i).valves.length fun j _ => .int .i64 ((p.line i).valves.getD j 0)) ∧
          Copied1 w wr (w.heap.size + 1 + 1) w.heap.size (w.heap.size + 1) p (fun i => lineC (iA i) (ic i) (p.line i)) (fun i _ => .slice (jA i) (p.nev i).length (jc i)) tA vA lA nA tc vc lc nc) (fun i _ => nn - (intOf i).toNat)
        case atStart => exact ⟨0, x.jA, x.jc, Nat.zero_le _, rfl, fun _ _ => ⟨rfl, rfl⟩, fun i hi => absurd hi (by omega), HNEW.out, HC.out⟩
        case round =>
          clear HC HNEW c3'
          obtain ⟨j, jA, jc, hj, rfl, hold, hnew, hints, hC⟩ := hrel
          have c3 := hC.p0.cell 3
          simp only [plant4, ← HNN.out] at c3
          have c3' : wr.cell? ⟨w.heap.size, 3, none⟩ = some (.slice nA nn nc) := c3
          clear c3
          by_cases hlt : j < nn
          · have hjl : j < p.never.length := by rw [← HNN.out]; exact hlt
            obtain ⟨gn, cur, e, hgB, hgn, hgc⟩ := hC.never.2 (by omega)
            subst e
            have hji : (j : Int) < (nn : Int) := by omega
            have h0i : (0 : Int) ≤ (j : Int) := by omega
            have hc4 : wr.cell? ⟨gn, j, none⟩ = some (.slice (x.jA j) (p.nev j).length (x.jc j)) := by
              have := hgc j hjl 0 (by omega)
              rw [Nat.mul_one, Nat.add_zero] at this
              rw [hgn.cell, this]
              simp only
              rw [(hold j (Nat.le_refl _)).1, (hold j (Nat.le_refl _)).2]
            have hpl : w.heap.size < wr.heap.size := hC.p0.lt
            have hfree := hgn.free j
            have hgns := hgn.lt
            have hIN : Hid (∀ w1, Below wr.heap.size wr w1 → Sl w1 w1.heap.size 2 (x.jA j) (p.nev j).length fun m => litC ((p.nev j).getD m lit0)) :=
              Lib.hid fun w1 hb => Sl.mono (Sl.below (h0.out.nv j hjl) (hC.below.trans (hb.mono (by omega)))) (by have := hb.size; omega)
            have hv4 := HSZ.out.2.2.2.2.2 j hjl
            have HC := Lib.hid hC
            have HOLD := Lib.hid hold
            have HNEW := Lib.hid hnew
            have HINTS := Lib.hid hints
            clear hC hold hnew hgc hints
            go_wp2_with fail
            refine wp_region_stepsM (by kernel_rfl) (by kernel_rfl) 10 (by decide)
              (fun b w1 => if b = true then ∃ A c w2, Below wr.heap.size wr w2 ∧ Cl w2 wr.heap.size 79 2 A (p.nev j).length (fun m => litC ((p.nev j).getD m lit0)) ∧ w1 = w2.setCell ⟨gn, j, none⟩ (.slice A (p.nev j).length c) else Below wr.heap.size wr w1)
              (fun _ w1 w2 => ∀ b, wr.heap.size ≤ b → b < w1.heap.size → w2.heap[b]? = w1.heap[b]?)
              (fun i u d w1 => match i with
                | 0 | 3 => u = .pointer (some ⟨w.heap.size, 3, none⟩)
                | 1 | 4 => u = .slice (some ⟨gn, 0, none⟩) nn nc
                | 2 | 5 => u = .int .i64 j
                | 6 | 9 => u = .pointer (some ⟨gn, j, none⟩)
                | 7 => u = .slice (x.jA j) (p.nev j).length (x.jc j)
                | 8 => ∃ A c, u = .slice A (p.nev j).length c ∧ Cl w1 wr.heap.size 79 2 A (p.nev j).length (fun m => litC ((p.nev j).getD m lit0))
                | _ => True) (Below.refl _ _).drew ?_ ?_ ?_
            · intro i j' hij _ u d w1 w2 hr hE
              match i with
              | 0 => exact hr
              | 1 => exact hr
              | 2 => exact hr
              | 3 => exact hr
              | 4 => exact hr
              | 5 => exact hr
              | 6 => exact hr
              | 7 => exact hr
              | 8 => obtain ⟨A, c, e, hc⟩ := hr; exact ⟨A, c, e, hc.keep hE⟩
              | 9 => exact hr
              | n + 10 => trivial
            · refine ⟨?_, ?_, ?_, ?_, ?_, ?_, ?_, ?_, ?_, ?_, ?_, trivial⟩
              · intro a w1 vs K b Hb HJ HK HD HN kc
                obtain rfl : b = false := by cases b with | false => rfl | true => exact absurd (Hb rfl).2 (by decide)
                have HJ' : Below wr.heap.size wr w1 := HJ
                have k1 := HK 1 (by decide); go_simp; exact kc _ _ (by simp) HJ (fun _ _ _ => rfl) rfl
              · intro a w1 vs K b Hb HJ HK HD HN kc
                obtain rfl : b = false := by cases b with | false => rfl | true => exact absurd (Hb rfl).2 (by decide)
                have HJ' : Below wr.heap.size wr w1 := HJ
                have e0 := (HD 0 _ 46 rfl rfl rfl).1.trans (HD 0 _ 46 rfl rfl rfl).2; have hc := (HJ'.cell (p := ⟨w.heap.size, 3, none⟩) hpl).trans c3'; go_simp; exact kc _ _ (by simp) HJ (fun _ _ _ => rfl) rfl
              · intro a w1 vs K b Hb HJ HK HD HN kc
                obtain rfl : b = false := by cases b with | false => rfl | true => exact absurd (Hb rfl).2 (by decide)
                have HJ' : Below wr.heap.size wr w1 := HJ
                have k3 := HK 4 (by decide); go_simp; exact kc _ _ (by simp) HJ (fun _ _ _ => rfl) rfl
              · intro a w1 vs K b Hb HJ HK HD HN kc
                obtain rfl : b = false := by cases b with | false => rfl | true => exact absurd (Hb rfl).2 (by decide)
                have HJ' : Below wr.heap.size wr w1 := HJ
                have k1 := HK 1 (by decide); go_simp; exact kc _ _ (by simp) HJ (fun _ _ _ => rfl) rfl
              · intro a w1 vs K b Hb HJ HK HD HN kc
                obtain rfl : b = false := by cases b with | false => rfl | true => exact absurd (Hb rfl).2 (by decide)
                have HJ' : Below wr.heap.size wr w1 := HJ
                have e3 := (HD 3 _ 49 rfl rfl rfl).1.trans (HD 3 _ 49 rfl rfl rfl).2; have hc := (HJ'.cell (p := ⟨w.heap.size, 3, none⟩) hpl).trans c3'; go_simp; exact kc _ _ (by simp) HJ (fun _ _ _ => rfl) rfl
              · intro a w1 vs K b Hb HJ HK HD HN kc
                obtain rfl : b = false := by cases b with | false => rfl | true => exact absurd (Hb rfl).2 (by decide)
                have HJ' : Below wr.heap.size wr w1 := HJ
                have k3 := HK 4 (by decide); go_simp; exact kc _ _ (by simp) HJ (fun _ _ _ => rfl) rfl
              · intro a w1 vs K b Hb HJ HK HD HN kc
                obtain rfl : b = false := by cases b with | false => rfl | true => exact absurd (Hb rfl).2 (by decide)
                have HJ' : Below wr.heap.size wr w1 := HJ
                have e4 := (HD 4 _ 50 rfl rfl rfl).1.trans (HD 4 _ 50 rfl rfl rfl).2; have e5 := (HD 5 _ 51 rfl rfl rfl).1.trans (HD 5 _ 51 rfl rfl rfl).2; go_simp; exact kc _ _ (by simp) HJ (fun _ _ _ => rfl) rfl
              · intro a w1 vs K b Hb HJ HK HD HN kc
                obtain rfl : b = false := by cases b with | false => rfl | true => exact absurd (Hb rfl).2 (by decide)
                have HJ' : Below wr.heap.size wr w1 := HJ
                have e6 := (HD 6 _ 52 rfl rfl rfl).1.trans (HD 6 _ 52 rfl rfl rfl).2; have hc := (HJ'.cell (p := ⟨gn, j, none⟩) hgns).trans hc4; go_simp; exact kc _ _ (by simp) HJ (fun _ _ _ => rfl) rfl
              · intro a w1 vs K b Hb HJ HK HD HN kc
                obtain rfl : b = false := by cases b with | false => rfl | true => exact absurd (Hb rfl).2 (by decide)
                have HJ' : Below wr.heap.size wr w1 := HJ
                have e7 := (HD 7 _ 53 rfl rfl rfl).1.trans (HD 7 _ 53 rfl rfl rfl).2
                exact wpo_call 122 _ _ rfl #[.slice (x.jA j) (p.nev j).length (x.jc j)] (by simp [Act.eval, e7]) (fun args w => by kernel_rfl)
                  ((cloneLit w1 _ _ _ _ (hIN.out w1 HJ') (fun _ _ => litC_one _ _) (by omega)).mono fun e w' ⟨A, c, he, hc, hb⟩ =>
                    ⟨_, he, kc _ _ (by simp) (show Below wr.heap.size wr w' from HJ'.trans (hb.mono HJ'.size)) (fun b _ h => hb.block b h) ⟨A, c, rfl, hc.mono HJ'.size⟩⟩)
              · intro a w1 vs K b Hb HJ HK HD HN kc
                obtain rfl : b = false := by cases b with | false => rfl | true => exact absurd (Hb rfl).2 (by decide)
                have HJ' : Below wr.heap.size wr w1 := HJ
                have e1 := (HD 1 _ 47 rfl rfl rfl).1.trans (HD 1 _ 47 rfl rfl rfl).2; have e2 := (HD 2 _ 48 rfl rfl rfl).1.trans (HD 2 _ 48 rfl rfl rfl).2; go_simp; exact kc _ _ (by simp) HJ (fun _ _ _ => rfl) rfl
              · intro a w1 vs K b Hb HJ HK HD HN kc
                obtain rfl : b = false := by cases b with | false => rfl | true => exact absurd rfl (Hb rfl).1
                have HJ' : Below wr.heap.size wr w1 := HJ
                have e9 := (HD 9 _ 55 rfl rfl rfl).1.trans (HD 9 _ 55 rfl rfl rfl).2
                obtain ⟨q, A, c, r, hc⟩ := HD 8 _ 54 rfl rfl rfl
                have q2 := q.trans r
                have hc4' := (HJ'.cell (p := ⟨gn, j, none⟩) hgns).trans hc4
                have hf4' := (HJ'.frozen (p := ⟨gn, j, none⟩) hgns).trans hfree
                go_simp
                refine kc undef _ (by simp) ⟨A, c, w1, HJ', hc, rfl⟩ (fun b hb _ => (Only.setCell w1 gn _ _).block b (by omega)) trivial
            · intro vs2 w1 HJ hr
              obtain ⟨A, c, w2, hb, hcl, rfl⟩ : ∃ A c w2, Below wr.heap.size wr w2 ∧ Cl w2 wr.heap.size 79 2 A (p.nev j).length (fun m => litC ((p.nev j).getD m lit0)) ∧ w1 = w2.setCell ⟨gn, j, none⟩ (.slice A (p.nev j).length c) := HJ
              obtain ⟨hC3, ho, cur2, hgn2⟩ := (HC.out.keep hb).nset (by omega) j hjl (.slice A (p.nev j).length c) (g' := fun i _ => .slice (if i = j then A else jA i) (p.nev i).length (if i = j then c else jc i)) (by
                intro i m hi hm
                by_cases hij : i = j
                · subst hij
                  obtain rfl : m = 0 := by omega
                  simp
                · simp [hij])
              have hN : ∀ i, i < j + 1 → Cl (w2.setCell ⟨gn, j, none⟩ (.slice A (p.nev j).length c)) (w.heap.size + 1 + 1) 79 2 (if i = j then A else jA i) (p.nev i).length fun m => litC ((p.nev i).getD m lit0) := by
                intro i hi
                by_cases hij : i = j
                · subst hij; rw [if_pos rfl]; exact (hcl.mono (by have := HC.out.r0.lt; omega)).only ho hgn2 (by decide)
                · rw [if_neg hij]; exact ((HNEW.out i (by omega)).below hb).only ho hgn2 (by decide)
              have hI : ∀ i, i < k → Cl (w2.setCell ⟨gn, j, none⟩ (.slice A (p.nev j).length c)) (w.heap.size + 1 + 1) 3 1 (iA i) (p.line i).valves.length fun j _ => .int .i64 ((p.line i).valves.getD j 0) :=
                fun i hi => ((HINTS.out i hi).below hb).only ho hgn2 (by decide)
              have H3 := Lib.hid hC3
              have HN3 := Lib.hid hN
              have HI3 := Lib.hid hI
              clear hC3 hN hI ho hgn2 hcl hb hr
              obtain ⟨w3, hw3⟩ : ∃ w3, w3 = w2.setCell ⟨gn, j, none⟩ (.slice A (p.nev j).length c) := ⟨_, rfl⟩
              rw [← hw3] at H3 HN3 HI3 ⊢
              clear hw3
              simp only [putAll, Act.put]
              go_simp
              go_wp2_with fail
              go_roundw
              case rel => exact ⟨j + 1, fun i => if i = j then A else jA i, fun i => if i = j then c else jc i, by omega, by go_num, fun i hi => by simp only [show i ≠ j from by omega, if_false]; exact HOLD.out i (by omega), HN3.out, HI3.out, H3.out⟩
              case measure => simp [intOf]; omega
          · obtain rfl : j = nn := by omega
            have HC := Lib.hid hC
            have HNEW := Lib.hid hnew
            have HINTS := Lib.hid hints
            clear hnew hold hlt hints
            have d0 := hC.p0.cell 0
            have d1 := hC.p0.cell 1
            have d2 := hC.p0.cell 2
            have d3 := hC.p0.cell 3
            have hr0 := hC.r0
            clear hC c3'
            simp only [plant4] at d0 d1 d2 d3
            have d0' : wr.cell? ⟨w.heap.size, 0, none⟩ = some (.slice tA p.tanks.length tc) := d0
            have d1' : wr.cell? ⟨w.heap.size, 1, none⟩ = some (.slice vA p.valves.length vc) := d1
            have d2' : wr.cell? ⟨w.heap.size, 2, none⟩ = some (.slice lA p.lines.length lc) := d2
            have d3' : wr.cell? ⟨w.heap.size, 3, none⟩ = some (.slice nA p.never.length nc) := d3
            clear d0 d1 d2 d3
            go_wp2_with (first | (refine wpStoreAt rfl rfl 27 _ _ rfl (w.heap.size + 1) 0 rfl (plant4 p tA vA lA nA tc vc lc nc) rfl 27 _ hr0 (by simp [plant4]) (by simp [plant4, Value.oneCell']) info_plant ?_; intro w' hr ho))
            refine bodyPost_ret (v := .agg (plant4 p tA vA lA nA tc vc lc nc)) ?_ rfl ⟨⟨tA, tc, vA, vc, lA, lc, nA, nc, iA, ic, jA, jc⟩, rfl, ?_, HC.out.below.trans (ho.below (by omega))⟩
            · rw [splA_all _ _ (by simp [plant4])] at hr
              exact results_cellS rfl _ _ _ _ _ _ rfl hr und_plant rfl info_plant
            · have hT : ∀ {B K n : Nat} {T : TypeId} {A : Option Addr} {f : Nat → Nat → Value}, Cl wr B T K A n f → w.heap.size ≤ B → T ≠ 27 → SlD w' (fun b => w.heap.size ≤ b ∧ b < w'.heap.size) K A n f :=
                fun hc hB hne => (hc.only ho hr0 hne).slD fun b h1 h2 => ⟨by omega, h2⟩
              have hsz := HSZ.out
              have h32 := HNL.out
              exact ⟨hT HC.out.tanks (by omega) (by decide), hT HC.out.valves (by omega) (by decide), hT HC.out.lines (by omega) (by decide), fun i hi => hT (HINTS.out i (by omega)) (by omega) (by decide), hT HC.out.never (by omega) (by decide),
                fun i hi => hT (HNEW.out i (by rw [HNN.out]; exact hi)) (by omega) (by decide), by omega⟩
end Go.Proofs.YtogobjmmgjfjjaaGreat
/- What is proved: what engine.New builds, as plain cells, and what holds while it does. Conditions: those that each lemma states. -/
namespace Go.Proofs.YtogobjmmgjfjjaaGreat
open Go.RowKit

def rest0 (tb cb nt nl : Nat) : Array Value := #[.slice (some ⟨tb, 0, none⟩) nt nt, .slice (some ⟨cb, 0, none⟩) nl nl, .nilFunc, .nilFunc, .nilFunc, .nilFunc, .bool true]
def sys0 (x : PV) (p : PlantD) (tb cb nt nl : Nat) : Array Value := plantA x p ++ (spotsA (firstB p) ++ (stuckA (fun _ => false) ++ rest0 tb cb nt nl))
set_option maxRecDepth 100000 in
theorem built_sys (x : PV) (p : PlantD) (tb cb nt nl : Nat) :
    Tryz.prog.built 111 [(0, .agg (plantA x p)), (1, .agg (spotsA (firstB p))), (3, .slice (some ⟨tb, 0, none⟩) nt nt), (4, .slice (some ⟨cb, 0, none⟩) nl nl), (6, .bool true)] =
      some (sys0 x p tb cb nt nl) := by
  kernel_rfl
theorem sys0_congr {x x2 : PV} {p : PlantD} {tb cb nt nl : Nat} (h : plantA x p = plantA x2 p) : sys0 x p tb cb nt nl = sys0 x2 p tb cb nt nl := by
  unfold sys0
  generalize plantA x p = a at *
  subst h
  rfl
theorem sys0_get (x : PV) (p : PlantD) (tb cb nt nl j : Nat) : (sys0 x p tb cb nt nl)[40 + j]? = (rest0 tb cb nt nl)[j]? := by
  unfold sys0
  rw [show 40 + j = 4 + (24 + (12 + j)) from by omega, get_right 4 _ rfl, get_right 24 _ rfl, get_right 12 _ rfl]
def zeroT : TankS := ⟨0, 0, 0, 0, 0⟩
theorem made_tanks (n : Nat) : madeCells #[.int .i64 0, .int .i64 0, .int .i64 0, .int .i64 0, .int .i64 0] (n * 5) = tanksA n fun _ => zeroT := by
  apply Array.ext_getElem?
  intro m
  by_cases hm : m < n * 5
  · obtain ⟨q, r, hr, rfl⟩ : ∃ q r, r < 5 ∧ m = q * 5 + r := ⟨m / 5, m % 5, Nat.mod_lt _ (by omega), by omega⟩
    rw [tanksA_get _ _ _ _ (by omega) hr]
    unfold madeCells
    have e : (q * 5 + r) % 5 = r := by omega
    simp only [Array.getElem?_map]
    rw [Array.getElem?_eq_getElem (by simpa using hm)]
    simp only [Array.getElem_range, Option.map_some]
    match r, hr with
    | 0, _ => simp [tankRow, zeroT]
    | 1, _ => simp [tankRow, zeroT, e]
    | 2, _ => simp [tankRow, zeroT, e]
    | 3, _ => simp [tankRow, zeroT, e]
    | 4, _ => simp [tankRow, zeroT, e]
  · rw [Array.getElem?_eq_none (by rw [size_madeCells]; omega), Array.getElem?_eq_none (by rw [tanksA_size]; omega)]
theorem made_carr (n : Nat) : madeCells #[.int .i64 0] (n * 1) = carrA n fun _ => 0 := by
  apply Array.ext_getElem?
  intro m
  by_cases hm : m < n
  · rw [carrA_get _ _ _ hm]
    unfold madeCells
    simp only [Array.getElem?_map]
    rw [Array.getElem?_eq_getElem (by simpa using hm)]
    simp [Nat.mod_one]
  · rw [Array.getElem?_eq_none (by rw [size_madeCells]; omega), Array.getElem?_eq_none (by rw [carrA_size]; omega)]
theorem wpo_make {P : Program} {o : Oper} {a : Act} {w : World} {K : Act → World → Prop} {Q : Exit → Act → World → Prop} (t e : TypeId) (x y : Operand) (ho : o.op = .makeSlice t x y) (n : Nat) (hx : a.eval x = .int .i64 n) (hy : a.eval y = .int .i64 n)
    (i : TypeInfo) (z : Value) (k : Nat) (ht : P.underlying t = some (.slice e)) (hi : P.info? e = some i) (hz : i.zero = some z) (hk : i.size = k) (hn : n ≤ 4096) (hk2 : k ≤ 64) (hb : i.bytes ≤ 1024)
    (h : K (a.put o.dst (.slice (some ⟨w.heap.size, 0, none⟩) n n)) (w.alloc (.cells (madeCells z.cells (n * k)) e))) : o.wp P a w K Q := by
  subst hk
  have h1 : n * i.size ≤ 4096 * 64 := Nat.mul_le_mul hn hk2
  have h2 : i.bytes * n ≤ 1024 * 4096 := Nat.mul_le_mul hb hn
  have hm := run_makeSlice (P := P) w t e i z ht hi hz .i64 .i64 (n : Int) (n : Int) (by omega) (by omega) (by simp only [Int.toNat_natCast]; omega) (by rw [← Int.natCast_mul]; omega) (by omega)
  simp only [Int.toNat_natCast] at hm
  unfold Oper.wp execOp
  simp only [ho, hx, hy, hm, Sem.run_bind, Sem.run_pure, Result.andThen_ok]
  exact h

/-- The block that a value leads to. -/
def blk : Value → Nat
  | .slice (some a) _ _ => a.block
  | .pointer (some a) => a.block
  | _ => 0
def ownJ (j : Nat) : Bool := j == 7 || j == 11 || j == 13 || j == 14
/-- What holds while a system is built: the copy's blocks are none of the other new ones. -/
structure NewJ (W : World) (p : PlantD) (dn : Nat → Bool) (vs : Nat → Value) (w1 : World) : Prop where
  below : Below W.heap.size W w1
  own : ∀ j, ownJ j = true → dn j = true → W.heap.size ≤ blk (vs j) ∧ blk (vs j) < w1.heap.size
  plant : dn 1 = true → ∃ x' lo hi, vs 1 = .agg (plantA x' p) ∧ W.heap.size ≤ lo ∧ hi ≤ w1.heap.size ∧ PlantIn w1 (fun b => lo ≤ b ∧ b < hi) x' p ∧ ∀ j, ownJ j = true → dn j = true → ¬ (lo ≤ blk (vs j) ∧ blk (vs j) < hi)
theorem NewJ.step {W w1 w2 : World} {p : PlantD} {dn : Nat → Bool} {vs : Nat → Value} (h : NewJ W p dn vs w1) (i : Nat) (v : Value) (hi : i ≠ 1) (hb : Below w1.heap.size w1 w2) (hv : ownJ i = true → w1.heap.size ≤ blk v ∧ blk v < w2.heap.size) :
    NewJ W p (updB dn i) (updV vs i v) w2 := by
  have hs := h.below.size
  have hs2 := hb.size
  refine ⟨h.below.trans (hb.mono hs), fun j hj hd => ?_, fun hd => ?_⟩
  · unfold updV; unfold updB at hd
    by_cases e : j = i
    · subst e; rw [if_pos rfl]; have := hv hj; omega
    · rw [if_neg e] at hd ⊢; have := h.own j hj hd; omega
  · unfold updB at hd
    rw [if_neg (Ne.symm hi)] at hd
    obtain ⟨x', lo, hi', e1, e2, e3, e4, e5⟩ := h.plant hd
    refine ⟨x', lo, hi', by unfold updV; rw [if_neg (Ne.symm hi)]; exact e1, e2, by omega, e4.keep fun b hb' => hb.block b (by omega), fun j hj hd' => ?_⟩
    unfold updV; unfold updB at hd'
    by_cases e : j = i
    · subst e; rw [if_pos rfl]; have := hv hj; omega
    · rw [if_neg e] at hd' ⊢; exact e5 j hj hd'
theorem NewJ.copied {W w1 w2 : World} {p : PlantD} {dn : Nat → Bool} {vs : Nat → Value} (h : NewJ W p dn vs w1) (x' : PV) (hb : Below w1.heap.size w1 w2) (hp : PlantIn w2 (fun b => w1.heap.size ≤ b ∧ b < w2.heap.size) x' p) :
    NewJ W p (updB dn 1) (updV vs 1 (.agg (plantA x' p))) w2 := by
  have hs := h.below.size
  have hs2 := hb.size
  have hne : ∀ j, ownJ j = true → j ≠ 1 := by rintro j hj rfl; cases hj
  refine ⟨h.below.trans (hb.mono hs), fun j hj hd => ?_, fun _ => ⟨x', _, _, rfl, hs, Nat.le_refl _, hp, fun j hj hd => ?_⟩⟩
  · unfold updV; unfold updB at hd
    rw [if_neg (hne j hj)] at hd ⊢; have := h.own j hj hd; omega
  · unfold updV; unfold updB at hd
    rw [if_neg (hne j hj)] at hd ⊢; have := h.own j hj hd; omega
theorem NewJ.only {W w1 w2 : World} {p : PlantD} {dn : Nat → Bool} {vs : Nat → Value} (h : NewJ W p dn vs w1) (h14 : dn 14 = true) (ho : Only (blk (vs 14)) w1 w2) :
    NewJ W p (updB dn 15) (updV vs 15 undef) w2 := by
  have h0 := h.own 14 rfl h14
  have hne : ∀ j, ownJ j = true → j ≠ 15 := by rintro j hj rfl; cases hj
  refine ⟨h.below.trans (ho.below h0.1), fun j hj hd => ?_, fun hd => ?_⟩
  · unfold updV; unfold updB at hd
    rw [if_neg (hne j hj)] at hd ⊢; rw [ho.size]; exact h.own j hj hd
  · obtain ⟨x', lo, hi', e1, e2, e3, e4, e5⟩ := h.plant hd
    refine ⟨x', lo, hi', e1, e2, by rw [ho.size]; exact e3, e4.keep fun b hb' => ho.block b (fun e => e5 14 rfl h14 (by rw [← e]; exact hb')), fun j hj hd' => ?_⟩
    unfold updV; unfold updB at hd'
    rw [if_neg (hne j hj)] at hd' ⊢; exact e5 j hj hd'
/-- What each operation does to the world. -/
def NewE (j : Nat) (w1 w2 : World) : Prop :=
  (j ≠ 15 → Below w1.heap.size w1 w2) ∧ (Below w1.heap.size w1 w2 ∨ ∃ gb cs', Only gb w1 w2 ∧ (∃ cs, Bk w1 gb 45 cs) ∧ Bk w2 gb 45 cs' ∧ cs'.size = 1)
theorem NewE.of {j : Nat} {w1 w2 : World} (h : Below w1.heap.size w1 w2) : NewE j w1 w2 := ⟨fun _ => h, .inl h⟩
theorem NewE.bk {j : Nat} {w1 w2 : World} {g : Nat} {T : TypeId} {cs : Array Value} (h : NewE j w1 w2) (hb : Bk w1 g T cs) (hT : T ≠ 45) : Bk w2 g T cs := by
  rcases h.2 with h | ⟨gb, cs', ho, ⟨cs2, h2⟩, _, _⟩
  · exact hb.below h hb.lt
  · exact hb.only ho (hb.ne h2 hT)
theorem NewE.gb {j : Nat} {w1 w2 : World} {g : Nat} {cs : Array Value} (h : NewE j w1 w2) (hb : Bk w1 g 45 cs) (hs : cs.size = 1) : ∃ cs', cs'.size = 1 ∧ Bk w2 g 45 cs' := by
  rcases h.2 with h | ⟨gb, cs', ho, _, h3, h4⟩
  · exact ⟨cs, hs, hb.below h hb.lt⟩
  · by_cases e : g = gb
    · subst e; exact ⟨cs', h4, h3⟩
    · exact ⟨cs, hs, hb.only ho e⟩
def startB (p : PlantD) : Sys := ⟨p, firstB p, fun _ => false, fun _ => zeroT, fun _ => 0⟩
theorem sys0_set (x : PV) (p : PlantD) (X : SX) (f0 f1 f2 f3 : Value) (hx : X.pv = x)
    (h : ((((rest0 X.tb X.cb p.tanks.length p.lines.length).setIfInBounds 2 f0).setIfInBounds 3 f1).setIfInBounds 4 f2).setIfInBounds 5 f3 = restA X p) :
    ((((sys0 x p X.tb X.cb p.tanks.length p.lines.length).setIfInBounds 42 f0).setIfInBounds 43 f1).setIfInBounds 44 f2).setIfInBounds 45 f3 = sysA X (startB p) := by
  have key : ∀ (r : Array Value) (j : Nat) (v : Value), (plantA x p ++ (spotsA (firstB p) ++ (stuckA (fun _ => false) ++ r))).setIfInBounds (40 + j) v = plantA x p ++ (spotsA (firstB p) ++ (stuckA (fun _ => false) ++ r.setIfInBounds j v)) := fun r j v => by
    rw [show 40 + j = 4 + (24 + (12 + j)) from by omega, set_right 4 _ _ rfl, set_right 24 _ _ rfl, set_right 12 _ _ rfl]
  unfold sys0
  rw [key _ 2, key _ 3, key _ 4, key _ 5, h]
  unfold sysA
  rw [hx]
  rfl
theorem startB_ok {p : PlantD} (h : plantB p = true) : SysOk (startB p) := by
  have h2 := h
  unfold plantB at h2
  simp only [Bool.and_eq_true] at h2
  refine ⟨h, firstB_spots (valvesOk_of _ h2.1.1.1.1.2), h2.2, fun i hi => ?_⟩
  have := tankOk_of h i hi
  simp only [startB, zeroT]
  omega
theorem infoC_tank : (Tryz.prog.info? 146).map (fun i => (i.zero, i.size, i.bytes)) = some (some (.agg #[.int .i64 0, .int .i64 0, .int .i64 0, .int .i64 0, .int .i64 0]), 5, 40) := by kernel_rfl
end Go.Proofs.YtogobjmmgjfjjaaGreat
/- What is proved: a contract of engine.New. Conditions: the plant lies in memory. -/
namespace Go.Proofs.YtogobjmmgjfjjaaGreat
open Go.RowKit

set_option maxRecDepth 100000 in
set_option maxHeartbeats 4000000 in
theorem new_any (w : World) (x : PV) (p : PlantD) (h : PlantAt w w.heap.size x p) :
    Calls Tryz.prog 18 #[.agg (plantA x p)] w fun e w' => Below w.heap.size w w' ∧
      if plantB p = true then ∃ X, e = .returned (.tuple #[.pointer (some ⟨X.sb, 0, none⟩), .int .i64 0]) ∧ SysAt w' X (startB p) ∧ w.heap.size ≤ X.lo
      else e = .returned (.tuple #[.pointer none, .int .i64 2]) := by
  have hb0 : ∀ o, Below w.heap.size w (w.alloc o) := fun o => (Below.refl _ _).alloc (Nat.le_refl _) _
  have HC := Lib.hid fun o => checkPlant_any (w.alloc o) x p ((h.below (hb0 o)).mono (by simp))
  have h0 := Lib.hid h
  clear h
  dsimp only [plantA] at HC ⊢
  obtain ⟨b, hbv⟩ : ∃ b, b = plantB p := ⟨_, rfl⟩
  simp only [← hbv] at HC ⊢
  have HBV := Lib.hid hbv
  clear hbv
  go_enter Tryz.func18, Tryz.ntmps18
  go_wp2_with fail
  obtain ⟨w0, hw0⟩ : ∃ w0, w0 = w.alloc (.cells #[.slice x.tA p.tanks.length x.tc, .slice x.vA p.valves.length x.vc, .slice x.lA p.lines.length x.lc, .slice x.nA p.never.length x.nc] 27) := ⟨_, rfl⟩
  have hB0 : Below w.heap.size w w0 := by rw [hw0]; exact hb0 _
  have hP0 : Bk w0 w.heap.size 27 (plantA x p) := by rw [hw0]; exact Bk.new _ _ _
  have HC0 := HC.out (.cells #[.slice x.tA p.tanks.length x.tc, .slice x.vA p.valves.length x.vc, .slice x.lA p.lines.length x.lc, .slice x.nA p.never.length x.nc] 27)
  rw [← hw0] at HC0 ⊢
  have hs0 : w0.heap.size = w.heap.size + 1 := by rw [hw0]; simp
  clear hw0 HC
  refine HC0.mono ?_
  rintro e W ⟨rfl, hBW⟩
  have hWB : Below w.heap.size w W := hB0.trans (hBW.mono (by omega))
  have hP := hP0.below hBW hP0.lt
  have hpl := hP.lt
  clear HC0 hBW hB0 hP0 hs0 hb0
  cases b with
  | false =>
    have HB := Lib.hid hWB
    clear hP hWB
    go_wp2_with fail
    go_ret2
    exact ⟨HB.out, rfl⟩
  | true =>
  have hv : plantB p = true := HBV.out.symm
  have hsz := plantB_sizes hv
  have HV := Lib.hid hv
  have hvo : ValvesOk p := (startB_ok hv).valid |> fun h => by
    unfold plantB at h
    simp only [Bool.and_eq_true] at h
    exact valvesOk_of _ h.1.1.1.1.2
  have hvoh := Lib.hid hvo
  clear hv hvo
  have HP := Lib.hid hP
  have HB := Lib.hid hWB
  clear hP hWB
  go_wp2_with fail
  refine wp_region_stepsJ (by kernel_rfl) (by kernel_rfl) (NewJ W p) NewE
    (fun i u d w1 => match i with
      | 0 | 2 => u = .agg (plantA x p)
      | 1 => ∃ x', u = .agg (plantA x' p)
      | 3 => u = .agg (spotsA (firstB p))
      | 4 => u = .pointer (some ⟨w.heap.size, 0, none⟩)
      | 5 => u = .slice x.tA p.tanks.length x.tc
      | 6 => u = .int .i64 p.tanks.length
      | 8 => u = .pointer (some ⟨w.heap.size, 2, none⟩)
      | 9 => u = .slice x.lA p.lines.length x.lc
      | 10 => u = .int .i64 p.lines.length
      | 7 => ∃ tb, u = .slice (some ⟨tb, 0, none⟩) p.tanks.length p.tanks.length ∧ Bk w1 tb 146 (tanksA p.tanks.length fun _ => zeroT)
      | 11 => ∃ cb, u = .slice (some ⟨cb, 0, none⟩) p.lines.length p.lines.length ∧ Bk w1 cb 3 (carrA p.lines.length fun _ => 0)
      | 12 => ∃ x' tb cb, d 1 = .agg (plantA x' p) ∧ d 7 = .slice (some ⟨tb, 0, none⟩) p.tanks.length p.tanks.length ∧ d 11 = .slice (some ⟨cb, 0, none⟩) p.lines.length p.lines.length ∧ u = .agg (sys0 x' p tb cb p.tanks.length p.lines.length)
      | 13 => ∃ sb cs, u = .pointer (some ⟨sb, 0, none⟩) ∧ d 12 = .agg cs ∧ Bk w1 sb 111 cs
      | 14 => ∃ gb cs, u = .pointer (some ⟨gb, 0, none⟩) ∧ cs.size = 1 ∧ Bk w1 gb 45 cs
      | 15 => ∃ gb, d 14 = .pointer (some ⟨gb, 0, none⟩) ∧ Bk w1 gb 45 #[d 13]
      | _ => True) ?_ ?_ ?_ ?_
  · intro vs
    exact ⟨(Below.refl _ _).drew, fun j _ hd => by simp at hd, fun hd => by simp at hd⟩
  · intro i j hij hanc u d w1 w2 hr hE
    match i with
    | 0 => exact hr
    | 1 => exact hr
    | 2 => exact hr
    | 3 => exact hr
    | 4 => exact hr
    | 5 => exact hr
    | 6 => exact hr
    | 7 => obtain ⟨b, e, hb⟩ := hr; exact ⟨b, e, hE.bk hb (by decide)⟩
    | 8 => exact hr
    | 9 => exact hr
    | 10 => exact hr
    | 11 => obtain ⟨b, e, hb⟩ := hr; exact ⟨b, e, hE.bk hb (by decide)⟩
    | 12 => exact hr
    | 13 => obtain ⟨b, cs, e, e2, hb⟩ := hr; exact ⟨b, cs, e, e2, hE.bk hb (by decide)⟩
    | 14 => obtain ⟨b, cs, e, e2, hb⟩ := hr; obtain ⟨cs', e3, hb'⟩ := hE.gb hb e2; exact ⟨b, cs', e, e3, hb'⟩
    | 15 => obtain ⟨b, e, hb⟩ := hr; exact ⟨b, e, hb.below (hE.1 (Ne.symm hij)) hb.lt⟩
    | n + 16 => trivial
  · refine ⟨?_, ?_, ?_, ?_, ?_, ?_, ?_, ?_, ?_, ?_, ?_, ?_, ?_, ?_, ?_, ?_, trivial⟩
    · intro a w1 vs K dn Hb Hb2 HJ HK HD HN k
      have HJB := HJ.below
      have k1 := HK 1 (by decide)
      exact wpo_loadS 27 (.tmp 1) rfl w.heap.size 0 (by simpa [Act.eval] using k1) (plantA x p) _ (fun j u hj => by rw [(HP.out.below HJB hpl).cell, Nat.zero_add]; exact hj) und_plant rfl info_plant (k _ _ (by simp) (HJ.step 0 _ (by decide) (Below.refl _ _) (fun h => by cases h)) (.of (Below.refl _ _)) rfl)
    · intro a w1 vs K dn Hb Hb2 HJ HK HD HN k
      have HJB := HJ.below
      have e0 := (HD 0 _ 8 rfl rfl rfl).1.trans (HD 0 _ 8 rfl rfl rfl).2
      exact wpo_call 53 _ _ rfl #[.agg (plantA x p)] (by simp [Act.eval, e0]) (fun args w => by kernel_rfl)
        ((copied_any w1 x p ((h0.out.below (HB.out.trans (HJB.mono (by omega)))).mono (by have := HJB.size; omega)) HV.out).mono fun e w' ⟨x', he, hp, hb⟩ => ⟨_, he, k _ _ (by simp) (HJ.copied x' hb hp) (.of hb) ⟨x', rfl⟩⟩)
    · intro a w1 vs K dn Hb Hb2 HJ HK HD HN k
      have HJB := HJ.below
      have k1 := HK 1 (by decide)
      exact wpo_loadS 27 (.tmp 1) rfl w.heap.size 0 (by simpa [Act.eval] using k1) (plantA x p) _ (fun j u hj => by rw [(HP.out.below HJB hpl).cell, Nat.zero_add]; exact hj) und_plant rfl info_plant (k _ _ (by simp) (HJ.step 2 _ (by decide) (Below.refl _ _) (fun h => by cases h)) (.of (Below.refl _ _)) rfl)
    · intro a w1 vs K dn Hb Hb2 HJ HK HD HN k
      have HJB := HJ.below
      have e2 := (HD 2 _ 10 rfl rfl rfl).1.trans (HD 2 _ 10 rfl rfl rfl).2
      exact wpo_call 49 _ _ rfl #[.agg (plantA x p)] (by simp [Act.eval, e2]) (fun args w => by kernel_rfl)
        ((first_any w1 x p ((h0.out.below (HB.out.trans (HJB.mono (by omega)))).mono (by have := HJB.size; omega)) hvoh.out).mono fun e w' ⟨he, hb⟩ => ⟨_, he, k _ _ (by simp) (HJ.step 3 _ (by decide) hb (fun h => by cases h)) (.of hb) rfl⟩)
    · intro a w1 vs K dn Hb Hb2 HJ HK HD HN k
      have HJB := HJ.below
      have k1 := HK 1 (by decide); go_simp; exact k _ _ (by simp) (HJ.step 4 _ (by decide) (Below.refl _ _) (fun h => by cases h)) (.of (Below.refl _ _)) rfl
    · intro a w1 vs K dn Hb Hb2 HJ HK HD HN k
      have HJB := HJ.below
      have e4 := (HD 4 _ 12 rfl rfl rfl).1.trans (HD 4 _ 12 rfl rfl rfl).2
      have hc : w1.cell? ⟨w.heap.size, 0, none⟩ = _ := (HP.out.below HJB hpl).cell 0
      simp [plantA] at hc
      go_simp; exact k _ _ (by simp) (HJ.step 5 _ (by decide) (Below.refl _ _) (fun h => by cases h)) (.of (Below.refl _ _)) rfl
    · intro a w1 vs K dn Hb Hb2 HJ HK HD HN k
      have HJB := HJ.below
      have e5 := (HD 5 _ 13 rfl rfl rfl).1.trans (HD 5 _ 13 rfl rfl rfl).2; go_simp; exact k _ _ (by simp) (HJ.step 6 _ (by decide) (Below.refl _ _) (fun h => by cases h)) (.of (Below.refl _ _)) rfl
    · intro a w1 vs K dn Hb Hb2 HJ HK HD HN k
      have HJB := HJ.below
      have e6 := (HD 6 _ 14 rfl rfl rfl).1.trans (HD 6 _ 14 rfl rfl rfl).2
      obtain ⟨i0, hi, hz0, hz1, hz2⟩ := info_parts infoC_tank
      refine wpo_make 107 146 (.tmp 14) (.tmp 14) rfl p.tanks.length (by simpa [Act.eval] using e6) (by simpa [Act.eval] using e6) i0 (.agg #[.int .i64 0, .int .i64 0, .int .i64 0, .int .i64 0, .int .i64 0]) 5 Tryz.underlying107 hi hz0 hz1 (by omega) (by omega) (by omega) ?_
      have hb : Below w1.heap.size w1 (w1.alloc (.cells (madeCells (Value.cells (.agg #[.int .i64 0, .int .i64 0, .int .i64 0, .int .i64 0, .int .i64 0])) (p.tanks.length * 5)) 146)) := (Below.refl _ _).alloc (Nat.le_refl _) _
      exact k _ _ (by simp) (HJ.step 7 _ (by decide) hb (fun _ => by simp [blk])) (.of hb) ⟨_, rfl, by rw [← made_tanks]; exact Bk.new _ _ _⟩
    · intro a w1 vs K dn Hb Hb2 HJ HK HD HN k
      have HJB := HJ.below
      have k1 := HK 1 (by decide); go_simp; exact k _ _ (by simp) (HJ.step 8 _ (by decide) (Below.refl _ _) (fun h => by cases h)) (.of (Below.refl _ _)) rfl
    · intro a w1 vs K dn Hb Hb2 HJ HK HD HN k
      have HJB := HJ.below
      have e8 := (HD 8 _ 16 rfl rfl rfl).1.trans (HD 8 _ 16 rfl rfl rfl).2
      have hc : w1.cell? ⟨w.heap.size, 2, none⟩ = _ := (HP.out.below HJB hpl).cell 2
      simp [plantA] at hc
      go_simp; exact k _ _ (by simp) (HJ.step 9 _ (by decide) (Below.refl _ _) (fun h => by cases h)) (.of (Below.refl _ _)) rfl
    · intro a w1 vs K dn Hb Hb2 HJ HK HD HN k
      have HJB := HJ.below
      have e9 := (HD 9 _ 17 rfl rfl rfl).1.trans (HD 9 _ 17 rfl rfl rfl).2; go_simp; exact k _ _ (by simp) (HJ.step 10 _ (by decide) (Below.refl _ _) (fun h => by cases h)) (.of (Below.refl _ _)) rfl
    · intro a w1 vs K dn Hb Hb2 HJ HK HD HN k
      have HJB := HJ.below
      have e10 := (HD 10 _ 18 rfl rfl rfl).1.trans (HD 10 _ 18 rfl rfl rfl).2
      obtain ⟨i0, hi, hz0, hz1, hz2⟩ := info_parts infoC_Int
      refine wpo_make 50 3 (.tmp 18) (.tmp 18) rfl p.lines.length (by simpa [Act.eval] using e10) (by simpa [Act.eval] using e10) i0 (.int .i64 0) 1 Tryz.underlying50 hi hz0 hz1 (by omega) (by omega) (by omega) ?_
      have hb : Below w1.heap.size w1 (w1.alloc (.cells (madeCells (Value.cells (.int .i64 0)) (p.lines.length * 1)) 3)) := (Below.refl _ _).alloc (Nat.le_refl _) _
      exact k _ _ (by simp) (HJ.step 11 _ (by decide) hb (fun _ => by simp [blk])) (.of hb) ⟨_, rfl, by rw [← made_carr]; exact Bk.new _ _ _⟩
    · intro a w1 vs K dn Hb Hb2 HJ HK HD HN k
      have HJB := HJ.below
      have e3 := (HD 3 _ 11 rfl rfl rfl).1.trans (HD 3 _ 11 rfl rfl rfl).2
      obtain ⟨q1, x', r1⟩ := HD 1 _ 9 rfl rfl rfl
      obtain ⟨q7, tb, r7, _⟩ := HD 7 _ 15 rfl rfl rfl
      obtain ⟨q11, cb, r11, _⟩ := HD 11 _ 19 rfl rfl rfl
      have e1 := q1.trans r1
      have e7 := q7.trans r7
      have e11 := q11.trans r11
      have hbu := built_sys x' p tb cb p.tanks.length p.lines.length
      have hev : (Array.map (fun (i, x) => (i, a.eval x)) #[(0, Operand.tmp 9), (1, .tmp 11), (3, .tmp 15), (4, .tmp 19), (6, .const (.bool true))]).toList = [(0, .agg (plantA x' p)), (1, .agg (spotsA (firstB p))), (3, .slice (some ⟨tb, 0, none⟩) p.tanks.length p.tanks.length), (4, .slice (some ⟨cb, 0, none⟩) p.lines.length p.lines.length), (6, .bool true)] := by
        simp [Act.eval, e1, e3, e7, e11]
      refine wp_build 111 _ rfl (by rw [hev, hbu]; rfl) ?_
      rw [hev, hbu]
      exact k _ _ (by simp) (HJ.step 12 _ (by decide) (Below.refl _ _) (fun h => by cases h)) (.of (Below.refl _ _)) ⟨x', tb, cb, r1, r7, r11, rfl⟩
    · intro a w1 vs K dn Hb Hb2 HJ HK HD HN k
      have HJB := HJ.below
      obtain ⟨q12, x', tb, cb, _, _, _, r12⟩ := HD 12 _ 20 rfl rfl rfl
      have e12 := q12.trans r12
      go_simp
      have hb : ∀ o, Below w1.heap.size w1 (w1.alloc o) := fun o => (Below.refl _ _).alloc (Nat.le_refl _) _
      exact k _ _ (by simp) (HJ.step 13 _ (by decide) (hb _) (fun _ => by simp [blk])) (.of (hb _)) ⟨_, _, rfl, r12, Bk.new _ _ _⟩
    · intro a w1 vs K dn Hb Hb2 HJ HK HD HN k
      have HJB := HJ.below
      go_simp
      have hb : ∀ o, Below w1.heap.size w1 (w1.alloc o) := fun o => (Below.refl _ _).alloc (Nat.le_refl _) _
      exact k _ _ (by simp) (HJ.step 14 _ (by decide) (hb _) (fun _ => by simp [blk])) (.of (hb _)) ⟨_, _, rfl, rfl, Bk.new _ _ _⟩
    · intro a w1 vs K dn Hb Hb2 HJ HK HD HN k
      have HJB := HJ.below
      obtain ⟨q13, sb, cs, r13, _, _⟩ := HD 13 _ 21 rfl rfl rfl
      obtain ⟨q14, gb, cg, r14, s14, b14⟩ := HD 14 _ 4 rfl rfl rfl
      have e13 := q13.trans r13
      have e14 := q14.trans r14
      have hc : w1.cell? ⟨gb, 0, none⟩ = some cg[0] := by rw [b14.cell]; simp [s14]
      have hf := b14.free 0
      have hd14 : dn 14 = true := Hb2 14 (by decide)
      go_simp
      have ho := Only.setCell w1 gb 0 (.pointer (some ⟨sb, 0, none⟩))
      have hset := b14.set 0 (.pointer (some ⟨sb, 0, none⟩))
      have hone : cg.setIfInBounds 0 (.pointer (some ⟨sb, 0, none⟩)) = #[.pointer (some ⟨sb, 0, none⟩)] := by
        apply Array.ext_getElem?
        intro m
        rw [Array.getElem?_setIfInBounds]
        match m with
        | 0 => simp [s14]
        | m + 1 => simp [s14]
      rw [hone] at hset
      refine k undef _ (by simp) (HJ.only hd14 (by rw [r14]; exact ho)) ⟨fun h => absurd rfl h, .inr ⟨gb, _, ho, ⟨cg, b14⟩, hset, rfl⟩⟩ ⟨gb, r14, ?_⟩
      show Bk _ gb _ #[vs 13]
      rw [r13]; exact hset
  · intro vs dn w1 hdn HJ hr
    obtain ⟨x', lo, hi, e1, l1, l2, hpl', hno⟩ := HJ.plant (hdn 1 (by decide))
    obtain ⟨tb, e7, b7⟩ := hr 7 _ rfl
    obtain ⟨cb, e11, b11⟩ := hr 11 _ rfl
    obtain ⟨sb, cs, e13, d12, b13⟩ := hr 13 _ rfl
    obtain ⟨x2, tb2, cb2, d1, d7, d11, e12⟩ := hr 12 _ rfl
    obtain ⟨gb, d14, b15⟩ := hr 15 _ rfl
    have d12 : vs 12 = _ := d12
    have d1 : vs 1 = _ := d1
    have d7 : vs 7 = _ := d7
    have d11 : vs 11 = _ := d11
    have d14 : vs 14 = _ := d14
    have b15 : Bk w1 gb 45 #[vs 13] := b15
    rw [e12] at d12
    rw [e1] at d1
    rw [e7] at d7
    rw [e11] at d11
    injection d12 with d12
    injection d1 with d1
    injection d7 with d7 _ _
    injection d7 with d7
    injection d7 with d7 _ _
    injection d11 with d11 _ _
    injection d11 with d11
    injection d11 with d11 _ _
    subst d7
    subst d11
    rw [← d12, sys0_congr d1.symm] at b13
    rw [e13] at b15
    have o7 := HJ.own 7 rfl (hdn 7 (by decide))
    have o11 := HJ.own 11 rfl (hdn 11 (by decide))
    have o13 := HJ.own 13 rfl (hdn 13 (by decide))
    have o14 := HJ.own 14 rfl (hdn 14 (by decide))
    have n7 := hno 7 rfl (hdn 7 (by decide))
    have n11 := hno 11 rfl (hdn 11 (by decide))
    have n13 := hno 13 rfl (hdn 13 (by decide))
    simp only [e7, e11, e13, d14, blk] at o7 o11 o13 o14 n7 n11 n13
    have hJB := HJ.below
    clear hr HJ hno hdn e1 e7 e11 e12 d1 d12
    have hne : gb ≠ sb := b15.ne b13 (by decide)
    have hne' : sb ≠ gb := Ne.symm hne
    have ns7 : tb ≠ sb := b7.ne b13 (by decide)
    have ns11 : cb ≠ sb := b11.ne b13 (by decide)
    have cg : w1.cell? ⟨gb, 0, none⟩ = some (.pointer (some ⟨sb, 0, none⟩)) := b15.cell 0
    have c42 : w1.cell? ⟨sb, 42, none⟩ = some .nilFunc := (b13.cell 42).trans (sys0_get _ _ _ _ _ _ 2)
    have c43 : w1.cell? ⟨sb, 43, none⟩ = some .nilFunc := (b13.cell 43).trans (sys0_get _ _ _ _ _ _ 3)
    have c44 : w1.cell? ⟨sb, 44, none⟩ = some .nilFunc := (b13.cell 44).trans (sys0_get _ _ _ _ _ _ 4)
    have c45 : w1.cell? ⟨sb, 45, none⟩ = some .nilFunc := (b13.cell 45).trans (sys0_get _ _ _ _ _ _ 5)
    have f42 := b13.free 42
    have f43 := b13.free 43
    have f44 := b13.free 44
    have f45 := b13.free 45
    have hWs := HB.out.size
    have hsb := b13.lt
    have hgb := b15.lt
    have B7 := Lib.hid b7
    have B11 := Lib.hid b11
    have B13 := Lib.hid b13
    have B15 := Lib.hid b15
    have HPL := Lib.hid hpl'
    have HJB := Lib.hid hJB
    clear b7 b11 b13 b15 hpl' hJB
    simp only [putAll, Act.put, d14]
    clear d14 e13
    go_simp
    go_wp2_with fail
    go_region
    go_wp2_with fail
    go_ret2
    obtain ⟨W4, hW4⟩ : ∃ W4, W4 = ((((w1.setCell ⟨sb, 42, none⟩ (.func (.func 54) #[] #[.pointer (some ⟨gb, 0, none⟩)])).setCell ⟨sb, 43, none⟩ (.func (.func 55) #[.pointer (some ⟨sb, 0, none⟩)] #[])).setCell ⟨sb, 44, none⟩
      (.func (.func 56) #[] #[.pointer (some ⟨gb, 0, none⟩)])).setCell ⟨sb, 45, none⟩ (.func (.func 57) #[] #[.pointer (some ⟨gb, 0, none⟩)])) := ⟨_, rfl⟩
    rw [← hW4]
    have ho : Only sb w1 W4 := by rw [hW4]; exact (((Only.setCell _ _ _ _).trans (Only.setCell _ _ _ _)).trans (Only.setCell _ _ _ _)).trans (Only.setCell _ _ _ _)
    have ho' : Only sb w1 W4.drew := ⟨ho.os, ho.tape, ho.output, ho.size, ho.block⟩
    have hS : Bk W4.drew sb 111 (sysA ⟨x', sb, tb, cb, gb, w.heap.size, w1.heap.size⟩ (startB p)) := by
      have := (((B13.out.set 42 (.func (.func 54) #[] #[.pointer (some ⟨gb, 0, none⟩)])).set 43 (.func (.func 55) #[.pointer (some ⟨sb, 0, none⟩)] #[])).set 44 (.func (.func 56) #[] #[.pointer (some ⟨gb, 0, none⟩)])).set 45 (.func (.func 57) #[] #[.pointer (some ⟨gb, 0, none⟩)])
      rw [← hW4, sys0_set x' p ⟨x', sb, tb, cb, gb, w.heap.size, w1.heap.size⟩ _ _ _ _ rfl rfl] at this
      exact this
    clear hW4
    refine ⟨(HB.out.trans (HJB.out.mono hWs)).trans (ho'.below (by omega)), ⟨x', sb, tb, cb, gb, w.heap.size, w1.heap.size⟩, rfl, ⟨hS, B7.out.only ho' ns7, B11.out.only ho' ns11, B15.out.only ho' hne, ?_, ?_, ?_, startB_ok HV.out⟩, Nat.le_refl _⟩
    · exact (HPL.out.keep fun b hb => ho'.block b (by rintro rfl; exact n13 hb)).mono fun b hb => ⟨by show w.heap.size ≤ b; omega, by show b < w1.heap.size; omega, by rintro rfl; exact n13 hb, by rintro rfl; exact n7 hb, by rintro rfl; exact n11 hb⟩
    · show w.heap.size ≤ sb ∧ w.heap.size ≤ tb ∧ w.heap.size ≤ cb ∧ w.heap.size ≤ gb; omega
    · show sb < w1.heap.size ∧ tb < w1.heap.size ∧ cb < w1.heap.size ∧ gb < w1.heap.size ∧ w1.heap.size ≤ W4.drew.heap.size; rw [ho'.size]; omega
end Go.Proofs.YtogobjmmgjfjjaaGreat
/- What is proved: a contract of engine.Loss. Conditions: none. -/
namespace Go.Proofs.YtogobjmmgjfjjaaGreat
open Go.RowKit

def lossV (b a i o f m : Int) (j : Nat) : Int := match j with | 0 => b | 1 => a | 2 => i | 3 => o | 4 => f | _ => m
def lossOk (b a i o f m : Int) : Bool := allN 6 fun j => inB (lossV b a i o f m j) 0 1073741824
def lossB (b a i o f m : Int) : Int × Int × Int := if lossOk b a i o f m then (b + i - o - a - (2 * f + m), b + i - o - a + (2 * f + m), 0) else (0, 0, 4)

theorem loss_ix0 (b a i o f m : Int) (w : World) : (Instr.index 190 (.agg #[.int .i64 b, .int .i64 a, .int .i64 i, .int .i64 o, .int .i64 f, .int .i64 m]) (.int .i64 0)).run Tryz.prog w = .ok (.int .i64 b) w := by kernel_rfl
theorem loss_ix1 (b a i o f m : Int) (w : World) : (Instr.index 190 (.agg #[.int .i64 b, .int .i64 a, .int .i64 i, .int .i64 o, .int .i64 f, .int .i64 m]) (.int .i64 1)).run Tryz.prog w = .ok (.int .i64 a) w := by kernel_rfl
theorem loss_ix2 (b a i o f m : Int) (w : World) : (Instr.index 190 (.agg #[.int .i64 b, .int .i64 a, .int .i64 i, .int .i64 o, .int .i64 f, .int .i64 m]) (.int .i64 2)).run Tryz.prog w = .ok (.int .i64 i) w := by kernel_rfl
theorem loss_ix3 (b a i o f m : Int) (w : World) : (Instr.index 190 (.agg #[.int .i64 b, .int .i64 a, .int .i64 i, .int .i64 o, .int .i64 f, .int .i64 m]) (.int .i64 3)).run Tryz.prog w = .ok (.int .i64 o) w := by kernel_rfl
theorem loss_ix4 (b a i o f m : Int) (w : World) : (Instr.index 190 (.agg #[.int .i64 b, .int .i64 a, .int .i64 i, .int .i64 o, .int .i64 f, .int .i64 m]) (.int .i64 4)).run Tryz.prog w = .ok (.int .i64 f) w := by kernel_rfl
theorem loss_ix5 (b a i o f m : Int) (w : World) : (Instr.index 190 (.agg #[.int .i64 b, .int .i64 a, .int .i64 i, .int .i64 o, .int .i64 f, .int .i64 m]) (.int .i64 5)).run Tryz.prog w = .ok (.int .i64 m) w := by kernel_rfl
theorem loss_ix (b a i o f m : Int) (k : Nat) (hk : k < 6) (w : World) : (Instr.index 190 (.agg #[.int .i64 b, .int .i64 a, .int .i64 i, .int .i64 o, .int .i64 f, .int .i64 m]) (.int .i64 (k : Int))).run Tryz.prog w = .ok (.int .i64 (lossV b a i o f m k)) w :=
  match k, hk with
  | 0, _ => loss_ix0 b a i o f m w
  | 1, _ => loss_ix1 b a i o f m w
  | 2, _ => loss_ix2 b a i o f m w
  | 3, _ => loss_ix3 b a i o f m w
  | 4, _ => loss_ix4 b a i o f m w
  | 5, _ => loss_ix5 b a i o f m w

set_option maxRecDepth 100000 in
set_option maxHeartbeats 2000000 in
theorem loss_any (w : World) (b a i o f m : Int) :
    Calls Tryz.prog 42 #[.int .i64 b, .int .i64 a, .int .i64 i, .int .i64 o, .int .i64 f, .int .i64 m] w
      fun e w' => e = .returned (.tuple #[.int .i64 (lossB b a i o f m).1, .int .i64 (lossB b a i o f m).2.1, .int .i64 (lossB b a i o f m).2.2]) ∧ w = w' := by
  go_enter Tryz.func42, Tryz.ntmps42
  go_wp2_with fail
  go_loopw [26] (fun v wr => ∃ k : Nat, k ≤ 6 ∧ v = .int .i64 k ∧ Hid (∀ j, j < k → inB (lossV b a i o f m j) 0 1073741824 = true) ∧ w = wr) (fun v _ => 6 - (intOf v).toNat)
  case atStart => exact ⟨0, by omega, rfl, Lib.hid fun j hj => absurd hj (by omega), rfl⟩
  case round =>
    obtain ⟨k, hk, rfl, hl, rfl⟩ := hrel
    by_cases hlt : k < 6
    · have hix : ∀ w : World, (Instr.index 190 (.agg #[.int .i64 b, .int .i64 a, .int .i64 i, .int .i64 o, .int .i64 f, .int .i64 m]) (.int .i64 (k : Int))).run Tryz.prog w = .ok (.int .i64 (lossV b a i o f m k)) w := by
        exact loss_ix b a i o f m k hlt
      have hki : (k : Int) < 6 := by omega
      go_wp2_with fail
      refine (within_any _ _ _ _).mono ?_
      rintro e w' ⟨rfl, rfl⟩
      cases hq : inB (lossV b a i o f m k) 0 1073741824 with
      | true =>
        have HQ := Lib.hid hq; clear hq
        go_wp2_with fail
        go_roundw
        case rel => exact ⟨k + 1, by omega, by go_num, Lib.hid fun j hj => if e : j = k then by subst e; exact HQ.out else hl.out j (by omega), trivial⟩
        case measure => simp [intOf]; omega
      | false =>
        have HQ := Lib.hid hq; clear hq
        go_wp2_with fail
        go_ret3
        have : lossB b a i o f m = (0, 0, 4) := by
          unfold lossB
          rw [if_neg]
          intro h
          have := allN_iff.1 h k hlt
          rw [HQ.out] at this; cases this
        rw [this]
        exact ⟨rfl, rfl⟩
    · obtain rfl : k = 6 := by omega
      have hall : ∀ j, j < 6 → 0 ≤ lossV b a i o f m j ∧ lossV b a i o f m j ≤ 1073741824 := fun j hj => inB_iff.1 (hl.out j hj)
      have g0 := hall 0 (by omega)
      have g1 := hall 1 (by omega)
      have g2 := hall 2 (by omega)
      have g3 := hall 3 (by omega)
      have g4 := hall 4 (by omega)
      have g5 := hall 5 (by omega)
      simp only [lossV] at g0 g1 g2 g3 g4 g5
      have h1 : IntKind.i64.wrap (b + i) = b + i := IntWalk.i64_in _ (by omega)
      have h2 : IntKind.i64.wrap (b + i - o) = b + i - o := IntWalk.i64_in _ (by omega)
      have h3 : IntKind.i64.wrap (b + i - o - a) = b + i - o - a := IntWalk.i64_in _ (by omega)
      have h4 : IntKind.i64.wrap (2 * f) = 2 * f := IntWalk.i64_in _ (by omega)
      have h5 : IntKind.i64.wrap (2 * f + m) = 2 * f + m := IntWalk.i64_in _ (by omega)
      have h6 : IntKind.i64.wrap (b + i - o - a - (2 * f + m)) = b + i - o - a - (2 * f + m) := IntWalk.i64_in _ (by omega)
      have h7 : IntKind.i64.wrap (b + i - o - a + (2 * f + m)) = b + i - o - a + (2 * f + m) := IntWalk.i64_in _ (by omega)
      have hL := Lib.hid (show lossB b a i o f m = (b + i - o - a - (2 * f + m), b + i - o - a + (2 * f + m), 0) by
        unfold lossB
        rw [if_pos]
        exact allN_iff.2 hl.out)
      go_wp2_with fail
      go_ret3
      rw [hL.out]
      exact ⟨rfl, rfl⟩
end Go.Proofs.YtogobjmmgjfjjaaGreat
/- What is proved: contracts of engine.needed and of the closures that tell a system's numbers. Conditions: those that each states. -/
namespace Go.Proofs.YtogobjmmgjfjjaaGreat
open Go.RowKit

def needB (p : PlantD) (kind of : Int) : Bool :=
  if kind = 0 then inB of 0 (p.tanks.length - 1) else if kind = 1 then inB of 0 (p.tanks.length - 1) else if kind = 2 then inB of 0 (p.lines.length - 1) else if kind = 3 then inB of 0 (p.valves.length - 1) else false

set_option maxRecDepth 100000 in
set_option maxHeartbeats 2000000 in
theorem needed_any (w : World) (x : PV) (p : PlantD) (hn : p.tanks.length ≤ 100000 ∧ p.lines.length ≤ 100000 ∧ p.valves.length ≤ 100000) (kind of low high : Int) :
    Calls Tryz.prog 72 #[.agg (plantA x p), .agg #[.int .i64 kind, .int .i64 of, .int .i64 low, .int .i64 high]] w fun e w' => e = .returned (.bool (needB p kind of)) ∧ Below w.heap.size w w' := by
  obtain ⟨h1, h2, h3⟩ := hn
  have w1 : IntKind.i64.wrap ((p.tanks.length : Int) - 1) = (p.tanks.length : Int) - 1 := IntWalk.i64_in _ (by omega)
  have w2 : IntKind.i64.wrap ((p.lines.length : Int) - 1) = (p.lines.length : Int) - 1 := IntWalk.i64_in _ (by omega)
  have w3 : IntKind.i64.wrap ((p.valves.length : Int) - 1) = (p.valves.length : Int) - 1 := IntWalk.i64_in _ (by omega)
  have hb : ∀ o o', Below w.heap.size w ((w.alloc o).alloc o') := fun o o' => ((Below.refl _ _).alloc (Nat.le_refl _) _).alloc (by simp) _
  have HB := Lib.hid hb
  clear hb
  dsimp only [plantA]
  by_cases k0 : kind = 0
  · subst k0
    have Hf := Lib.hid (show needB p 0 of = inB of 0 (p.tanks.length - 1) from rfl)
    go_enter Tryz.func72, Tryz.ntmps72
    go_wp2_with (first | (go_at_call 69; refine (within_any _ _ _ _).mono ?_; rintro e w' ⟨rfl, rfl⟩))
    go_ret
    exact ⟨ret_bool (by rw [Hf.out]), HB.out _ _⟩
  by_cases k1 : kind = 1
  · subst k1
    have Hf := Lib.hid (show needB p 1 of = inB of 0 (p.tanks.length - 1) from rfl)
    go_enter Tryz.func72, Tryz.ntmps72
    go_wp2_with (first | (go_at_call 69; refine (within_any _ _ _ _).mono ?_; rintro e w' ⟨rfl, rfl⟩))
    go_ret
    exact ⟨ret_bool (by rw [Hf.out]), HB.out _ _⟩
  by_cases k2 : kind = 2
  · subst k2
    have Hf := Lib.hid (show needB p 2 of = inB of 0 (p.lines.length - 1) from rfl)
    go_enter Tryz.func72, Tryz.ntmps72
    go_wp2_with (first | (go_at_call 69; refine (within_any _ _ _ _).mono ?_; rintro e w' ⟨rfl, rfl⟩))
    go_ret
    exact ⟨ret_bool (by rw [Hf.out]), HB.out _ _⟩
  by_cases k3 : kind = 3
  · subst k3
    have Hf := Lib.hid (show needB p 3 of = inB of 0 (p.valves.length - 1) from rfl)
    go_enter Tryz.func72, Tryz.ntmps72
    go_wp2_with (first | (go_at_call 69; refine (within_any _ _ _ _).mono ?_; rintro e w' ⟨rfl, rfl⟩))
    go_ret
    exact ⟨ret_bool (by rw [Hf.out]), HB.out _ _⟩
  · have Hf := Lib.hid (show needB p kind of = false by unfold needB; rw [if_neg k0, if_neg k1, if_neg k2, if_neg k3])
    go_enter Tryz.func72, Tryz.ntmps72
    go_wp2_with fail
    go_ret
    exact ⟨ret_bool (by rw [Hf.out]), HB.out _ _⟩

set_option maxHeartbeats 1000000 in
theorem newContent_any (w : World) (X : SX) (S : Sys) (h : SysAt w X S) (i : Nat) (hi : i < S.p.tanks.length) :
    Calls Tryz.prog 54 #[.int .i64 i, .pointer (some ⟨X.gb, 0, none⟩)] w fun e w' => e = .returned (.int .i64 (S.tank i).content) ∧ ∃ n, w' = w.drewN n := by
  have hii : (i : Int) < (S.p.tanks.length : Int) := by omega
  have h0i : (0 : Int) ≤ (i : Int) := by omega
  have c40 := h.cells.c40
  have cg : w.cell? ⟨X.gb, 0, none⟩ = some (.pointer (some ⟨X.sb, 0, none⟩)) := h.g.cell 0
  have ht := (h.tankCells i hi).t0
  clear h
  go_enter Tryz.func54, Tryz.ntmps54
  go_wp2
  go_ret
  exact ⟨rfl, 0, rfl⟩
set_option maxHeartbeats 1000000 in
theorem newCarried_any (w : World) (X : SX) (S : Sys) (h : SysAt w X S) (i : Nat) (hi : i < S.p.lines.length) :
    Calls Tryz.prog 56 #[.int .i64 i, .pointer (some ⟨X.gb, 0, none⟩)] w fun e w' => e = .returned (.int .i64 (S.carried i)) ∧ ∃ n, w' = w.drewN n := by
  have hii : (i : Int) < (S.p.lines.length : Int) := by omega
  have h0i : (0 : Int) ≤ (i : Int) := by omega
  have c41 := h.cells.c41
  have cg : w.cell? ⟨X.gb, 0, none⟩ = some (.pointer (some ⟨X.sb, 0, none⟩)) := h.g.cell 0
  have ht : w.cell? ⟨X.cb, i, none⟩ = some (.int .i64 (S.carried i)) := (h.c.cell i).trans (carrA_get _ _ _ hi)
  clear h
  go_enter Tryz.func56, Tryz.ntmps56
  go_wp2
  go_ret
  exact ⟨rfl, 0, rfl⟩
set_option maxRecDepth 100000 in
set_option maxHeartbeats 1000000 in
theorem newPlace_any (w : World) (X : SX) (S : Sys) (h : SysAt w X S) (v : Nat) (hv : v < S.p.valves.length) :
    Calls Tryz.prog 57 #[.int .i64 v, .pointer (some ⟨X.gb, 0, none⟩)] w fun e w' => e = .returned (.int .i64 (S.at_ v).place) ∧ ∃ n, w' = w.drewN n := by
  have hl := h.lens
  have h12i : (v : Int) < (12 : Int) := by omega
  have h0i : (0 : Int) ≤ (v : Int) := by omega
  have cg : w.cell? ⟨X.gb, 0, none⟩ = some (.pointer (some ⟨X.sb, 0, none⟩)) := h.g.cell 0
  have hp : w.cell? ⟨X.sb, 4 + v * 2, none⟩ = some (.int .i8 (S.at_ v).place) := h.loadSpots _ _ (spots_get S.at_ v (by omega)).1
  have hs := h.ok.spots.1 v hv
  have ht := h.valves.2 v hv
  have hw : IntKind.i64.wrap (S.at_ v).place = (S.at_ v).place := IntWalk.i64_in _ (by omega)
  clear h
  go_enter Tryz.func57, Tryz.ntmps57
  go_wp2
  go_ret
  exact ⟨rfl, 0, rfl⟩
end Go.Proofs.YtogobjmmgjfjjaaGreat
/- What is proved: a contract of Number of engine.System. Conditions: the system lies in memory. -/
namespace Go.Proofs.YtogobjmmgjfjjaaGreat
open Go.RowKit

theorem und_need : Tryz.prog.underlying 70 = some (.struct (match Tryz.prog.underlying 70 with | some (.struct f) => f | _ => #[])) := by kernel_rfl
theorem info_need : (Tryz.prog.info? 70).map (·.size) = some 4 := by kernel_rfl
def numOf (S : Sys) (kind of : Int) : Int := if kind = 0 then (S.tank of.toNat).content else if kind = 1 then pressB S of.toNat else if kind = 2 then S.carried of.toNat else (S.at_ of.toNat).place
def numberB (S : Sys) (kind of : Int) : Int × Int := if needB S.p kind of then (numOf S kind of, 0) else (0, 2)

set_option maxRecDepth 100000 in
set_option maxHeartbeats 4000000 in
theorem number_any (w : World) (X : SX) (S : Sys) (h : SysAt w X S) (kind of low high : Int) :
    Calls Tryz.prog 30 #[.pointer (some ⟨X.sb, 0, none⟩), .agg #[.int .i64 kind, .int .i64 of, .int .i64 low, .int .i64 high]] w
      fun e w' => e = .returned (.tuple #[.int .i64 (numberB S kind of).1, .int .i64 (numberB S kind of).2]) ∧ Below w.heap.size w w' := by
  have hb0 : ∀ ob, Below w.heap.size w (w.alloc ob) := fun ob => (Below.refl _ _).alloc (Nat.le_refl _) _
  have HI := Lib.hid fun ob => is_any (w.alloc ob) X S (h.below (hb0 ob))
  have hl := h.lens
  have h0 := Lib.hid h
  obtain ⟨b, hbv⟩ : ∃ b, b = needB S.p kind of := ⟨_, rfl⟩
  have Hn := Lib.hid (show numberB S kind of = if b then (numOf S kind of, 0) else (0, 2) by rw [hbv]; rfl)
  have HBV := Lib.hid hbv
  clear hbv h
  go_enter Tryz.func30, Tryz.ntmps30
  go_wp2_with (first | (go_at_call 84; refine (HI.out _).mono ?_; rintro e w' ⟨rfl, rfl⟩))
  obtain ⟨W, hW⟩ : ∃ W, W = w.alloc (.cells #[.int .i64 kind, .int .i64 of, .int .i64 low, .int .i64 high] 70) := ⟨_, rfl⟩
  have hWs : W.heap.size = w.heap.size + 1 := by rw [hW]; simp
  have hbW : Below w.heap.size w W := by rw [hW]; exact hb0 _
  have hob : Bk W w.heap.size 70 #[.int .i64 kind, .int .i64 of, .int .i64 low, .int .i64 high] := by rw [hW]; exact Bk.new _ _ _
  rw [← hW]
  clear hW
  have hSW := h0.out.below hbW
  refine wp_region_steps (by kernel_rfl) (by kernel_rfl) (fun w1 => Below W.heap.size W w1) (fun _ _ _ => True)
    (fun i u _ _ => match i with
      | 0 | 1 | 2 => u = .pointer (some ⟨X.sb, 0, none⟩)
      | 3 => u = .agg (plantA X.pv S.p)
      | 4 => u = .agg #[.int .i64 kind, .int .i64 of, .int .i64 low, .int .i64 high]
      | 5 => u = .bool b
      | _ => u = .bool (!b)) (Below.refl _ _).drew (fun _ _ _ _ _ _ _ _ h _ _ => h) ?_ ?_
  · have HS := Lib.hid fun (w1 : World) (hw1 : Below W.heap.size W w1) => hSW.below hw1
    have HO := Lib.hid fun (w1 : World) (hw1 : Below W.heap.size W w1) => hob.below hw1 hob.lt
    clear hSW hob HI hbW hb0 hWs
    refine ⟨?_, ?_, ?_, ?_, ?_, ?_, ?_, ?_, trivial⟩
    · intro a w vs K HJ HK HD HN k; have k0 := HK 0 (by decide); go_simp; exact k _ _ (by simp) HJ trivial rfl
    · intro a w vs K HJ HK HD HN k; have e0 := (HD 0 _ 11 rfl rfl rfl).1.trans (HD 0 _ 11 rfl rfl rfl).2; go_simp; exact k _ _ (by simp) HJ trivial rfl
    · intro a w vs K HJ HK HD HN k; have e1 := (HD 1 _ 12 rfl rfl rfl).1.trans (HD 1 _ 12 rfl rfl rfl).2; go_simp; exact k _ _ (by simp) HJ trivial rfl
    · intro a w vs K HJ HK HD HN k; have e2 := (HD 2 _ 13 rfl rfl rfl).1.trans (HD 2 _ 13 rfl rfl rfl).2
      exact wpo_loadS 27 (.tmp 13) rfl _ 0 (by simpa [Act.eval] using e2) (plantA X.pv S.p) _ (HS.out w HJ).loadPlant und_plant rfl info_plant (k _ _ (by simp) HJ trivial rfl)
    · intro a w1 vs K HJ HK HD HN k; have k3 := HK 3 (by decide)
      exact wpo_loadS 70 (.tmp 3) rfl w.heap.size 0 (by simpa [Act.eval] using k3) #[.int .i64 kind, .int .i64 of, .int .i64 low, .int .i64 high] _ (fun j u hj => by rw [(HO.out w1 HJ).cell, Nat.zero_add]; exact hj) und_need rfl info_need (k _ _ (by simp) HJ trivial rfl)
    · intro a w1 vs K HJ HK HD HN k
      have e3 := (HD 3 _ 14 rfl rfl rfl).1.trans (HD 3 _ 14 rfl rfl rfl).2; have e4 := (HD 4 _ 15 rfl rfl rfl).1.trans (HD 4 _ 15 rfl rfl rfl).2
      exact wpo_call 72 _ _ rfl #[.agg (plantA X.pv S.p), .agg #[.int .i64 kind, .int .i64 of, .int .i64 low, .int .i64 high]] (by simp [Act.eval, e3, e4]) (fun args w => by kernel_rfl)
        ((needed_any w1 X.pv S.p ⟨by omega, by omega, by omega⟩ kind of low high).mono fun e w' ⟨he, hb⟩ => ⟨_, he, k _ _ (by simp) (HJ.trans (hb.mono HJ.size)) trivial (by show Value.bool _ = _; rw [HBV.out])⟩)
    · intro a w vs K HJ HK HD HN k; have e5 := (HD 5 _ 16 rfl rfl rfl).1.trans (HD 5 _ 16 rfl rfl rfl).2; go_simp; exact k _ _ (by simp) HJ trivial rfl
    · intro a w vs K HJ HK HD HN k; have e6 := (HD 6 _ 17 rfl rfl rfl).1.trans (HD 6 _ 17 rfl rfl rfl).2; go_simp; exact k _ _ (by simp) HJ trivial rfl
  · intro vs w5 hw5 hr
    have h7 : vs 7 = .bool (!b) := hr 7 _ rfl
    have hS5 := hSW.below hw5
    have hbw5 : Below w.heap.size w w5 := hbW.trans (hw5.mono (by omega))
    have hob5 := hob.below hw5 hob.lt
    have c0 : w5.cell? ⟨w.heap.size, 0, none⟩ = some (.int .i64 kind) := hob5.cell 0
    have c1 : w5.cell? ⟨w.heap.size, 1, none⟩ = some (.int .i64 of) := hob5.cell 1
    clear hr hSW hob HI hb0 hob5 hw5 hbW hWs
    simp only [putAll, Act.put, h7]
    clear h7
    have HB := Lib.hid hbw5
    clear hbw5
    cases b with
    | false =>
      go_simp
      go_wp2
      go_ret2
      rw [Hn.out]
      exact ⟨rfl, HB.out⟩
    | true =>
      have hneed : needB S.p kind of = true := HBV.out.symm
      unfold needB at hneed
      by_cases k0 : kind = 0
      · subst k0
        have hin : inB of 0 (S.p.tanks.length - 1) = true := by simpa using hneed
        obtain ⟨g0, g1⟩ := inB_iff.1 hin
        obtain ⟨i, rfl⟩ := Int.eq_ofNat_of_zero_le g0
        have hi : i < S.p.tanks.length := by omega
        have cc : w5.cell? ⟨X.sb, 42, none⟩ = some (.func (.func 54) #[] #[.pointer (some ⟨X.gb, 0, none⟩)]) := (hS5.s.cell 42).trans (sysA_rest X S 2)
        have HC := Lib.hid fun n => newContent_any (w5.drewN n) X S (hS5.keep (fun _ _ _ => rfl) (Nat.le_refl _)) i hi
        clear hneed hin g0 g1 hS5
        go_simp
        go_wp2_with fail
        go_quiet ((go_at_call 54; exact Calls.quiet_of (HC.out _)))
        go_wp2
        go_ret2
        rw [Hn.out]
        exact ⟨rfl, below_drewN HB.out _⟩
      by_cases k1 : kind = 1
      · subst k1
        have hin : inB of 0 (S.p.tanks.length - 1) = true := by simpa using hneed
        obtain ⟨g0, g1⟩ := inB_iff.1 hin
        obtain ⟨i, rfl⟩ := Int.eq_ofNat_of_zero_le g0
        have hi : i < S.p.tanks.length := by omega
        have cc : w5.cell? ⟨X.sb, 43, none⟩ = some (.func (.func 55) #[.pointer (some ⟨X.sb, 0, none⟩)] #[]) := (hS5.s.cell 43).trans (sysA_rest X S 3)
        have HC := Lib.hid fun n => pressure_any (w5.drewN n) X S (hS5.keep (fun _ _ _ => rfl) (Nat.le_refl _)) i hi
        clear hneed hin g0 g1 hS5
        go_simp
        go_wp2_with fail
        go_quiet ((go_at_call 55; exact Calls.quiet_of (HC.out _)))
        go_wp2
        go_ret2
        rw [Hn.out]
        exact ⟨rfl, below_drewN HB.out _⟩
      by_cases k2 : kind = 2
      · subst k2
        have hin : inB of 0 (S.p.lines.length - 1) = true := by simpa using hneed
        obtain ⟨g0, g1⟩ := inB_iff.1 hin
        obtain ⟨i, rfl⟩ := Int.eq_ofNat_of_zero_le g0
        have hi : i < S.p.lines.length := by omega
        have cc : w5.cell? ⟨X.sb, 44, none⟩ = some (.func (.func 56) #[] #[.pointer (some ⟨X.gb, 0, none⟩)]) := (hS5.s.cell 44).trans (sysA_rest X S 4)
        have HC := Lib.hid fun n => newCarried_any (w5.drewN n) X S (hS5.keep (fun _ _ _ => rfl) (Nat.le_refl _)) i hi
        clear hneed hin g0 g1 hS5
        go_simp
        go_wp2_with fail
        go_quiet ((go_at_call 56; exact Calls.quiet_of (HC.out _)))
        go_wp2
        go_ret2
        rw [Hn.out]
        exact ⟨rfl, below_drewN HB.out _⟩
      by_cases k3 : kind = 3
      · subst k3
        have hin : inB of 0 (S.p.valves.length - 1) = true := by simpa using hneed
        obtain ⟨g0, g1⟩ := inB_iff.1 hin
        obtain ⟨i, rfl⟩ := Int.eq_ofNat_of_zero_le g0
        have hi : i < S.p.valves.length := by omega
        have cc : w5.cell? ⟨X.sb, 45, none⟩ = some (.func (.func 57) #[] #[.pointer (some ⟨X.gb, 0, none⟩)]) := (hS5.s.cell 45).trans (sysA_rest X S 5)
        have HC := Lib.hid fun n => newPlace_any (w5.drewN n) X S (hS5.keep (fun _ _ _ => rfl) (Nat.le_refl _)) i hi
        clear hneed hin g0 g1 hS5
        go_simp
        go_wp2_with fail
        go_quiet ((go_at_call 57; exact Calls.quiet_of (HC.out _)))
        go_wp2
        go_ret2
        rw [Hn.out]
        exact ⟨rfl, below_drewN HB.out _⟩
      · exfalso
        rw [if_neg k0, if_neg k1, if_neg k2, if_neg k3] at hneed
        cases hneed
end Go.Proofs.YtogobjmmgjfjjaaGreat
/- What is proved: a map whose keys are spots. Conditions: the places are within int8. -/
namespace Go.Proofs.YtogobjmmgjfjjaaGreat
open Go.RowKit Go.Maps Go.WideMaps
theorem laidOut : laidOutB Tryz.prog = true := by kernel_rfl
theorem rowSpots : (105 : TypeId) < Tryz.prog.types.size := of_decide_eq_true (by kernel_rfl)
theorem wideSpots : (match Tryz.prog.underlying 105 with | some (.array _ _) | some (.struct _) => true | _ => false) = true := by kernel_rfl
set_option maxRecDepth 100000 in
theorem spotsKeyed : Keyed Tryz.prog 105 := Keyed.of_law (deep_law_laid laidOut (m := 4) (by omega) rowSpots (by kernel_rfl) wideSpots)
theorem cellsSpot : Tryz.prog.cellsOf 103 = 2 := by kernel_rfl
theorem cellsSpots : Tryz.prog.cellsOf 105 = 24 := by kernel_rfl
theorem cellsI8 : Tryz.prog.cellsOf 101 = 1 := by kernel_rfl
theorem cellsBool : Tryz.prog.cellsOf 4 = 1 := by kernel_rfl
theorem sizeTypes : ∃ d, Tryz.prog.types.size + 1 = d + 1 + 1 + 1 + 1 := ⟨Tryz.prog.types.size - 3, by
  have : (decide (3 ≤ Tryz.prog.types.size)) = true := by kernel_rfl
  have := of_decide_eq_true this; omega⟩
theorem underlyingSpot : ∃ fs, Tryz.prog.underlying 103 = some (.struct fs) ∧ fs.all (·.name != "_") = true ∧ fs.toList.map (fun f => (f.type, f.offset)) = [(101, 0), (4, 1)] := ⟨(match Tryz.prog.underlying 103 with | some (.struct f) => f | _ => #[]), by kernel_rfl, by kernel_rfl, by kernel_rfl⟩
theorem underlyingSpots : Tryz.prog.underlying 105 = some (.array 12 103) := by kernel_rfl
theorem keyTypeSpots : Tryz.prog.keyType 105 = true := by kernel_rfl
theorem keySpot (d : Nat) (x : SpotD) (h : (Lit.int .i8 x.place).wf = true) : Tryz.prog.keyLits (d + 1 + 1) 103 [.int .i8 x.place, .bool x.opn] = some [.int .i8 x.place, .bool x.opn] := by
  obtain ⟨fs, h1, h2, h3⟩ := underlyingSpot
  have key : ∀ (l : List Field), l.map (fun f => (f.type, f.offset)) = [(101, 0), (4, 1)] → l.mapM (fun f => Tryz.prog.keyLits (d + 1) f.type (([.int .i8 x.place, .bool x.opn] : List Value).drop f.offset |>.take (Tryz.prog.cellsOf f.type))) = some [[.int .i8 x.place], [.bool x.opn]] := by
    intro l hl
    rcases l with _ | ⟨f, _ | ⟨g, _ | ⟨g2, l⟩⟩⟩
    · simp at hl
    · simp at hl
    · simp only [List.map_cons, List.map_nil, List.cons.injEq, Prod.mk.injEq, and_true] at hl
      obtain ⟨⟨a1, a2⟩, b1, b2⟩ := hl
      simp [a1, a2, b1, b2, cellsI8, cellsBool, Program.keyLits, h]
    · simp at hl
  unfold Program.keyLits
  simp only [h1, List.length_cons, List.length_nil, cellsSpot, h2, and_self, if_true, key _ h3]
  rfl
theorem spots_wf {s : Spots} (h : PlacesOk s) (i : Nat) : (Lit.int .i8 (s i).place).wf = true := by
  have h1 : IntKind.i8.min = -128 := by decide
  have h2 : IntKind.i8.max = 127 := by decide
  have := h i
  simp [Lit.wf, h1, h2]
  omega
def spotsK (s : Spots) : List Lit := (List.range 12).flatMap fun i => [.int .i8 (s i).place, .bool (s i).opn]
theorem keyLitsSpots (s : Spots) (h : PlacesOk s) (d : Nat) : Tryz.prog.keyLits (d + 1 + 1 + 1 + 1) 105 (spotsA s).toList = some (spotsK s) := by
  conv => lhs; unfold Program.keyLits
  simp only [underlyingSpots, Array.length_toList, spotsA_size, cellsSpots, if_true, cellsSpot]
  have hm : ∀ l : List Nat, (∀ i ∈ l, i < 12) → l.mapM (fun i => Tryz.prog.keyLits (d + 1 + 1 + 1) 103 (((spotsA s).toList.drop (i * 2)).take 2)) = some (l.map fun i => [.int .i8 (s i).place, .bool (s i).opn]) := by
    intro l
    induction l with
    | nil => intro _; rfl
    | cons i l ih =>
      intro hl
      have hi := hl i (List.mem_cons_self ..)
      have h0 : ((spotsA s).toList.drop (i * 2)).take 2 = [.int .i8 (s i).place, .bool (s i).opn] := by
        match i, hi with
        | 0, _ => rfl
        | 1, _ => rfl
        | 2, _ => rfl
        | 3, _ => rfl
        | 4, _ => rfl
        | 5, _ => rfl
        | 6, _ => rfl
        | 7, _ => rfl
        | 8, _ => rfl
        | 9, _ => rfl
        | 10, _ => rfl
        | 11, _ => rfl
      simp [List.mapM_cons, h0, keySpot (d + 1) (s i) (spots_wf h i), ih fun j hj => hl j (List.mem_cons_of_mem _ hj)]
  rw [hm _ fun i hi => by simpa using hi]
  rfl
theorem spots_formed (s : Spots) : (Value.agg (spotsA s)).formed Tryz.prog 105 = true := by
  simp only [Value.formed, underlyingSpots, spotsA_size, cellsSpots]; rfl
theorem keySpots (s : Spots) (h : PlacesOk s) : ∃ l, keyOf Tryz.prog 105 (.agg (spotsA s)) = some l := by
  obtain ⟨d, hd⟩ := sizeTypes
  unfold keyOf
  simp only [underlyingSpots, keyTypeSpots, spots_formed, Bool.and_self, if_true, hd]
  rw [show (Value.agg (spotsA s)).cells.toList = (spotsA s).toList from rfl, keyLitsSpots s h d]
  exact ⟨_, rfl⟩
end Go.Proofs.YtogobjmmgjfjjaaGreat
/- What is proved: a map from spots to bools that a call makes, as a list of its keys: looking up, storing a new key, its length. Conditions: the map's block holds just these keys, each with true. -/
namespace Go.Proofs.YtogobjmmgjfjjaaGreat
open Go.RowKit Go.Maps Go.WideMaps

def sameSp (x s : Spots) : Bool := allN 12 fun i => decide ((x i).place = (s i).place) && decide ((x i).opn = (s i).opn)
theorem sameSp_iff {x s : Spots} : sameSp x s = true ↔ ∀ i, i < 12 → x i = s i := by
  unfold sameSp
  rw [allN_iff]
  constructor
  · intro h i hi
    have := h i hi
    simp only [Bool.and_eq_true, decide_eq_true_eq] at this
    generalize x i = a at *
    generalize s i = b at *
    cases a; cases b; simp only at this; simp [this]
  · intro h i hi
    rw [h i hi]; simp
theorem spotsA_inj {x s : Spots} : spotsA x = spotsA s ↔ ∀ i, i < 12 → x i = s i := by
  constructor
  · intro h i hi
    have h1 := spots_get x i hi
    have h2 := spots_get s i hi
    rw [h] at h1
    have e1 := h1.1.symm.trans h2.1
    have e2 := h1.2.symm.trans h2.2
    simp only [Option.some.injEq, Value.int.injEq, Value.bool.injEq, true_and] at e1 e2
    generalize x i = a at *
    generalize s i = b at *
    cases a; cases b; simp only at e1 e2; simp [e1, e2]
  · exact fun h => spotsA_congr h
/-- Is s among l? -/
def inSet (l : List Spots) (s : Spots) : Bool := l.any fun x => sameSp x s
/-- Block b is a map whose keys are l, each with true. -/
def SetP (w : World) (b : Nat) (l : List Spots) : Prop :=
  (∀ x ∈ l, PlacesOk x) ∧ ∃ arr clock, w.heap[b]? = some (.map arr clock) ∧ arr.toList.map (fun e => (e.key, e.val)) = l.map fun s => (Value.agg (spotsA s), Value.bool true)
theorem SetP.made (w : World) : SetP (w.alloc (.map #[] 0)) w.heap.size [] := ⟨(fun x h => absurd h (by simp)), #[], 0, by rw [heap_alloc_new], rfl⟩
theorem SetP.keep {w w' : World} {b : Nat} {l : List Spots} (h : SetP w b l) (hk : w'.heap[b]? = w.heap[b]?) : SetP w' b l := by
  obtain ⟨h0, arr, clock, h1, h2⟩ := h
  exact ⟨h0, arr, clock, hk.trans h1, h2⟩
theorem SetP.lt {w : World} {b : Nat} {l : List Spots} (h : SetP w b l) : b < w.heap.size := by
  obtain ⟨_, arr, clock, h1, h2⟩ := h
  rcases Nat.lt_or_ge b w.heap.size with h | h
  · exact h
  · simp [Array.getElem?_eq_none h] at h1

section
variable {w : World} {b : Nat} {l : List Spots}
theorem SetP.find (h : SetP w b l) (s : Spots) (hs : PlacesOk s) : ∃ arr clock, w.heap[b]? = some (.map arr clock) ∧ arr.toList.map (fun e => (e.key, e.val)) = (l.map fun s => (Value.agg (spotsA s), Value.bool true)) ∧
    if inSet l s = true then ∃ j, (Instr.findKey 105 (.agg (spotsA s)) arr.toList).run Tryz.prog w = .ok (some (j, .bool true)) w else (Instr.findKey 105 (.agg (spotsA s)) arr.toList).run Tryz.prog w = .ok none w := by
  obtain ⟨h0, arr, clock, h1, h2⟩ := h
  refine ⟨arr, clock, h1, h2, ?_⟩
  obtain ⟨lx, hx⟩ := keySpots s hs
  have hkeys : ∀ e ∈ arr.toList, ∃ x ∈ l, e.key = .agg (spotsA x) ∧ e.val = .bool true := fun e he => by
    have : (e.key, e.val) ∈ arr.toList.map (fun e => (e.key, e.val)) := List.mem_map.2 ⟨e, he, rfl⟩
    rw [h2] at this
    obtain ⟨x, hx, e2⟩ := List.mem_map.1 this
    simp only [Prod.mk.injEq] at e2
    exact ⟨x, hx, e2.1.symm, e2.2.symm⟩
  have hin : inSet l s = true ↔ ∃ x ∈ l, spotsA x = spotsA s := by
    unfold inSet
    rw [List.any_eq_true]
    simp only [sameSp_iff, spotsA_inj]
  rcases spotsKeyed.find w hx arr.toList (fun e he => by obtain ⟨x, hx, e1, _⟩ := hkeys e he; rw [e1]; exact keySpots x (h0 x hx)) with ⟨r1, r2⟩ | ⟨j, e, r1, r2, r3⟩
  · rw [if_neg]
    · exact r1
    · rw [hin]
      rintro ⟨x, hxl, hxe⟩
      have : (Value.agg (spotsA x), Value.bool true) ∈ arr.toList.map (fun e => (e.key, e.val)) := by rw [h2]; exact List.mem_map.2 ⟨x, hxl, rfl⟩
      obtain ⟨e, he, e2⟩ := List.mem_map.1 this
      simp only [Prod.mk.injEq] at e2
      exact r2 e he (by rw [e2.1, hxe])
  · obtain ⟨x, hxl, e1, e2⟩ := hkeys e (List.mem_of_getElem? r2)
    rw [if_pos]
    · exact ⟨j, by rw [← e2]; exact r1⟩
    · rw [hin]
      rw [r3] at e1
      injection e1 with e1
      exact ⟨x, hxl, e1.symm⟩
theorem SetP.lookup (h : SetP w b l) (s : Spots) (hs : PlacesOk s) : (Instr.lookup 129 (.map (some b)) (.agg (spotsA s)) false).run Tryz.prog w = .ok (.bool (inSet l s)) w := by
  obtain ⟨arr, clock, h1, h2, h3⟩ := h.find s hs
  obtain ⟨lx, hx⟩ := keySpots s hs
  have g := run_getObj_map1 (P := Tryz.prog) h1
  have hc := fun em => spotsKeyed.check w em hx
  have ht : Tryz.prog.underlying 129 = some (.map 105 4) := by kernel_rfl
  have hz : (zeroValue 4).run Tryz.prog w = .ok (.bool false) w := by kernel_rfl
  cases hi : inSet l s with
  | true =>
    rw [hi, if_pos rfl] at h3
    obtain ⟨j, h3⟩ := h3
    simp [Instr.lookup, run_underlying ht, g, hc, h3]
  | false =>
    rw [hi, if_neg (by decide)] at h3
    simp [Instr.lookup, run_underlying ht, g, hc, h3, hz]
theorem SetP.update (h : SetP w b l) (s : Spots) (hs : PlacesOk s) (hn : inSet l s = false) :
    ∃ w', (Instr.mapUpdate 129 (.map (some b)) (.agg (spotsA s)) (.bool true)).run Tryz.prog w = .ok () w' ∧ SetP w' b (l ++ [s]) ∧ Only b w w' := by
  have hlt := h.lt
  have h0 := h.1
  obtain ⟨arr, clock, h1, h2, h3⟩ := h.find s hs
  obtain ⟨lx, hx⟩ := keySpots s hs
  rw [hn, if_neg (by decide)] at h3
  have hc := fun em => spotsKeyed.check w em hx
  have hst := spotsKeyed.stays w hx
  have ht : Tryz.prog.underlying 129 = some (.map 105 4) := by kernel_rfl
  refine ⟨{ w with heap := w.heap.setIfInBounds b (.map (arr.push { key := .agg (spotsA s), val := .bool true, born := clock }) (clock + 1)) }, ?_, ?_, ?_⟩
  · simp [Instr.mapUpdate, run_underlying ht, hc, h3, run_getObj_map1 h1, run_setObj_map1 h1]
  · refine ⟨fun x hx => ?_, arr.push { key := .agg (spotsA s), val := .bool true, born := clock }, clock + 1, by simp [hlt], by simp [h2]⟩
    rcases List.mem_append.1 hx with hx | hx
    · exact h0 x hx
    · simp only [List.mem_singleton] at hx; subst hx; exact hs
  · refine ⟨rfl, rfl, rfl, by simp, fun k hk => ?_⟩
    simp only [Array.getElem?_setIfInBounds]
    rw [if_neg (Ne.symm hk)]
end
end Go.Proofs.YtogobjmmgjfjjaaGreat
/- What is proved: a contract of engine.reached. Conditions: the plant lies in memory; the goal's literals name its valves. -/
namespace Go.Proofs.YtogobjmmgjfjjaaGreat
open Go.RowKit

section
variable {P : Program} {ops : Array Oper} {rest : List Oper} {o : Oper} {a : Act} {w : World} {Q : Exit → Act → World → Prop}
/-- A guarded load of several cells, a guarded call: where the guard says yes. -/
theorem wpLoadG (hw : Region.wanted o (yielded ops a.tmps) = true) (ty : TypeId) (x : Operand) (ho : o.op = .load ty x)
    (g off : Nat) (hx : a.eval x = .pointer (some ⟨g, off, none⟩)) (S : Array Value) (d : TypeDesc) (hc : ∀ j u, S[j]? = some u → w.cell? ⟨g, off + j, none⟩ = some u)
    (hu : P.underlying ty = some d) (hd : (match d with | .struct _ | .array _ _ => true | _ => false) = true) (hi : (P.info? ty).map (·.size) = some S.size)
    (h : wpList P ops Q rest (a.put o.dst (.agg S)) w) : wpList P ops Q (o :: rest) a w :=
  wpList_step fun _ hK => by
    rw [if_pos hw]
    exact wpo_loadS ty x ho g off hx S d hc hu hd hi (hK _ _ h)
end

def endB (p : PlantD) (s : Spots) (l : LitD) : Int := if (s l.valve.toNat).opn then (p.valve l.valve.toNat).travel else 0
def reach1B (p : PlantD) (s : Spots) (l : LitD) : Bool := decide ((s l.valve.toNat).place = endB p s l) && holdsB p s l
def reachedB (p : PlantD) (s : Spots) (g : List LitD) : Bool := allN g.length fun k => reach1B p s (g.getD k lit0)

set_option maxRecDepth 100000 in
set_option maxHeartbeats 2000000 in
theorem reached1_any (w : World) (x : PV) (p : PlantD) (h : PlantAt w w.heap.size x p) (s : Spots) (hs : PlacesOk s) (v : Nat) (o : Bool) (hv : v < p.valves.length) (h12 : v < 12)
    (sb pb : Nat) (hsb : Bk w sb 105 (spotsA s)) (hpb : Bk w pb 27 (plantA x p)) :
    Calls Tryz.prog 155 #[.agg #[.int .i64 v, .bool o], .pointer (some ⟨sb, 0, none⟩), .pointer (some ⟨pb, 0, none⟩)] w
      fun e w' => e = .returned (.bool (reach1B p s ⟨v, o⟩)) ∧ Below w.heap.size w w' := by
  have hvi : (v : Int) < (p.valves.length : Int) := by omega
  have h12i : (v : Int) < (12 : Int) := by omega
  have h0i : (0 : Int) ≤ (v : Int) := by omega
  have g := spots_get s v h12
  have hsl := hsb.lt
  have hpl := hpb.lt
  have hsl1 : sb < w.heap.size + 1 := by omega
  have hpl1 : pb < w.heap.size + 1 := by omega
  have e0 := (hsb.cell (v * 2)).trans g.1
  have e1 := (hsb.cell (v * 2 + 1)).trans g.2
  have p1 : w.cell? ⟨pb, 1, none⟩ = some (.slice x.vA p.valves.length x.vc) := hpb.cell 1
  obtain ⟨b, off, hA, hB, _, d1, _⟩ := h.valves.at3 hv
  simp only [valveC] at d1
  rw [hA] at p1
  have hB1 : b < w.heap.size + 1 := by omega
  have hpc := hs v
  have hw : IntKind.i64.wrap (s v).place = (s v).place := IntWalk.i64_in _ (by omega)
  have hb0 : ∀ ob, Below w.heap.size w (w.alloc ob) := fun ob => (Below.refl _ _).alloc (Nat.le_refl _) _
  have HH := Lib.hid fun ob => holds_any (w.alloc ob) x p ((h.below (hb0 ob)).mono (by simp)) s v o hv h12 hs
  have HP := Lib.hid fun ob j u (hj : (plantA x p)[j]? = some u) => ((hpb.below (hb0 ob) hpl).cell (0 + j)).trans (by rw [Nat.zero_add]; exact hj : (plantA x p)[0 + j]? = some u)
  have HSB := Lib.hid fun ob j u (hj : (spotsA s)[j]? = some u) => ((hsb.below (hb0 ob) hsl).cell (0 + j)).trans (by rw [Nat.zero_add]; exact hj : (spotsA s)[0 + j]? = some u)
  have HL := Lib.hid fun j u (hj : (#[.int .i64 v, .bool o] : Array Value)[j]? = some u) => ((Bk.new w 79 #[.int .i64 v, .bool o]).cell (0 + j)).trans (by rw [Nat.zero_add]; exact hj : (#[.int .i64 v, .bool o] : Array Value)[0 + j]? = some u)
  have HB := Lib.hid hb0
  clear h hsb hpb hA g hb0
  cases ho : (s v).opn with
  | true =>
    have Hf := Lib.hid (show reach1B p s ⟨v, o⟩ = (decide ((s v).place = (p.valve v).travel) && holdsB p s ⟨v, o⟩) by unfold reach1B endB; simp [ho])
    rw [ho] at e1
    clear ho
    cases hq : decide ((s v).place = (p.valve v).travel) with
    | true =>
      rw [hq, Bool.true_and] at Hf
      have hq' : ((s v).place == (p.valve v).travel) = true := hq
      clear hq
      go_enter Tryz.func155, Tryz.ntmps155
      go_wp2_with (first | (refine wpLoadG rfl 27 (.tmp 2) rfl pb 0 rfl (plantA x p) _ (HP.out _) und_plant rfl info_plant ?_) | (refine wpLoadG rfl 105 (.tmp 1) rfl sb 0 rfl (spotsA s) _ (HSB.out _) und_spots rfl (info_spots_s _) ?_) | (refine wpLoadG rfl 79 (.tmp 3) rfl w.heap.size 0 rfl #[.int .i64 v, .bool o] _ HL.out und_lit rfl info_lit ?_))
      refine (HH.out _).mono ?_
      rintro e w' ⟨rfl, hb'⟩
      go_wp2_with fail
      go_ret
      exact ⟨ret_bool (by rw [Hf.out]), (HB.out _).trans (hb'.mono (by simp))⟩
    | false =>
      rw [hq, Bool.false_and] at Hf
      have hq' : ((s v).place == (p.valve v).travel) = false := hq
      clear hq
      go_enter Tryz.func155, Tryz.ntmps155
      go_wp2_with fail
      go_ret
      exact ⟨ret_bool (by rw [Hf.out]), HB.out _⟩
  | false =>
    have Hf := Lib.hid (show reach1B p s ⟨v, o⟩ = (decide ((s v).place = 0) && holdsB p s ⟨v, o⟩) by unfold reach1B endB; simp [ho])
    rw [ho] at e1
    clear ho
    cases hq : decide ((s v).place = 0) with
    | true =>
      rw [hq, Bool.true_and] at Hf
      have hq' : ((s v).place == 0) = true := hq
      clear hq
      go_enter Tryz.func155, Tryz.ntmps155
      go_wp2_with (first | (refine wpLoadG rfl 27 (.tmp 2) rfl pb 0 rfl (plantA x p) _ (HP.out _) und_plant rfl info_plant ?_) | (refine wpLoadG rfl 105 (.tmp 1) rfl sb 0 rfl (spotsA s) _ (HSB.out _) und_spots rfl (info_spots_s _) ?_) | (refine wpLoadG rfl 79 (.tmp 3) rfl w.heap.size 0 rfl #[.int .i64 v, .bool o] _ HL.out und_lit rfl info_lit ?_))
      refine (HH.out _).mono ?_
      rintro e w' ⟨rfl, hb'⟩
      go_wp2_with fail
      go_ret
      exact ⟨ret_bool (by rw [Hf.out]), (HB.out _).trans (hb'.mono (by simp))⟩
    | false =>
      rw [hq, Bool.false_and] at Hf
      have hq' : ((s v).place == 0) = false := hq
      clear hq
      go_enter Tryz.func155, Tryz.ntmps155
      go_wp2_with fail
      go_ret
      exact ⟨ret_bool (by rw [Hf.out]), HB.out _⟩
def GoalOk (p : PlantD) (g : List LitD) : Prop := ∀ k, k < g.length → 0 ≤ (g.getD k lit0).valve ∧ (g.getD k lit0).valve < p.valves.length
set_option maxRecDepth 100000 in
set_option maxHeartbeats 1000000 in
theorem reached_any (w : World) (x : PV) (p : PlantD) (h : PlantAt w w.heap.size x p) (s : Spots) (hs : PlacesOk s) (hv12 : p.valves.length ≤ 12) (gA : Option Addr) (gc : Nat) (g : List LitD) (hg : LitsAt w w.heap.size gA g) (hok : GoalOk p g) :
    Calls Tryz.prog 115 #[.agg (plantA x p), .agg (spotsA s), .slice gA g.length gc] w fun e w' => e = .returned (.bool (reachedB p s g)) ∧ Below w.heap.size w w' := by
  have hz := spotsA_size s
  let w1 := w.alloc (.cells (plantA x p) 27)
  let w2 := w1.alloc (.cells (spotsA s) 105)
  have hb : Below w.heap.size w w2 := ((Below.refl _ _).alloc (Nat.le_refl _) _).alloc (by simp) _
  have hs2 : w2.heap.size = w.heap.size + 2 := by simp [w2, w1]
  have h1 : Bk w2 w.heap.size 27 (plantA x p) := (Bk.new _ _ _).alloc _
  have h2 : Bk w2 (w.heap.size + 1) 105 (spotsA s) := Bk.newAt w1 _ _ _ (by simp [w1])
  have h4 := (h.below hb).mono (show w.heap.size ≤ w2.heap.size by omega)
  have HALL := Lib.hid (allLit w2 gA g.length gc _ ((Sl.below hg hb).mono (show w.heap.size ≤ w2.heap.size by omega)) 155 #[.pointer (some ⟨w.heap.size + 1, 0, none⟩), .pointer (some ⟨w.heap.size, 0, none⟩)] (fun k => reach1B p s (g.getD k lit0)) (fun args w => by kernel_rfl) (fun w4 hw4 k hk => by
    have hsz := hw4.size
    have key : ∀ L : LitD, 0 ≤ L.valve → L.valve < p.valves.length → Calls Tryz.prog 155 (#[.agg #[litC L 0, litC L 1]] ++ #[.pointer (some ⟨w.heap.size + 1, 0, none⟩), .pointer (some ⟨w.heap.size, 0, none⟩)]) w4
        fun e w'' => e = .returned (.bool (reach1B p s L)) ∧ Below w4.heap.size w4 w'' := by
      rintro ⟨v, o⟩ h0 h1'
      obtain ⟨n, rfl⟩ := Int.eq_ofNat_of_zero_le h0
      simp only at h1'
      exact reached1_any w4 x p ((h4.below hw4).mono hsz) s hs n o (by omega) (by omega) (w.heap.size + 1) w.heap.size (h2.below hw4 h2.lt) (h1.below hw4 h1.lt)
    exact key _ (hok k hk).1 (hok k hk).2))
  have HB := Lib.hid hb
  have HS := Lib.hid hs2
  clear h h1 h2 h4 hb hs2 hg
  simp only [w2, w1, plantA] at HALL HB HS ⊢
  clear w2 w1
  go_enter Tryz.func115, Tryz.ntmps115
  go_wp2_with fail
  refine HALL.out.mono ?_
  rintro e w' ⟨rfl, hb'⟩
  go_wp2_with fail
  go_ret
  exact ⟨rfl, HB.out.trans (hb'.mono (by rw [HS.out]; omega))⟩
end Go.Proofs.YtogobjmmgjfjjaaGreat
/- What is proved: nothing of Go: the rows of a search, how they lie in memory, and what keeps them. -/
namespace Go.Proofs.YtogobjmmgjfjjaaGreat
open Go.RowKit

inductive RowC where
  | root (s : Spots)
  | step (s : Spots) (r : RowC) (o : Option LitD)
def RowC.at_ : RowC → Spots
  | .root s => s
  | .step s _ _ => s
/-- The orders of a row, the last one first. -/
def RowC.back : RowC → List LitD
  | .root _ => []
  | .step _ r none => r.back
  | .step _ r (some o) => o :: r.back
def RowC.depth : RowC → Nat
  | .root _ => 0
  | .step _ r _ => r.depth + 1
theorem RowC.back_le (r : RowC) : r.back.length ≤ r.depth := by
  induction r with
  | root => simp [RowC.back]
  | step s r o ih => cases o <;> simp [RowC.back, RowC.depth] <;> omega

def ptr (b : Nat) : Value := .pointer (some ⟨b, 0, none⟩)
def rowA (s : Spots) (f o : Value) : Array Value := spotsA s ++ #[f, o]
theorem rowA_at (s : Spots) (f o : Value) (j : Nat) (u : Value) (h : (spotsA s)[j]? = some u) : (rowA s f o)[j]? = some u := by
  have hj : j < (spotsA s).size := (Array.getElem?_eq_some_iff.1 h).1
  unfold rowA
  rw [Array.getElem?_append_left hj]; exact h
def ordA (o : LitD) : Array Value := #[.int .i64 o.valve, .bool o.opn]

/-- A row lies at block b. -/
def RowIn (w : World) : RowC → Nat → Prop
  | .root s, b => Bk w b 140 (rowA s (.pointer none) (.pointer none))
  | .step s r none, b => ∃ b', RowIn w r b' ∧ Bk w b 140 (rowA s (ptr b') (.pointer none))
  | .step s r (some o), b => ∃ b' ob, RowIn w r b' ∧ Bk w ob 38 (ordA o) ∧ Bk w b 140 (rowA s (ptr b') (ptr ob))
theorem RowIn.bk {w : World} {r : RowC} {b : Nat} (h : RowIn w r b) : ∃ f o, Bk w b 140 (rowA r.at_ f o) := by
  match r with
  | .root s => exact ⟨_, _, h⟩
  | .step s r none => obtain ⟨b', _, h⟩ := h; exact ⟨_, _, h⟩
  | .step s r (some o) => obtain ⟨b', ob, _, _, h⟩ := h; exact ⟨_, _, h⟩

/-- Only new blocks from B on, and blocks from B on that are a search, its map or its queue, have turned. -/
structure Fr (B : Nat) (w w' : World) : Prop where
  below : Below B w w'
  keep : ∀ b cs t, t ≠ 135 → t ≠ 133 → Bk w b t cs → Bk w' b t cs
theorem Fr.refl (B : Nat) (w : World) : Fr B w w := ⟨Below.refl _ _, fun _ _ _ _ _ h => h⟩
theorem Fr.trans {B : Nat} {a b c : World} (h : Fr B a b) (k : Fr B b c) : Fr B a c := ⟨h.below.trans k.below, fun g cs t ht hu hk => k.keep g cs t ht hu (h.keep g cs t ht hu hk)⟩
theorem Fr.of_below {B : Nat} {w w' : World} (h : Below w.heap.size w w') (hB : B ≤ w.heap.size) : Fr B w w' :=
  ⟨h.mono hB, fun _ _ _ _ _ hk => hk.below h hk.lt⟩
theorem Fr.of_only {B g : Nat} {w w' : World} {t : TypeId} {cs : Array Value} (h : Only g w w') (hB : B ≤ g) (hb : Bk w g t cs) (h1 : t = 135 ∨ t = 133) : Fr B w w' :=
  ⟨h.below hB, fun b cs' t' ht hu hk => hk.only h (by
    rintro rfl
    have e := hb.symm.trans hk
    simp only [Option.some.injEq, Obj.cells.injEq] at e
    rcases h1 with h1 | h1
    · exact ht (e.2.1.symm.trans h1)
    · exact hu (e.2.1.symm.trans h1))⟩
theorem Fr.of_map {B g : Nat} {w w' : World} (h : Only g w w') (hB : B ≤ g) {arr : Array MapEntry} {c : Nat} (hb : w.heap[g]? = some (.map arr c)) : Fr B w w' :=
  ⟨h.below hB, fun b cs' t' _ _ hk => hk.only h (by
    rintro rfl
    have e := hb.symm.trans hk
    simp at e)⟩
theorem RowIn.fr {B : Nat} {w w' : World} (hf : Fr B w w') : ∀ {r : RowC} {b : Nat}, RowIn w r b → RowIn w' r b
  | .root s, b, h => hf.keep _ _ _ (by decide) (by decide) h
  | .step s r none, b, h => by obtain ⟨b', h1, h2⟩ := h; exact ⟨b', h1.fr hf, hf.keep _ _ _ (by decide) (by decide) h2⟩
  | .step s r (some o), b, h => by obtain ⟨b', ob, h1, h2, h3⟩ := h; exact ⟨b', ob, h1.fr hf, hf.keep _ _ _ (by decide) (by decide) h2, hf.keep _ _ _ (by decide) (by decide) h3⟩

/-! The plain search. -/
structure Srch where
  rows : List RowC
  next : Nat
  seen : List Spots
  found : Option RowC
  full : Bool
def reachS (p : PlantD) (g : List LitD) (st : Srch) (r : RowC) : Bool × Srch :=
  if inSet st.seen r.at_ then (true, st)
  else if st.seen.length = 20000 then (false, { st with full := true })
  else if reachedB p r.at_ g then (false, { st with seen := st.seen ++ [r.at_], found := some r })
  else (true, { st with seen := st.seen ++ [r.at_], rows := st.rows ++ [r] })
def try1S (p : PlantD) (g : List LitD) (r : RowC) (v : Nat) (o : Bool) (st : Srch) : Bool × Srch :=
  if safeB p (wantB r.at_ v o) && !(sameSp (wantB r.at_ v o) r.at_) then reachS p g st (.step (wantB r.at_ v o) r (some ⟨v, o⟩)) else (true, st)
/-- n orders from the q-th on: 2 v closes valve v, 2 v + 1 opens it. -/
def trysS (p : PlantD) (g : List LitD) (r : RowC) : Nat → Nat → Srch → Bool × Srch
  | 0, _, st => (true, st)
  | n + 1, q, st => if (try1S p g r (q / 2) (q % 2 == 1) st).1 then trysS p g r n (q + 1) (try1S p g r (q / 2) (q % 2 == 1) st).2 else (false, (try1S p g r (q / 2) (q % 2 == 1) st).2)
def followS (p : PlantD) (g : List LitD) (r : RowC) (st : Srch) : Bool × Srch :=
  if (trysS p g r (2 * p.valves.length) 0 st).1 then reachS p g (trysS p g r (2 * p.valves.length) 0 st).2 (.step (movedB p r.at_ fun _ => false) r none) else (false, (trysS p g r (2 * p.valves.length) 0 st).2)
def loopS (p : PlantD) (g : List LitD) : Nat → Bool → Srch → Srch
  | 0, _, st => st
  | n + 1, more, st =>
    if more then
      match st.rows[st.next]? with
      | none => st
      | some r => loopS p g n (followS p g r { st with next := st.next + 1 }).1 (followS p g r { st with next := st.next + 1 }).2
    else st
def srch0 : Srch := ⟨[], 0, [], none, false⟩
def pathS (p : PlantD) (g : List LitD) : Srch := loopS p g 20002 (reachS p g srch0 (.root (firstB p))).1 (reachS p g srch0 (.root (firstB p))).2
def pathB (p : PlantD) (g : List LitD) : List LitD × Int :=
  if plantB p && litsOk p.valves.length g 16 then
    match (pathS p g).found with
    | some r => (r.back.reverse, 0)
    | none => if (pathS p g).full then ([], 3) else ([], 7)
  else ([], 2)
end Go.Proofs.YtogobjmmgjfjjaaGreat
/- What is proved: contracts of the queue's put and take, where the queue lies in a search. Conditions: the search's block is known whole. -/
namespace Go.Proofs.YtogobjmmgjfjjaaGreat
open Go.RowKit

theorem Only.drewN {g : Nat} {a w : World} (h : Only g a w) (n : Nat) : Only g a (w.drewN n) := ⟨h.os, h.tape, h.output, h.size, h.block⟩
set_option maxRecDepth 100000 in
set_option maxHeartbeats 1000000 in
theorem takeNone_any (w : World) (sb : Nat) (cs : Array Value) (hb : Bk w sb 135 cs) (A : Option Addr) (n c : Nat) (h6 : cs[6]? = some (.slice A n c)) (h7 : cs[7]? = some (.int .i64 n)) :
    Calls Tryz.prog 50 #[.pointer (some ⟨sb, 6, none⟩)] w fun e w' => e = .returned (.tuple #[.pointer none, .bool false]) ∧ ∃ m, w' = w.drewN m := by
  have c6 : w.cell? ⟨sb, 6, none⟩ = some (.slice A n c) := (hb.cell 6).trans h6
  have c7 : w.cell? ⟨sb, 7, none⟩ = some (.int .i64 n) := (hb.cell 7).trans h7
  clear hb h6 h7
  go_enter Tryz.func50, Tryz.ntmps50
  go_wp2
  go_quiet (fail)
  go_wp2
  go_ret2
  exact ⟨rfl, _, rfl⟩

set_option maxRecDepth 100000 in
set_option maxHeartbeats 1000000 in
theorem takeSome_any (w : World) (sb : Nat) (cs : Array Value) (hb : Bk w sb 135 cs) (g n c k : Nat) (hn : n ≤ 100000) (hk : k < n) (h6 : cs[6]? = some (.slice (some ⟨g, 0, none⟩) n c)) (h7 : cs[7]? = some (.int .i64 k)) (v : Value) (hv : w.cell? ⟨g, k, none⟩ = some v) (hg : g ≠ sb) :
    Calls Tryz.prog 50 #[.pointer (some ⟨sb, 6, none⟩)] w fun e w' => e = .returned (.tuple #[v, .bool true]) ∧ Bk w' sb 135 (cs.setIfInBounds 7 (.int .i64 (k + 1))) ∧ Only sb w w' := by
  have c6 : w.cell? ⟨sb, 6, none⟩ = some (.slice (some ⟨g, 0, none⟩) n c) := (hb.cell 6).trans h6
  have c7 : w.cell? ⟨sb, 7, none⟩ = some (.int .i64 k) := (hb.cell 7).trans h7
  have f7 := hb.free 7
  have hne : ((k : Int) == (n : Int)) = false := by simp; omega
  have hki : (k : Int) < (n : Int) := by omega
  have h0i : (0 : Int) ≤ (k : Int) := by omega
  have HS := Lib.hid (hb.set 7 (.int .i64 (k + 1)))
  have HO := Lib.hid (Only.setCell w sb 7 (.int .i64 (k + 1)))
  clear hb h6 h7
  go_enter Tryz.func50, Tryz.ntmps50
  go_wp2
  go_quiet (fail)
  go_wp2
  go_quiet (fail)
  go_wp2
  go_ret2
  exact ⟨rfl, HS.out, ⟨HO.out.os, HO.out.tape, HO.out.output, HO.out.size, HO.out.block⟩⟩
theorem own_ne {w : World} {B n sb : Nat} {T t : TypeId} {qv : Value} {xs : List Value} {cs : Array Value} (h : w.ownsRow B T 1 qv n xs) (hb : Bk w sb t cs) (ht : t ≠ T) : some sb ≠ qv.ownBlock := by
  rcases h.2 with ⟨rfl, _⟩ | ⟨g, cap, cur, rfl, _, hg, _⟩
  · simp [Value.ownBlock]
  · simp only [Value.ownBlock, ne_eq, Option.some.injEq]
    rintro rfl
    have e := hb.symm.trans hg
    simp only [Option.some.injEq, Obj.cells.injEq] at e
    exact ht e.2.1
theorem own_slice {w : World} {B n k : Nat} {T : TypeId} {qv : Value} {xs : List Value} (h : w.ownsRow B T k qv n xs) : ∃ A c, qv = .slice A n c := by
  rcases h.2 with ⟨rfl, rfl⟩ | ⟨g, cap, cur, rfl, _⟩
  · exact ⟨_, _, rfl⟩
  · exact ⟨_, _, rfl⟩
theorem info_rowP : (Tryz.prog.info? 133).map (fun i => (i.zero, i.size, i.bytes)) = some (some (.pointer none), 1, 8) := by kernel_rfl

/-- What put has turned. -/
structure PutTo (w w' : World) (B sb : Nat) (cs : Array Value) (qv qv' : Value) (n : Nat) (xs : List Value) : Prop where
  own : w'.ownsRow B 133 1 qv' n xs
  s : Bk w' sb 135 (cs.setIfInBounds 6 qv')
  os : w'.os = w.os
  tape : w'.tape = w.tape
  output : w'.output = w.output
  size : w.heap.size ≤ w'.heap.size
  block : ∀ k, k < w.heap.size → k ≠ sb → some k ≠ qv.ownBlock → w'.heap[k]? = w.heap[k]?

set_option maxRecDepth 100000 in
set_option maxHeartbeats 1000000 in
theorem qput_any (w : World) (B sb : Nat) (cs : Array Value) (hb : Bk w sb 135 cs) (hB : B ≤ w.heap.size) (qv : Value) (h6 : cs[6]? = some qv) (n : Nat) (xs : List Value) (hown : w.ownsRow B 133 1 qv n xs) (hn : n ≤ 100000) (b : Nat) :
    Calls Tryz.prog 116 #[.pointer (some ⟨sb, 6, none⟩), .pointer (some ⟨b, 0, none⟩)] w fun e w' => e = .returned (.tuple #[]) ∧ ∃ qv', PutTo w w' B sb cs qv qv' (n + 1) (xs ++ [ptr b]) := by
  have c6 : w.cell? ⟨sb, 6, none⟩ = some qv := (hb.cell 6).trans h6
  have hsl := hb.lt
  have hne := own_ne hown hb (by decide)
  obtain ⟨i0, hi, hz0, hz1, hz2⟩ := info_parts info_rowP
  have HB := Lib.hid hb
  clear hb h6
  go_enter Tryz.func116, Tryz.ntmps116
  go_wp2_with (first | (at_builtin; refine wpList_append_own _ rfl _ _ 130 rfl B 133 i0 (.pointer none) 1 8 Tryz.underlying130 hi hz0 hz1 hz2 rfl (by decide) _ _ _ rfl (hown.alloc _) ⟨w.heap.size, 0, none⟩ 1 1 [ptr b] rfl rfl ?c1 ?c2 ?c3 ?c4 ?c5 ?_))
  case c1 => intro j u hj; match j, hj with | 0, hj => simp at hj; subst hj; simp [Addr.add, ptr]
  case c2 => intro u hu; simp at hu; subst hu; rfl
  case c3 => unfold maxLen; omega
  case c4 => omega
  case c5 => simp; omega
  intro v' w1 hown' hgrow _
  have hs1 := hgrow.size
  simp only [World.size_alloc] at hs1
  have hb1 : Bk w1 sb 135 cs := (hgrow.block sb (by simp; omega) hne).trans (HB.out.alloc _)
  have f6 := hb1.free 6
  have hsz : ∃ y, w1.cell? ⟨sb, 6, none⟩ = some y := ⟨qv, by rw [hgrow.cell ((World.cell?_of_block (HB.out.alloc _ |>.trans HB.out.symm)).trans c6) hne]⟩
  obtain ⟨y, hy⟩ := hsz
  obtain ⟨A, c, rfl⟩ := own_slice hown'
  have hne' := own_ne hown' hb1 (by decide)
  have hown2 := hown'.kept (w' := w1.setCell ⟨sb, 6, none⟩ (.slice A (n + 1) c)) (row := some sb) ⟨rfl, rfl, rfl, by simp, fun k hk hk' => Below.heap_setCell w1 _ _ k (fun e => hk' (by rw [e]))⟩ (.inr (Ne.symm hne'))
  have HP := Lib.hid (⟨hown2, hb1.set 6 _, hgrow.os, hgrow.tape, hgrow.output, by simp; omega, fun k hk hk' hk2 => (Below.heap_setCell w1 _ _ k hk').trans ((hgrow.block k (by simp; omega) hk2).trans (Below.heap_alloc w _ k hk))⟩ : PutTo w (w1.setCell ⟨sb, 6, none⟩ (.slice A (n + 1) c)) B sb cs qv (.slice A (n + 1) c) (n + 1) (xs ++ [ptr b]))
  clear hown hown' hown2 hgrow hb1 hne hne'
  go_wp2_with fail
  go_end0
  exact ⟨rfl, _, HP.out⟩
end Go.Proofs.YtogobjmmgjfjjaaGreat
/- What is proved: a contract of engine.search.reach. Conditions: the search lies in memory; the row's state is one of the plant's. -/
namespace Go.Proofs.YtogobjmmgjfjjaaGreat
open Go.RowKit

structure SrX where
  pv : PV
  gA : Option Addr
  gc : Nat
  sb : Nat
  mb : Nat
def searchA (X : SrX) (p : PlantD) (n : Nat) (next : Nat) (full : Bool) (qv fv : Value) : Array Value :=
  #[.slice X.pv.tA p.tanks.length X.pv.tc, .slice X.pv.vA p.valves.length X.pv.vc, .slice X.pv.lA p.lines.length X.pv.lc, .slice X.pv.nA p.never.length X.pv.nc,
    .slice X.gA n X.gc, .map (some X.mb), qv, .int .i64 next, fv, .bool full]
theorem searchA_plant (X : SrX) (p : PlantD) (n next : Nat) (full : Bool) (qv fv : Value) (j : Nat) (u : Value) (h : (plantA X.pv p)[j]? = some u) : (searchA X p n next full qv fv)[j]? = some u := by
  match j, h with
  | 0, h => exact h
  | 1, h => exact h
  | 2, h => exact h
  | 3, h => exact h
  | j + 4, h => simp [plantA] at h

/-- A search lies in memory: all of its own from block B on, the plant and the goal below it. -/
structure SrAt (w : World) (B : Nat) (X : SrX) (p : PlantD) (g : List LitD) (st : Srch) (qv fv : Value) (rb : List Nat) : Prop where
  plant : PlantAt w B X.pv p
  goal : LitsAt w B X.gA g
  s : Bk w X.sb 135 (searchA X p g.length st.next st.full qv fv)
  seen : SetP w X.mb st.seen
  sB : B ≤ X.sb
  mB : B ≤ X.mb
  own : w.ownsRow B 133 1 qv st.rows.length (rb.map ptr)
  rows : ∀ i, i < st.rows.length → ∃ r b, st.rows[i]? = some r ∧ rb[i]? = some b ∧ RowIn w r b ∧ SpotsOk p r.at_
  found : (st.found = none ∧ fv = .pointer none) ∨ ∃ r b, st.found = some r ∧ fv = ptr b ∧ RowIn w r b
  next : st.next ≤ st.rows.length
  few : st.rows.length ≤ st.seen.length ∧ st.seen.length ≤ 20000
def SrIn (w : World) (B : Nat) (X : SrX) (p : PlantD) (g : List LitD) (st : Srch) : Prop := ∃ qv fv rb, SrAt w B X p g st qv fv rb

section
variable {w w' : World} {B : Nat} {X : SrX} {p : PlantD} {g : List LitD} {st : Srch} {qv fv : Value} {rb : List Nat}
theorem SrAt.lt (h : SrAt w B X p g st qv fv rb) : B ≤ w.heap.size := by have := h.s.lt; have := h.sB; omega
theorem SrAt.len (h : SrAt w B X p g st qv fv rb) : rb.length = st.rows.length := by have := h.own.1; simpa using this
theorem SetP.ne_own {l : List Spots} {n : Nat} {T : TypeId} {xs : List Value} {mb : Nat} (h : SetP w mb l) (ho : w.ownsRow B T 1 qv n xs) : some mb ≠ qv.ownBlock := by
  rcases ho.2 with ⟨rfl, _⟩ | ⟨g, cap, cur, rfl, _, hg, _⟩
  · simp [Value.ownBlock]
  · simp only [Value.ownBlock, ne_eq, Option.some.injEq]
    rintro rfl
    obtain ⟨_, arr, c, h1, _⟩ := h
    have e := h1.symm.trans hg
    simp at e
theorem SetP.ne_bk {l : List Spots} {mb sb : Nat} {t : TypeId} {cs : Array Value} (h : SetP w mb l) (hb : Bk w sb t cs) : mb ≠ sb := by
  rintro rfl
  obtain ⟨_, arr, c, h1, _⟩ := h
  have e := h1.symm.trans hb
  simp at e
/-- Where the search's own parts are as they were. -/
theorem SrAt.fr (h : SrAt w B X p g st qv fv rb) (hf : Fr B w w') (hs : Bk w' X.sb 135 (searchA X p g.length st.next st.full qv fv)) (hm : SetP w' X.mb st.seen) (ho : w'.ownsRow B 133 1 qv st.rows.length (rb.map ptr)) :
    SrAt w' B X p g st qv fv rb :=
  ⟨h.plant.below hf.below, Sl.below h.goal hf.below, hs, hm, h.sB, h.mB, ho, fun i hi => by obtain ⟨r, b, h1, h2, h3, h4⟩ := h.rows i hi; exact ⟨r, b, h1, h2, h3.fr hf, h4⟩,
    h.found.imp id fun ⟨r, b, h1, h2, h3⟩ => ⟨r, b, h1, h2, h3.fr hf⟩, h.next, h.few⟩
theorem SrAt.below (h : SrAt w B X p g st qv fv rb) (hb : Below w.heap.size w w') : SrAt w' B X p g st qv fv rb :=
  h.fr (Fr.of_below hb h.lt) (h.s.below hb h.s.lt) (h.seen.keep (hb.block _ h.seen.lt)) (h.own.kept (row := none) ⟨hb.os, hb.tape, hb.output, hb.size, fun k hk _ => hb.block k hk⟩ (by cases hq : qv.ownBlock <;> simp))
theorem own_kept_only {n sb : Nat} {T t : TypeId} {xs : List Value} {cs : Array Value} (ho : w.ownsRow B T 1 qv n xs) (hb : Bk w sb t cs) (ht : t ≠ T) (hO : Only sb w w') : w'.ownsRow B T 1 qv n xs :=
  ho.kept (row := some sb) ⟨hO.os, hO.tape, hO.output, by rw [hO.size]; exact Nat.le_refl _, fun k _ hk => hO.block k (fun e => hk (by rw [e]))⟩ (.inr (Ne.symm (own_ne ho hb ht)))
theorem SrAt.frOnly (h : SrAt w B X p g st qv fv rb) (hO : Only X.sb w w') : Fr B w w' := Fr.of_only hO h.sB h.s (.inl rfl)
/-- The search's own block was written. -/
theorem SrAt.store (h : SrAt w B X p g st qv fv rb) (hO : Only X.sb w w') (nx : Nat) (fl : Bool) (fd : Option RowC) (fv' : Value) (hs : Bk w' X.sb 135 (searchA X p g.length nx fl qv fv'))
    (hn : nx ≤ st.rows.length) (hfd : (fd = none ∧ fv' = .pointer none) ∨ ∃ r b, fd = some r ∧ fv' = ptr b ∧ RowIn w r b) : SrAt w' B X p g { st with next := nx, full := fl, found := fd } qv fv' rb :=
  have hf := h.frOnly hO
  ⟨h.plant.below hf.below, Sl.below h.goal hf.below, hs, h.seen.keep (hO.block _ (h.seen.ne_bk h.s)), h.sB, h.mB, own_kept_only h.own h.s (by decide) hO,
    fun i hi => by obtain ⟨r, b, h1, h2, h3, h4⟩ := h.rows i hi; exact ⟨r, b, h1, h2, h3.fr hf, h4⟩,
    hfd.imp id fun ⟨r, b, h1, h2, h3⟩ => ⟨r, b, h1, h2, h3.fr hf⟩, hn, h.few⟩
/-- A state was added to those that are seen. -/
theorem SrAt.see (h : SrAt w B X p g st qv fv rb) {w0 : World} (hb : Below w.heap.size w w0) (hO : Only X.mb w0 w') (s : Spots) (hm : SetP w' X.mb (st.seen ++ [s])) (hl : st.seen.length ≠ 20000) :
    SrAt w' B X p g { st with seen := st.seen ++ [s] } qv fv rb ∧ Fr B w w' := by
  have h0 := h.below hb
  obtain ⟨_, arr, c, hh, _⟩ := h0.seen
  have hf : Fr B w0 w' := Fr.of_map hO h.mB hh
  refine ⟨⟨h0.plant.below hf.below, Sl.below h0.goal hf.below, h0.s.only hO (Ne.symm (h0.seen.ne_bk h0.s)), hm, h.sB, h.mB,
    h0.own.kept (row := some X.mb) ⟨hO.os, hO.tape, hO.output, by rw [hO.size]; exact Nat.le_refl _, fun k _ hk => hO.block k (fun e => hk (by rw [e]))⟩ (.inr (Ne.symm (h0.seen.ne_own h0.own))),
    fun i hi => by obtain ⟨r, b, h1, h2, h3, h4⟩ := h0.rows i hi; exact ⟨r, b, h1, h2, h3.fr hf, h4⟩,
    h0.found.imp id fun ⟨r, b, h1, h2, h3⟩ => ⟨r, b, h1, h2, h3.fr hf⟩, h0.next, ?_⟩, (Fr.of_below hb h.lt).trans hf⟩
  have := h.few
  simp only [List.length_append, List.length_cons, List.length_nil]
  omega
/-- A row was put behind the others. -/
theorem SrAt.put (h : SrAt w B X p g st qv fv rb) {qv' : Value} {b : Nat} (hp : PutTo w w' B X.sb (searchA X p g.length st.next st.full qv fv) qv qv' (st.rows.length + 1) (rb.map ptr ++ [ptr b])) (r : RowC) (hr : RowIn w r b) (hs : SpotsOk p r.at_)
    (hl : st.rows.length < st.seen.length) : SrAt w' B X p g { st with rows := st.rows ++ [r] } qv' fv (rb ++ [b]) ∧ Fr B w w' := by
  have hne := own_ne h.own h.s (by decide)
  have hbelow : Below B w w' := ⟨hp.os, hp.tape, hp.output, hp.size, fun k hk => hp.block k (by have := h.lt; omega) (by have := h.sB; omega) (by
    rcases h.own.2 with ⟨rfl, _⟩ | ⟨gg, cap, cur, rfl, hB, _⟩
    · simp [Value.ownBlock]
    · simp only [Value.ownBlock, ne_eq, Option.some.injEq]; omega)⟩
  have hf : Fr B w w' := ⟨hbelow, fun k cs t ht hu hk => by
    have e1 : k ≠ X.sb := by
      rintro rfl
      have e := hk.symm.trans h.s
      simp only [Option.some.injEq, Obj.cells.injEq] at e
      exact ht e.2.1
    exact (hp.block k hk.lt e1 (own_ne h.own hk hu)).trans hk⟩
  refine ⟨⟨h.plant.below hf.below, Sl.below h.goal hf.below, hp.s, h.seen.keep (hp.block _ h.seen.lt (h.seen.ne_bk h.s) (h.seen.ne_own h.own)), h.sB, h.mB, ?_, ?_,
    h.found.imp id fun ⟨r, b, h1, h2, h3⟩ => ⟨r, b, h1, h2, h3.fr hf⟩, ?_, ?_⟩, hf⟩
  · have := hp.own
    simpa using this
  · intro i hi
    simp only [List.length_append, List.length_cons, List.length_nil] at hi
    have hlen := h.len
    by_cases hlt : i < st.rows.length
    · obtain ⟨r', b', h1, h2, h3, h4⟩ := h.rows i hlt
      exact ⟨r', b', by simp only [List.getElem?_append_left hlt]; exact h1, by rw [List.getElem?_append_left (by omega)]; exact h2, h3.fr hf, h4⟩
    · obtain rfl : i = st.rows.length := by omega
      exact ⟨r, b, by simp, by rw [← hlen]; simp, hr.fr hf, hs⟩
  · have := h.next
    simp only [List.length_append, List.length_cons, List.length_nil]; omega
  · have := h.few
    simp only [List.length_append, List.length_cons, List.length_nil]; omega
end

theorem SetP.size {w : World} {b : Nat} {l : List Spots} (h : SetP w b l) (ty : TypeId) : (Builtin.len_ #[129] ty #[.map (some b)]).run Tryz.prog w = .ok (.int .i64 l.length) w := by
  obtain ⟨_, arr, clock, h1, h2⟩ := h
  have ht : Tryz.prog.underlying 129 = some (.map 105 4) := by kernel_rfl
  have e : arr.size = l.length := by have := congrArg List.length h2; simpa using this
  simp [Builtin.len_, run_underlying ht, run_getObj_map1 h1, goInt, Result.andThen, e]
theorem wpLenMap {P : Program} {ops : Array Oper} {rest : List Oper} {o : Oper} {a : Act} {w : World} {Q : Exit → Act → World → Prop} (hgd : o.guard = none) (x : Operand) (t : TypeId) (ho : o.op = .call { callee := .builtin .len, args := #[x], argTypes := #[t] })
    (v : Value) (hx : a.eval x = v) (n : Value) (hr : ∀ ty, (Builtin.len_ #[t] ty #[v]).run P w = .ok n w) (h : wpList P ops Q rest (a.put o.dst n) w) : wpList P ops Q (o :: rest) a w :=
  wpList_plain hgd fun _ hK => by
    unfold Oper.wp execOp
    simp only [ho, resolve, invoke, builtin, Sem.run_bind, Sem.run_pure, Result.andThen_ok, List.map_toArray, List.map_cons, List.map_nil, hx, hr]
    exact hK _ _ h

set_option maxRecDepth 100000 in
set_option maxHeartbeats 4000000 in
theorem reach_any (w : World) (B : Nat) (X : SrX) (p : PlantD) (g : List LitD) (st : Srch) (h0 : SrIn w B X p g st) (hv : ValvesOk p) (hG : GoalOk p g) (r : RowC) (b : Nat) (hr : RowIn w r b) (hs : SpotsOk p r.at_) :
    Calls Tryz.prog 48 #[.pointer (some ⟨X.sb, 0, none⟩), .pointer (some ⟨b, 0, none⟩)] w
      fun e w' => e = .returned (.bool (reachS p g st r).1) ∧ SrIn w' B X p g (reachS p g st r).2 ∧ Fr B w w' := by
  obtain ⟨qv, fv, rb, h⟩ := h0
  have HP : Hid (PlacesOk r.at_) := Lib.hid (hs.places hv)
  have HR0 := Lib.hid hr
  have HSO := Lib.hid hs
  have HS0 := Lib.hid h
  obtain ⟨fb, ob, hrow⟩ := hr.bk
  have HC : Hid (∀ w1, Below w.heap.size w w1 → w1.cell? ⟨X.sb, 5, none⟩ = some (.map (some X.mb))) := Lib.hid fun w1 hw1 => (h.s.below hw1 h.s.lt).cell 5
  have HL : Hid (∀ w1, Below w.heap.size w w1 → SetP w1 X.mb st.seen) := Lib.hid fun w1 hw1 => h.seen.keep (hw1.block _ h.seen.lt)
  have HR : Hid (∀ w1, Below w.heap.size w w1 → ∀ j u, (spotsA r.at_)[j]? = some u → w1.cell? ⟨b, 0 + j, none⟩ = some u) := Lib.hid fun w1 hw1 j u hj => by rw [Nat.zero_add]; exact ((hrow.below hw1 hrow.lt).cell j).trans (rowA_at _ _ _ j u hj)
  clear h hr hrow hs
  go_enter Tryz.func48, Tryz.ntmps48
  go_wp2_with fail
  refine wp_region_steps (by kernel_rfl) (by kernel_rfl) (fun w1 => Below w.heap.size w w1) (fun _ _ _ => True)
    (fun ix u _ _ => match ix with
      | 0 => u = .pointer (some ⟨X.sb, 0, none⟩)
      | 1 => u = .pointer (some ⟨X.sb, 0, none⟩)
      | 2 => u = .pointer (some ⟨X.sb, 5, none⟩)
      | 3 => u = .map (some X.mb)
      | 4 => u = .pointer (some ⟨b, 0, none⟩)
      | 5 => u = .pointer (some ⟨b, 0, none⟩)
      | 6 => u = .pointer (some ⟨b, 0, none⟩)
      | 7 => u = .agg (spotsA r.at_)
      | _ => u = .bool (inSet st.seen r.at_)) (Below.refl _ _).drew (fun _ _ _ _ _ _ _ _ h _ _ => h) ?_ ?_
  · refine ⟨?_, ?_, ?_, ?_, ?_, ?_, ?_, ?_, ?_, trivial⟩
    · intro a w1 vs K HJ HK HD HN k
      have e0 := HK 0 (by decide)
      go_simp; exact k _ _ (by simp) HJ trivial rfl
    · intro a w1 vs K HJ HK HD HN k
      have e5 := (HD 0 _ 5 rfl rfl rfl).1.trans (HD 0 _ 5 rfl rfl rfl).2
      go_simp; exact k _ _ (by simp) HJ trivial rfl
    · intro a w1 vs K HJ HK HD HN k
      have e6 := (HD 1 _ 6 rfl rfl rfl).1.trans (HD 1 _ 6 rfl rfl rfl).2
      go_simp; exact k _ _ (by simp) HJ trivial rfl
    · intro a w1 vs K HJ HK HD HN k
      have e7 := (HD 2 _ 7 rfl rfl rfl).1.trans (HD 2 _ 7 rfl rfl rfl).2
      have c := HC.out w1 HJ
      go_simp; exact k _ _ (by simp) HJ trivial rfl
    · intro a w1 vs K HJ HK HD HN k
      have e1 := HK 1 (by decide)
      go_simp; exact k _ _ (by simp) HJ trivial rfl
    · intro a w1 vs K HJ HK HD HN k
      have e9 := (HD 4 _ 9 rfl rfl rfl).1.trans (HD 4 _ 9 rfl rfl rfl).2
      go_simp; exact k _ _ (by simp) HJ trivial rfl
    · intro a w1 vs K HJ HK HD HN k
      have e10 := (HD 5 _ 10 rfl rfl rfl).1.trans (HD 5 _ 10 rfl rfl rfl).2
      go_simp; exact k _ _ (by simp) HJ trivial rfl
    · intro a w1 vs K HJ HK HD HN k
      have e11 := (HD 6 _ 11 rfl rfl rfl).1.trans (HD 6 _ 11 rfl rfl rfl).2
      exact wpo_loadS 105 (.tmp 11) rfl b 0 (by simpa [Act.eval] using e11) (spotsA r.at_) _ (HR.out w1 HJ) und_spots rfl (info_spots_s _) (k _ _ (by simp) HJ trivial rfl)
    · intro a w1 vs K HJ HK HD HN k
      have e8 := (HD 3 _ 8 rfl rfl rfl).1.trans (HD 3 _ 8 rfl rfl rfl).2
      have e12 := (HD 7 _ 12 rfl rfl rfl).1.trans (HD 7 _ 12 rfl rfl rfl).2
      have c := (HL.out w1 HJ).lookup r.at_ HP.out; go_simp; exact k _ _ (by simp) HJ trivial rfl
  intro vs wa hw1 hrr
  have h8 : vs 8 = _ := hrr 8 _ rfl
  clear hrr
  simp only [putAll, Act.put, h8]
  clear h8
  have hs1 := HS0.out.below hw1
  have HF1 := Lib.hid (Fr.of_below (B := B) hw1 HS0.out.lt)
  have hr1 := HR0.out.fr (B := B) HF1.out
  clear hw1 HC HL HR HS0 HR0
  cases hin : inSet st.seen r.at_ with
  | true =>
    have Hf := Lib.hid (show reachS p g st r = (true, st) by unfold reachS; rw [if_pos hin])
    have HS1 := Lib.hid hs1
    clear hin hs1 hr1
    go_simp
    go_wp2_with fail
    go_ret
    rw [Hf.out]
    exact ⟨rfl, ⟨qv, fv, rb, HS1.out⟩, HF1.out⟩
  | false =>
    have c5 : wa.cell? ⟨X.sb, 5, none⟩ = some (.map (some X.mb)) := hs1.s.cell 5
    have HLen := Lib.hid hs1.seen.size
    by_cases hl : st.seen.length = 20000
    · have Hf := Lib.hid (show reachS p g st r = (false, { st with full := true }) by unfold reachS; rw [if_neg (by rw [hin]; decide), if_pos hl])
      have c9 : wa.cell? ⟨X.sb, 9, none⟩ = some (.bool st.full) := hs1.s.cell 9
      have f9 := hs1.s.free 9
      have HT := Lib.hid (hs1.s.set 9 (.bool true))
      have HO := Lib.hid (Only.setCell wa X.sb 9 (.bool true))
      have hq : ((st.seen.length : Int) == 20000) = true := by rw [hl]; rfl
      have HS1 := Lib.hid hs1
      clear hin hs1 hr1 hl
      go_simp
      go_wp2_with (first | (refine wpLenMap rfl (.tmp 17) 129 rfl _ rfl _ HLen.out ?_))
      go_ret
      rw [Hf.out]
      exact ⟨rfl, ⟨qv, fv, rb, HS1.out.store HO.out st.next true st.found fv HT.out HS1.out.next HS1.out.found⟩, HF1.out.trans (HS1.out.frOnly HO.out)⟩
    · have hq : ((st.seen.length : Int) == 20000) = false := by simp; omega
      have HI : Hid (inSet st.seen r.at_ = false) := Lib.hid hin
      have HS1 := Lib.hid hs1
      have HN := Lib.hid hl
      have Hf := Lib.hid (show reachS p g st r = if reachedB p r.at_ g then (false, { st with seen := st.seen ++ [r.at_], found := some r }) else (true, { st with seen := st.seen ++ [r.at_], rows := st.rows ++ [r] }) by unfold reachS; rw [if_neg (by rw [hin]; decide), if_neg hl])
      have HR1 := Lib.hid hr1
      obtain ⟨fb1, ob1, hrow⟩ := hr1.bk
      have HC : Hid (∀ w1, Below wa.heap.size wa w1 → w1.cell? ⟨X.sb, 5, none⟩ = some (.map (some X.mb))) := Lib.hid fun w1 hw1 => (hs1.s.below hw1 hs1.s.lt).cell 5
      have HL : Hid (∀ w1, Below wa.heap.size wa w1 → SetP w1 X.mb st.seen) := Lib.hid fun w1 hw1 => hs1.seen.keep (hw1.block _ hs1.seen.lt)
      have HR : Hid (∀ w1, Below wa.heap.size wa w1 → ∀ j u, (spotsA r.at_)[j]? = some u → w1.cell? ⟨b, 0 + j, none⟩ = some u) := Lib.hid fun w1 hw1 j u hj => by rw [Nat.zero_add]; exact ((hrow.below hw1 hrow.lt).cell j).trans (rowA_at _ _ _ j u hj)
      clear hin hs1 hr1 hl hrow
      go_simp
      go_wp2_with (first | (refine wpLenMap rfl (.tmp 17) 129 rfl _ rfl _ HLen.out ?_))
      clear c5 HLen hq
      refine wp_region_stepsM (by kernel_rfl) (by kernel_rfl) 8 (by decide) (fun bq w1 => if bq = true then ∃ w0, Below wa.heap.size wa w0 ∧ SetP w1 X.mb (st.seen ++ [r.at_]) ∧ Only X.mb w0 w1 else Below wa.heap.size wa w1) (fun _ _ _ => True)
        (fun ix u _ _ => match ix with
          | 0 => u = .pointer (some ⟨X.sb, 0, none⟩)
          | 1 => u = .pointer (some ⟨X.sb, 0, none⟩)
          | 2 => u = .pointer (some ⟨X.sb, 5, none⟩)
          | 3 => u = .map (some X.mb)
          | 4 => u = .pointer (some ⟨b, 0, none⟩)
          | 5 => u = .pointer (some ⟨b, 0, none⟩)
          | 6 => u = .pointer (some ⟨b, 0, none⟩)
          | 7 => u = .agg (spotsA r.at_)
          | _ => True) (Below.refl _ _).drew (fun _ _ _ _ _ _ _ _ h _ => h) ?_ ?_
      · refine ⟨?_, ?_, ?_, ?_, ?_, ?_, ?_, ?_, ?_, trivial⟩
        · intro a w1 vs K bq Hb HJ HK HD HN k
          obtain rfl : bq = false := by cases bq with | false => rfl | true => exact absurd (Hb rfl).2 (by decide)
          have HJ' : Below wa.heap.size wa w1 := HJ
          have e0 := HK 0 (by decide)
          go_simp; exact k _ _ (by simp) HJ trivial rfl
        · intro a w1 vs K bq Hb HJ HK HD HN k
          obtain rfl : bq = false := by cases bq with | false => rfl | true => exact absurd (Hb rfl).2 (by decide)
          have HJ' : Below wa.heap.size wa w1 := HJ
          have e23 := (HD 0 _ 23 rfl rfl rfl).1.trans (HD 0 _ 23 rfl rfl rfl).2
          go_simp; exact k _ _ (by simp) HJ trivial rfl
        · intro a w1 vs K bq Hb HJ HK HD HN k
          obtain rfl : bq = false := by cases bq with | false => rfl | true => exact absurd (Hb rfl).2 (by decide)
          have HJ' : Below wa.heap.size wa w1 := HJ
          have e24 := (HD 1 _ 24 rfl rfl rfl).1.trans (HD 1 _ 24 rfl rfl rfl).2
          go_simp; exact k _ _ (by simp) HJ trivial rfl
        · intro a w1 vs K bq Hb HJ HK HD HN k
          obtain rfl : bq = false := by cases bq with | false => rfl | true => exact absurd (Hb rfl).2 (by decide)
          have HJ' : Below wa.heap.size wa w1 := HJ
          have e25 := (HD 2 _ 25 rfl rfl rfl).1.trans (HD 2 _ 25 rfl rfl rfl).2
          have c := HC.out w1 HJ'
          go_simp; exact k _ _ (by simp) HJ trivial rfl
        · intro a w1 vs K bq Hb HJ HK HD HN k
          obtain rfl : bq = false := by cases bq with | false => rfl | true => exact absurd (Hb rfl).2 (by decide)
          have HJ' : Below wa.heap.size wa w1 := HJ
          have e1 := HK 1 (by decide)
          go_simp; exact k _ _ (by simp) HJ trivial rfl
        · intro a w1 vs K bq Hb HJ HK HD HN k
          obtain rfl : bq = false := by cases bq with | false => rfl | true => exact absurd (Hb rfl).2 (by decide)
          have HJ' : Below wa.heap.size wa w1 := HJ
          have e27 := (HD 4 _ 27 rfl rfl rfl).1.trans (HD 4 _ 27 rfl rfl rfl).2
          go_simp; exact k _ _ (by simp) HJ trivial rfl
        · intro a w1 vs K bq Hb HJ HK HD HN k
          obtain rfl : bq = false := by cases bq with | false => rfl | true => exact absurd (Hb rfl).2 (by decide)
          have HJ' : Below wa.heap.size wa w1 := HJ
          have e28 := (HD 5 _ 28 rfl rfl rfl).1.trans (HD 5 _ 28 rfl rfl rfl).2
          go_simp; exact k _ _ (by simp) HJ trivial rfl
        · intro a w1 vs K bq Hb HJ HK HD HN k
          obtain rfl : bq = false := by cases bq with | false => rfl | true => exact absurd (Hb rfl).2 (by decide)
          have HJ' : Below wa.heap.size wa w1 := HJ
          have e29 := (HD 6 _ 29 rfl rfl rfl).1.trans (HD 6 _ 29 rfl rfl rfl).2
          exact wpo_loadS 105 (.tmp 29) rfl b 0 (by simpa [Act.eval] using e29) (spotsA r.at_) _ (HR.out w1 HJ') und_spots rfl (info_spots_s _) (k _ _ (by simp) HJ trivial rfl)
        · intro a w1 vs K bq Hb HJ HK HD HN k
          obtain rfl : bq = false := by cases bq with | false => rfl | true => exact absurd rfl (Hb rfl).1
          have HJ' : Below wa.heap.size wa w1 := HJ
          have e26 := (HD 3 _ 26 rfl rfl rfl).1.trans (HD 3 _ 26 rfl rfl rfl).2
          have e30 := (HD 7 _ 30 rfl rfl rfl).1.trans (HD 7 _ 30 rfl rfl rfl).2
          obtain ⟨w2, u1, u2, u3⟩ := (HL.out w1 HJ').update r.at_ HP.out HI.out; clear HC HL HR HP HI; go_simp; exact k undef _ (by simp) ⟨w1, HJ', u2, u3⟩ trivial trivial
      intro vs wb hwb hrr
      clear hrr HC HL HR
      obtain ⟨w0, hw0, hm, hO⟩ : ∃ w0, Below wa.heap.size wa w0 ∧ SetP wb X.mb (st.seen ++ [r.at_]) ∧ Only X.mb w0 wb := hwb
      obtain ⟨hs2, hf2⟩ := HS1.out.see hw0 hO r.at_ hm HN.out
      have hr2 := HR1.out.fr hf2
      have HF2 := Lib.hid (HF1.out.trans hf2)
      have HN2 : Hid (st.rows.length < (st.seen ++ [r.at_]).length) := Lib.hid (by have := HS1.out.few; simp only [List.length_append, List.length_cons, List.length_nil]; omega)
      clear hw0 hm hO hf2 HF1 HS1 HR1 HN
      obtain ⟨fb2, ob2, hrow⟩ := hr2.bk
      have HC : Hid (∀ w1, Below wb.heap.size wb w1 → w1.cell? ⟨X.sb, 4, none⟩ = some (.slice X.gA g.length X.gc)) := Lib.hid fun w1 hw1 => (hs2.s.below hw1 hs2.s.lt).cell 4
      have HPl : Hid (∀ w1, Below wb.heap.size wb w1 → ∀ j u, (plantA X.pv p)[j]? = some u → w1.cell? ⟨X.sb, 0 + j, none⟩ = some u) := Lib.hid fun w1 hw1 j u hj => by rw [Nat.zero_add]; exact ((hs2.s.below hw1 hs2.s.lt).cell j).trans (searchA_plant _ _ _ _ _ _ _ j u hj)
      have HR : Hid (∀ w1, Below wb.heap.size wb w1 → ∀ j u, (spotsA r.at_)[j]? = some u → w1.cell? ⟨b, 0 + j, none⟩ = some u) := Lib.hid fun w1 hw1 j u hj => by rw [Nat.zero_add]; exact ((hrow.below hw1 hrow.lt).cell j).trans (rowA_at _ _ _ j u hj)
      have HH : Hid (∀ w1, Below wb.heap.size wb w1 → Calls Tryz.prog 115 #[.agg (plantA X.pv p), .agg (spotsA r.at_), .slice X.gA g.length X.gc] w1 fun e w' => e = .returned (.bool (reachedB p r.at_ g)) ∧ Below w1.heap.size w1 w') := Lib.hid fun w1 hw1 => by
        have h3 := hs2.below hw1
        exact reached_any w1 X.pv p (h3.plant.mono h3.lt) r.at_ HP.out hv.1 X.gA X.gc g (h3.goal.mono h3.lt) hG
      have HS2 := Lib.hid hs2
      have HR2 := Lib.hid hr2
      clear hs2 hr2 hrow HI
      simp only [putAll, Act.put]
      go_wp2_with fail
      refine wp_region_steps (by kernel_rfl) (by kernel_rfl) (fun w1 => Below wb.heap.size wb w1) (fun _ _ _ => True)
        (fun ix u _ _ => match ix with
          | 0 => u = .pointer (some ⟨X.sb, 0, none⟩)
          | 1 => u = .pointer (some ⟨X.sb, 0, none⟩)
          | 2 => u = .pointer (some ⟨X.sb, 0, none⟩)
          | 3 => u = .agg (plantA X.pv p)
          | 4 => u = .pointer (some ⟨b, 0, none⟩)
          | 5 => u = .pointer (some ⟨b, 0, none⟩)
          | 6 => u = .pointer (some ⟨b, 0, none⟩)
          | 7 => u = .agg (spotsA r.at_)
          | 8 => u = .pointer (some ⟨X.sb, 0, none⟩)
          | 9 => u = .pointer (some ⟨X.sb, 0, none⟩)
          | 10 => u = .pointer (some ⟨X.sb, 4, none⟩)
          | 11 => u = .slice X.gA g.length X.gc
          | _ => u = .bool (reachedB p r.at_ g)) (Below.refl _ _).drew (fun _ _ _ _ _ _ _ _ h _ _ => h) ?_ ?_
      · refine ⟨?_, ?_, ?_, ?_, ?_, ?_, ?_, ?_, ?_, ?_, ?_, ?_, ?_, trivial⟩
        · intro a w1 vs K HJ HK HD HN k
          have e0 := HK 0 (by decide)
          go_simp; exact k _ _ (by simp) HJ trivial rfl
        · intro a w1 vs K HJ HK HD HN k
          have e31 := (HD 0 _ 31 rfl rfl rfl).1.trans (HD 0 _ 31 rfl rfl rfl).2
          go_simp; exact k _ _ (by simp) HJ trivial rfl
        · intro a w1 vs K HJ HK HD HN k
          have e32 := (HD 1 _ 32 rfl rfl rfl).1.trans (HD 1 _ 32 rfl rfl rfl).2
          go_simp; exact k _ _ (by simp) HJ trivial rfl
        · intro a w1 vs K HJ HK HD HN k
          have e33 := (HD 2 _ 33 rfl rfl rfl).1.trans (HD 2 _ 33 rfl rfl rfl).2
          exact wpo_loadS 27 (.tmp 33) rfl X.sb 0 (by simpa [Act.eval] using e33) (plantA X.pv p) _ (HPl.out w1 HJ) und_plant rfl info_plant (k _ _ (by simp) HJ trivial rfl)
        · intro a w1 vs K HJ HK HD HN k
          have e1 := HK 1 (by decide)
          go_simp; exact k _ _ (by simp) HJ trivial rfl
        · intro a w1 vs K HJ HK HD HN k
          have e35 := (HD 4 _ 35 rfl rfl rfl).1.trans (HD 4 _ 35 rfl rfl rfl).2
          go_simp; exact k _ _ (by simp) HJ trivial rfl
        · intro a w1 vs K HJ HK HD HN k
          have e36 := (HD 5 _ 36 rfl rfl rfl).1.trans (HD 5 _ 36 rfl rfl rfl).2
          go_simp; exact k _ _ (by simp) HJ trivial rfl
        · intro a w1 vs K HJ HK HD HN k
          have e37 := (HD 6 _ 37 rfl rfl rfl).1.trans (HD 6 _ 37 rfl rfl rfl).2
          exact wpo_loadS 105 (.tmp 37) rfl b 0 (by simpa [Act.eval] using e37) (spotsA r.at_) _ (HR.out w1 HJ) und_spots rfl (info_spots_s _) (k _ _ (by simp) HJ trivial rfl)
        · intro a w1 vs K HJ HK HD HN k
          have e0 := HK 0 (by decide)
          go_simp; exact k _ _ (by simp) HJ trivial rfl
        · intro a w1 vs K HJ HK HD HN k
          have e39 := (HD 8 _ 39 rfl rfl rfl).1.trans (HD 8 _ 39 rfl rfl rfl).2
          go_simp; exact k _ _ (by simp) HJ trivial rfl
        · intro a w1 vs K HJ HK HD HN k
          have e40 := (HD 9 _ 40 rfl rfl rfl).1.trans (HD 9 _ 40 rfl rfl rfl).2
          go_simp; exact k _ _ (by simp) HJ trivial rfl
        · intro a w1 vs K HJ HK HD HN k
          have e41 := (HD 10 _ 41 rfl rfl rfl).1.trans (HD 10 _ 41 rfl rfl rfl).2
          have c := HC.out w1 HJ
          go_simp; exact k _ _ (by simp) HJ trivial rfl
        · intro a w1 vs K HJ HK HD HN k
          have e34 := (HD 3 _ 34 rfl rfl rfl).1.trans (HD 3 _ 34 rfl rfl rfl).2
          have e38 := (HD 7 _ 38 rfl rfl rfl).1.trans (HD 7 _ 38 rfl rfl rfl).2
          have e42 := (HD 11 _ 42 rfl rfl rfl).1.trans (HD 11 _ 42 rfl rfl rfl).2
          exact wpo_call 115 _ _ rfl #[.agg (plantA X.pv p), .agg (spotsA r.at_), .slice X.gA g.length X.gc] (by simp [Act.eval, e34, e38, e42]) (fun args w => by kernel_rfl)
            ((HH.out w1 HJ).mono fun e w' ⟨he, hb⟩ => ⟨_, he, k _ _ (by simp) (Below.trans HJ (hb.mono HJ.size)) trivial rfl⟩)
      intro vs wc hwc hrr
      have h12 : vs 12 = _ := hrr 12 _ rfl
      clear hrr
      simp only [putAll, Act.put, h12]
      have hs3 := HS2.out.below hwc
      have hf3 := Fr.of_below (B := B) hwc HS2.out.lt
      have hr3 := HR2.out.fr hf3
      have HF3 := Lib.hid (HF2.out.trans hf3)
      clear hwc h12 HC HPl HR HH HS2 HR2 hf3 HF2
      cases hq : reachedB p r.at_ g with
      | true =>
        rw [hq] at Hf
        have c8 : wc.cell? ⟨X.sb, 8, none⟩ = some fv := hs3.s.cell 8
        have f8 := hs3.s.free 8
        have HT := Lib.hid (hs3.s.set 8 (ptr b))
        have HO := Lib.hid (Only.setCell wc X.sb 8 (ptr b))
        have HS3 := Lib.hid hs3
        have HR3 := Lib.hid hr3
        clear hs3 hr3 hq
        go_simp
        go_wp2_with fail
        go_ret
        rw [Hf.out]
        exact ⟨rfl, ⟨qv, ptr b, rb, HS3.out.store HO.out st.next st.full (some r) (ptr b) HT.out HS3.out.next (.inr ⟨r, b, rfl, rfl, HR3.out⟩)⟩, HF3.out.trans (HS3.out.frOnly HO.out)⟩
      | false =>
        rw [hq] at Hf
        have HS3 := Lib.hid hs3
        have HR3 := Lib.hid hr3
        have HQ := Lib.hid (qput_any wc B X.sb _ hs3.s hs3.lt qv rfl _ _ hs3.own (by have := hs3.few; have := hs3.next; simp only at *; omega) b)
        clear hs3 hr3 hq
        go_simp
        go_wp2_with fail
        refine HQ.out.mono ?_
        rintro e w' ⟨rfl, qv', hput⟩
        obtain ⟨hs4, hf4⟩ := HS3.out.put hput r HR3.out HSO.out HN2.out
        have HS4 := Lib.hid hs4
        have HF4 := Lib.hid hf4
        clear hput hs4 hf4
        go_wp2_with fail
        go_ret
        rw [Hf.out]
        exact ⟨rfl, ⟨qv', fv, rb ++ [b], HS4.out⟩, HF3.out.trans HF4.out⟩
end Go.Proofs.YtogobjmmgjfjjaaGreat
