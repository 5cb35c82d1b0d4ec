/- What is proved: a contract of engine.copied. Conditions: the plant lies in memory; it is valid. -/
import Derived.Test.YtogobjmmgjfjjaaF1
import Derived.Test.YtogobjmmgjfjjaaE5
namespace Go.Proofs.Ytogobjmmgjfjjaa
open Go.RowKit

theorem Bk.ne {w : World} {g g' t t' : Nat} {c c' : Array Value} (h1 : Bk w g t c) (h2 : Bk w g' t' c') (hne : t ≠ t') : g ≠ g' := by
  intro e
  subst e
  unfold Bk at h1 h2
  rw [h1] at h2
  injection h2 with h2
  injection h2 with _ h3 _
  exact hne h3
theorem Cl.only {w w' : World} {B k n g : Nat} {T T' : TypeId} {A : Option Addr} {f : Nat → Nat → Value} {cs : Array Value} (h : Cl w B T k A n f) (ho : Only g w w') (hb : Bk w g T' cs) (hne : T ≠ T') : Cl w' B T k A n f :=
  ⟨h.1, fun hn => by obtain ⟨g', cur, e, h1, h2, h3⟩ := h.2 hn; exact ⟨g', cur, e, h1, h2.only ho (h2.ne hb hne), h3⟩⟩
theorem Cl.keep {w w' : World} {B k n : Nat} {T : TypeId} {A : Option Addr} {f : Nat → Nat → Value} (h : Cl w B T k A n f) (ho : ∀ b, B ≤ b → b < w.heap.size → w'.heap[b]? = w.heap[b]?) : Cl w' B T k A n f :=
  ⟨h.1, fun hn => by obtain ⟨g', cur, e, h1, h2, h3⟩ := h.2 hn; exact ⟨g', cur, e, h1, (ho _ h1 h2.lt).trans h2, h3⟩⟩
theorem Cl.mono {w : World} {B B' k n : Nat} {T : TypeId} {A : Option Addr} {f : Nat → Nat → Value} (h : Cl w B T k A n f) (hb : B' ≤ B) : Cl w B' T k A n f :=
  ⟨h.1, fun hn => by obtain ⟨g', cur, e, h1, h2, h3⟩ := h.2 hn; exact ⟨g', cur, e, Nat.le_trans hb h1, h2, h3⟩⟩
theorem Cl.slD {w : World} {B k n : Nat} {T : TypeId} {A : Option Addr} {f : Nat → Nat → Value} {D : Nat → Prop} (h : Cl w B T k A n f) (hD : ∀ b, B ≤ b → b < w.heap.size → D b) : SlD w D k A n f :=
  ⟨by have := h.1; omega, fun hn => by
    obtain ⟨g, cur, e, h1, hb, hc⟩ := h.2 hn
    exact ⟨g, 0, e, hD g h1 hb.lt, fun i hi j hj => by rw [Nat.zero_add, hb.cell]; exact hc i hi j hj⟩⟩

theorem tankC_one (t : TankD) (j : Nat) : (tankC t j).oneCell' = true := by match j with | 0 => rfl | 1 => rfl | 2 => rfl | n + 3 => rfl
theorem valveC_one (t : ValveD) (j : Nat) : (valveC t j).oneCell' = true := by match j with | 0 => rfl | 1 => rfl | n + 2 => rfl
theorem litC_one (t : LitD) (j : Nat) : (litC t j).oneCell' = true := by match j with | 0 => rfl | n + 1 => rfl
theorem lineC_one (A : Option Addr) (c : Nat) (t : LineD) (j : Nat) : (lineC A c t j).oneCell' = true := by match j with | 0 => rfl | 1 => rfl | 2 => rfl | 3 => rfl | n + 4 => rfl

/-- The four cells of a plant. -/
def plant4 (p : PlantD) (tA vA lA nA : Option Addr) (tc vc lc nc : Nat) : Array Value := #[.slice tA p.tanks.length tc, .slice vA p.valves.length vc, .slice lA p.lines.length lc, .slice nA p.never.length nc]
theorem arr4 {cs : Array Value} {a b c d : Value} (h : cs.size = 4) (h0 : cs[0]? = some a) (h1 : cs[1]? = some b) (h2 : cs[2]? = some c) (h3 : cs[3]? = some d) : cs = #[a, b, c, d] := by
  apply Array.ext_getElem?
  intro i
  match i with
  | 0 => exact h0
  | 1 => exact h1
  | 2 => exact h2
  | 3 => exact h3
  | n + 4 => rw [Array.getElem?_eq_none (by omega), Array.getElem?_eq_none (by simp)]

/-- What copied's first statement does, from the world W, P0 the box of the plant, R0 that of the result. -/
structure Copied1 (w w1 : World) (B P0 R0 : Nat) (p : PlantD) (f : Nat → Nat → Value) (g : Nat → Nat → Value) (tA vA lA nA : Option Addr) (tc vc lc nc : Nat) : Prop where
  p0 : Bk w1 P0 33 (plant4 p tA vA lA nA tc vc lc nc)
  r0 : Bk w1 R0 33 #[.slice none 0 0, .slice none 0 0, .slice none 0 0, .slice none 0 0]
  tanks : Cl w1 B 68 4 tA p.tanks.length fun i => tankC (p.tank i)
  valves : Cl w1 B 59 3 vA p.valves.length fun i => valveC (p.valve i)
  lines : Cl w1 B 66 5 lA p.lines.length f
  never : Cl w1 B 34 1 nA p.never.length g
  below : Below w.heap.size w w1

/-- The sizes of a valid plant. -/
theorem plantB_sizes {p : PlantD} (h : plantB p = true) : p.tanks.length ≤ 16 ∧ p.valves.length ≤ 12 ∧ p.lines.length ≤ 32 ∧ p.never.length ≤ 32 ∧ (∀ i, i < p.lines.length → (p.line i).valves.length ≤ 4) ∧ ∀ i, i < p.never.length → (p.nev i).length ≤ 4 := by
  have hl := lineOk_of h
  unfold plantB tankedB valvedB linedB apartB at h
  simp only [Bool.and_eq_true, decide_eq_true_eq] at h
  obtain ⟨⟨⟨⟨⟨⟨⟨_, h1⟩, _⟩, ⟨⟨_, h2⟩, _⟩⟩, ⟨h3, _⟩⟩, h4⟩, h5⟩, _⟩ := h
  rw [inB_iff] at h1 h2
  rw [allN_iff] at h5
  refine ⟨by omega, by omega, by omega, by omega, fun i hi => ?_, fun i hi => ?_⟩
  · have := hl i hi
    unfold lineOk at this
    simp only [Bool.and_eq_true, inB_iff] at this
    omega
  · have := h5 i hi
    unfold litsOk at this
    simp only [Bool.and_eq_true, inB_iff] at this
    omega
end Go.Proofs.Ytogobjmmgjfjjaa
