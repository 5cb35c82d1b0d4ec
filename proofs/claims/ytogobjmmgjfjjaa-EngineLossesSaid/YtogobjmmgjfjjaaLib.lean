/- What is proved: small lemmas on memory (a slice that reads as a list of rows of cells), over whatever program. Conditions: none beyond those that each lemma states. -/
import Derived.WalkKit
import Derived.WalkSpells
import Derived.WalkLawsBesides
import Derived.Lib.Hide
namespace Go.Proofs.Ytogobjmmgjfjjaa
open Go.RowKit

/-- The slice (its address 'A', its length 'n') lies below block 'B'; row i holds the k cells 'f i 0', .. -/
def Sl (w : World) (B k : Nat) (A : Option Addr) (n : Nat) (f : Nat → Nat → Value) : Prop :=
  n ≤ 9223372036854775807 ∧ (0 < n → ∃ b off, A = some ⟨b, off, none⟩ ∧ b < B ∧ ∀ i, i < n → ∀ j, j < k → w.cell? ⟨b, off + i * k + j, none⟩ = some (f i j))

theorem Sl.below {w w' : World} {B k n : Nat} {A : Option Addr} {f : Nat → Nat → Value} (h : Sl w B k A n f) (hb : Below B w w') : Sl w' B k A n f :=
  ⟨h.1, fun hn => by
    obtain ⟨b, off, e, hB, hc⟩ := h.2 hn
    exact ⟨b, off, e, hB, fun i hi j hj => (hb.cell (p := ⟨b, off + i * k + j, none⟩) hB).trans (hc i hi j hj)⟩⟩

theorem Sl.mono {w : World} {B B' k n : Nat} {A : Option Addr} {f : Nat → Nat → Value} (h : Sl w B k A n f) (hb : B ≤ B') : Sl w B' k A n f :=
  ⟨h.1, fun hn => by
    obtain ⟨b, off, e, hB, hc⟩ := h.2 hn
    exact ⟨b, off, e, by omega, hc⟩⟩

theorem Sl.nil (w : World) (B k : Nat) (A : Option Addr) (f : Nat → Nat → Value) : Sl w B k A 0 f := ⟨by omega, fun h => absurd h (by omega)⟩

/-- Do all of the first n satisfy q? -/
def allN (n : Nat) (q : Nat → Bool) : Bool := (List.range n).all q
/-- Does one of the first n satisfy q? Its place, or -1. -/
def idxN (n : Nat) (q : Nat → Bool) : Int := match (List.range n).find? q with | some i => (i : Int) | none => -1

theorem bcells {W w1 : World} {B : Nat} (hb : Below B W w1) : (∀ b o, b < B → w1.cell? ⟨b, o, none⟩ = W.cell? ⟨b, o, none⟩) ∧ (∀ b o, b < B → w1.frozen? ⟨b, o, none⟩ = W.frozen? ⟨b, o, none⟩) :=
  ⟨fun b o h => hb.cell (p := ⟨b, o, none⟩) h, fun b o h => hb.frozen (p := ⟨b, o, none⟩) h⟩
theorem below_drewN {B : Nat} {a w : World} (h : Below B a w) (n : Nat) : Below B a (w.drewN n) := ⟨h.os, h.tape, h.output, h.size, h.block⟩
theorem ret_bool {a b : Bool} (h : a = b) : Ending.returned (.bool a) = .returned (.bool b) := by rw [h]
theorem ret_int {k : IntKind} {a b : Int} (h : a = b) : Ending.returned (.int k a) = .returned (.int k b) := by rw [h]

/-- n is from a to b. -/
def inB (n a b : Int) : Bool := decide (a ≤ n) && decide (n ≤ b)

theorem find_range_none {n : Nat} {q : Nat → Bool} (h : ∀ i, i < n → q i = false) : (List.range n).find? q = none := by
  rw [List.find?_eq_none]; intro x hx; simp at hx; simp [h x hx]
theorem find_range_some {n k : Nat} {q : Nat → Bool} (hk : k < n) (h : ∀ i, i < k → q i = false) (hq : q k = true) : (List.range n).find? q = some k := by
  rw [List.find?_eq_some_iff_append]
  refine ⟨hq, List.range k, (List.range' (k+1) (n - (k+1))), ?_, ?_⟩
  · rw [List.range_eq_range', List.range_eq_range', show k :: List.range' (k+1) (n-(k+1)) = List.range' k (n - k) from by rw [show n - k = (n - (k+1)) + 1 from by omega, List.range'_succ]]
    rw [show List.range' k (n-k) = List.range' (0 + k) (n - k) from by simp, List.range'_append_1]; congr 1; omega
  · intro a ha; simp at ha; simp [h a ha]
theorem idxN_none {n : Nat} {q : Nat → Bool} (h : ∀ i, i < n → q i = false) : idxN n q = -1 := by unfold idxN; rw [find_range_none h]
theorem idxN_some {n k : Nat} {q : Nat → Bool} (hk : k < n) (h : ∀ i, i < k → q i = false) (hq : q k = true) : idxN n q = k := by unfold idxN; rw [find_range_some hk h hq]
theorem idxN_nonneg (n : Nat) (q : Nat → Bool) : decide (0 ≤ idxN n q) = !(allN n fun i => !q i) := by
  by_cases h : ∀ i, i < n → q i = false
  · rw [idxN_none h]; simp [allN]; intro i hi; exact h i hi
  · have : ∃ k, k < n ∧ q k = true ∧ ∀ i, i < k → q i = false := by
      have hex : ∃ k, k < n ∧ q k = true := by
        apply Classical.byContradiction; intro hc; apply h; intro i hi
        cases hq : q i
        · rfl
        · exact absurd ⟨i, hi, hq⟩ hc
      obtain ⟨k, hk⟩ := hex
      induction k using Nat.strongRecOn with
      | _ k ih =>
        by_cases hm : ∃ j, j < k ∧ q j = true
        · obtain ⟨j, hj, hqj⟩ := hm; exact ih j hj ⟨by omega, hqj⟩
        · refine ⟨k, hk.1, hk.2, fun i hi => ?_⟩
          cases hq : q i
          · rfl
          · exact absurd ⟨i, hi, hq⟩ hm
    obtain ⟨k, hk, hq, hl⟩ := this
    rw [idxN_some hk hl hq]
    have : (allN n fun i => !q i) = false := by
      unfold allN; rw [List.all_eq_false]; exact ⟨k, by simpa using hk, by simp [hq]⟩
    rw [this]; simp
theorem Sl.at1 {w : World} {B n i : Nat} {A : Option Addr} {f : Nat → Nat → Value} (h : Sl w B 1 A n f) (hi : i < n) :
    ∃ b off, A = some ⟨b, off, none⟩ ∧ b < B ∧ w.cell? ⟨b, off + i, none⟩ = some (f i 0) := by
  obtain ⟨b, off, rfl, hB, hc⟩ := h.2 (by omega)
  exact ⟨b, off, rfl, hB, by have := hc i hi 0 (by omega); simpa using this⟩
theorem Sl.at2 {w : World} {B n i : Nat} {A : Option Addr} {f : Nat → Nat → Value} (h : Sl w B 2 A n f) (hi : i < n) :
    ∃ b off, A = some ⟨b, off, none⟩ ∧ b < B ∧ w.cell? ⟨b, off + i * 2, none⟩ = some (f i 0) ∧ w.cell? ⟨b, off + i * 2 + 1, none⟩ = some (f i 1) := by
  obtain ⟨b, off, rfl, hB, hc⟩ := h.2 (by omega)
  exact ⟨b, off, rfl, hB, by have := hc i hi 0 (by omega); simpa using this, by have := hc i hi 1 (by omega); simpa using this⟩
theorem Sl.at3 {w : World} {B n i : Nat} {A : Option Addr} {f : Nat → Nat → Value} (h : Sl w B 3 A n f) (hi : i < n) :
    ∃ b off, A = some ⟨b, off, none⟩ ∧ b < B ∧ w.cell? ⟨b, off + i * 3, none⟩ = some (f i 0) ∧ w.cell? ⟨b, off + i * 3 + 1, none⟩ = some (f i 1) ∧ w.cell? ⟨b, off + i * 3 + 2, none⟩ = some (f i 2) := by
  obtain ⟨b, off, rfl, hB, hc⟩ := h.2 (by omega)
  exact ⟨b, off, rfl, hB, by have := hc i hi 0 (by omega); simpa using this, by have := hc i hi 1 (by omega); simpa using this, by have := hc i hi 2 (by omega); simpa using this⟩
theorem Sl.at4 {w : World} {B n i : Nat} {A : Option Addr} {f : Nat → Nat → Value} (h : Sl w B 4 A n f) (hi : i < n) :
    ∃ b off, A = some ⟨b, off, none⟩ ∧ b < B ∧ w.cell? ⟨b, off + i * 4, none⟩ = some (f i 0) ∧ w.cell? ⟨b, off + i * 4 + 1, none⟩ = some (f i 1) ∧ w.cell? ⟨b, off + i * 4 + 2, none⟩ = some (f i 2) ∧ w.cell? ⟨b, off + i * 4 + 3, none⟩ = some (f i 3) := by
  obtain ⟨b, off, rfl, hB, hc⟩ := h.2 (by omega)
  exact ⟨b, off, rfl, hB, by have := hc i hi 0 (by omega); simpa using this, by have := hc i hi 1 (by omega); simpa using this, by have := hc i hi 2 (by omega); simpa using this, by have := hc i hi 3 (by omega); simpa using this⟩
theorem Sl.at5 {w : World} {B n i : Nat} {A : Option Addr} {f : Nat → Nat → Value} (h : Sl w B 5 A n f) (hi : i < n) :
    ∃ b off, A = some ⟨b, off, none⟩ ∧ b < B ∧ w.cell? ⟨b, off + i * 5, none⟩ = some (f i 0) ∧ w.cell? ⟨b, off + i * 5 + 1, none⟩ = some (f i 1) ∧ w.cell? ⟨b, off + i * 5 + 2, none⟩ = some (f i 2) ∧ w.cell? ⟨b, off + i * 5 + 3, none⟩ = some (f i 3) ∧ w.cell? ⟨b, off + i * 5 + 4, none⟩ = some (f i 4) := by
  obtain ⟨b, off, rfl, hB, hc⟩ := h.2 (by omega)
  exact ⟨b, off, rfl, hB, by have := hc i hi 0 (by omega); simpa using this, by have := hc i hi 1 (by omega); simpa using this, by have := hc i hi 2 (by omega); simpa using this, by have := hc i hi 3 (by omega); simpa using this, by have := hc i hi 4 (by omega); simpa using this⟩
end Go.Proofs.Ytogobjmmgjfjjaa
