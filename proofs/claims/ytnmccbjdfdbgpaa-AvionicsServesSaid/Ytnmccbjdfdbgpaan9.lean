/- What is proved: the texts Bc, one behind the other; each says at its head what it proves, and under which conditions. -/
import Derived.Test.Ytnmccbjdfdbgpaan8
/- What is proved: the plain law of AvionicsMids: a list of which some places are changed, those that are not, their least and greatest. Conditions: those that each lemma states. -/
namespace Go.Proofs.Ytnmccbjdfdbgpaa
open Go.RowKit

def midM (l o : List Int) (first : Nat) : Nat → List Int
  | 0 => l
  | i + 1 => (midM l o first i).set ((first + i) % l.length) (getI o i)
def midS (n first : Nat) : Nat → Nat → Bool
  | 0, _ => true
  | i + 1, k => if k = (first + i) % n then false else midS n first i k
theorem midM_len (l o : List Int) (first : Nat) : ∀ i, (midM l o first i).length = l.length
  | 0 => rfl
  | i + 1 => by rw [midM, List.length_set, midM_len l o first i]
theorem getI_set {l : List Int} {k : Nat} {v : Int} (hk : k < l.length) (j : Nat) : getI (l.set k v) j = if j = k then v else getI l j := by
  unfold getI
  rw [List.getD_eq_getElem?_getD, List.getD_eq_getElem?_getD, List.getElem?_set]
  by_cases h : k = j
  · subst h; rw [if_pos rfl, if_pos hk, if_pos rfl]; rfl
  · rw [if_neg h, if_neg (fun e => h e.symm)]
theorem midM_same {l o : List Int} {first : Nat} (h0 : 0 < l.length) : ∀ i k, midS l.length first i k = true → getI (midM l o first i) k = getI l k
  | 0, _, _ => rfl
  | i + 1, k, h => by
    unfold midS at h
    by_cases e : k = (first + i) % l.length
    · rw [if_pos e] at h; cases h
    · rw [if_neg e] at h
      rw [midM, getI_set (by rw [midM_len]; exact Nat.mod_lt _ h0), if_neg e, midM_same h0 i k h]
theorem midS_count {n first : Nat} : ∀ i, cntB (fun k => !midS n first i k) n ≤ i
  | 0 => by
    have : ∀ m, cntB (fun k => !midS n first 0 k) m = 0 := fun m => by
      induction m with
      | zero => rfl
      | succ m ih => rw [cntB_succ, ih]; rfl
    rw [this]; omega
  | i + 1 => by
    have ih := midS_count (n := n) (first := first) i
    have h1 : cntB (fun k => decide (k = (first + i) % n)) n ≤ 1 := by
      have : ∀ m, cntB (fun k => decide (k = (first + i) % n)) m ≤ if (first + i) % n < m then 1 else 0 := fun m => by
        induction m with
        | zero => simp [cntB]
        | succ m ihm =>
          rw [cntB_succ]
          by_cases e : m = (first + i) % n
          · rw [if_neg (by omega)] at ihm
            rw [if_pos (by omega : (first + i) % n < m + 1)]
            simp [e] at ihm ⊢
            omega
          · simp only [e, decide_false, if_neg, Bool.false_eq_true, not_false_eq_true, Nat.add_zero]
            refine Nat.le_trans ihm ?_
            by_cases h2 : (first + i) % n < m
            · rw [if_pos h2, if_pos (by omega)]; omega
            · rw [if_neg h2]; omega
      refine Nat.le_trans (this n) ?_
      split <;> omega
    have h2 : cntB (fun k => !midS n first (i + 1) k) n ≤ cntB (fun k => !midS n first i k) n + cntB (fun k => decide (k = (first + i) % n)) n :=
      cntB_or fun k _ h => by
        unfold midS at h
        by_cases e : k = (first + i) % n
        · right; simpa using e
        · rw [if_neg e] at h; left; exact h
    omega
def lowK (l : List Int) (s : Nat → Bool) : Nat → Int
  | 0 => 1099511627776
  | k + 1 => if s k then min (lowK l s k) (getI l k) else lowK l s k
def highK (l : List Int) (s : Nat → Bool) : Nat → Int
  | 0 => -1099511627776
  | k + 1 => if s k then max (highK l s k) (getI l k) else highK l s k
theorem low_high {l : List Int} {s : Nat → Bool} : ∀ k i, i < k → s i = true → lowK l s k ≤ getI l i ∧ getI l i ≤ highK l s k
  | 0, i, h, _ => absurd h (by omega)
  | k + 1, i, h, hs => by
    unfold lowK highK
    by_cases e : i = k
    · subst e; rw [if_pos hs, if_pos hs]; omega
    · have := low_high (l := l) k i (by omega) hs
      split <;> omega
theorem low_bd {l : List Int} {s : Nat → Bool} (h : ∀ i, i < l.length → -1073741824 ≤ getI l i ∧ getI l i ≤ 1073741824) : ∀ k, k ≤ l.length → -1073741824 ≤ lowK l s k ∧ lowK l s k ≤ 1099511627776 ∧ -1099511627776 ≤ highK l s k ∧ highK l s k ≤ 1073741824
  | 0, _ => by simp [lowK, highK]
  | k + 1, hk => by
    have h1 := low_bd (s := s) h k (by omega)
    have h2 := h k (by omega)
    unfold lowK highK
    split <;> omega
theorem mids_law {l o : List Int} {first f : Nat} (h3 : 3 * f + 1 ≤ l.length) {c : Int} (hc : c = midB (midM l o first f) f) :
    2 * (midB l f - c) ≤ highK l (midS l.length first f) l.length - lowK l (midS l.length first f) l.length + 2 ∧ 2 * (c - midB l f) ≤ highK l (midS l.length first f) l.length - lowK l (midS l.length first f) l.length + 2 := by
  subst hc
  exact mids_near (midM_len _ _ _ _) h3 (midS_count f) fun i hi hs => ⟨midM_same (by omega) f i hs, low_high _ i hi hs⟩
theorem midpB_ok {l : List Int} {f : Int} (h : (midpB l f).2 = 0) : 0 ≤ f ∧ f ≤ 1073741824 ∧ (midpB l f).1 = midB l f.toNat ∧ 2 * f + 1 ≤ l.length ∧ l.length ≤ 100 ∧ ∀ i, i < l.length → -1073741824 ≤ getI l i ∧ getI l i ≤ 1073741824 := by
  unfold midpB at h ⊢
  by_cases hb : (inB f 0 1073741824 && inB l.length (2 * f + 1) 100 && allN l.length fun i => inB (getI l i) (-1073741824) 1073741824) = true
  · rw [if_pos hb]
    rw [Bool.and_eq_true, Bool.and_eq_true] at hb
    obtain ⟨⟨h1, h2⟩, h4⟩ := hb
    have h1 := inB_iff.1 h1
    have h2 := inB_iff.1 h2
    have h4 := allN_iff.1 h4
    exact ⟨h1.1, h1.2, rfl, h2.1, by omega, fun i hi => inB_iff.1 (h4 i hi)⟩
  · rw [if_neg hb] at h; exact absurd h (by simp)
theorem midB_bd {l : List Int} {f : Nat} (h : ∀ i, i < l.length → -1073741824 ≤ getI l i ∧ getI l i ≤ 1073741824) (h2 : 2 * f + 1 ≤ l.length) : -1073741825 ≤ midB l f ∧ midB l f ≤ 1073741824 := by
  have h1 := sort_range (l := l) (k := f) (fun i hi => inB_iff.2 (h i hi)) (by omega)
  have h3 := sort_range (l := l) (k := l.length - 1 - f) (fun i hi => inB_iff.2 (h i hi)) (by omega)
  unfold midB
  omega
end Go.Proofs.Ytnmccbjdfdbgpaa
