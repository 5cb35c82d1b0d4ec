/- What is proved: the texts Bd, one behind the other; each says at its head what it proves, and under which conditions. -/
import Derived.Test.Ytnmccbjdfdbgpaan9
/- What is proved: the plain laws of AvionicsMasks and AvionicsStays: a value between two bounds that more than half have; channels that are never removed. Conditions: those that each lemma states. -/
namespace Go.Proofs.Ytnmccbjdfdbgpaa
open Go.RowKit

theorem countP_three {L : List Int} {a b : Int} : L.countP (fun y => decide (y < a)) + L.countP (fun x => inB x a b) ≤ L.length := by
  induction L with
  | nil => simp
  | cons x L ih =>
    simp only [List.countP_cons, List.length_cons]
    by_cases h : x < a
    · have : inB x a b = false := by unfold inB; rw [decide_eq_false (by omega : ¬ a ≤ x), Bool.false_and]
      simp [h, this]; omega
    · simp [h]; split <;> omega
theorem median_in {L : List Int} {a b : Int} (h : L.length < 2 * L.countP (fun x => inB x a b)) : a ≤ getI (sortB L) ((L.length - 1) / 2) ∧ getI (sortB L) ((L.length - 1) / 2) ≤ b := by
  have hl := sortB_len L
  have h3 := countP_three (L := L) (a := a) (b := b)
  have hk : (L.length - 1) / 2 < (sortB L).length := by rw [hl]; omega
  constructor
  · refine le_sorted (sortB_sorted L) hk ?_
    rw [(sortB_perm L).countP_eq]; omega
  · refine sorted_le (sortB_sorted L) hk ?_
    rw [(sortB_perm L).countP_eq]
    have : L.countP (fun x => inB x a b) ≤ L.countP (fun y => decide (y ≤ b)) := List.countP_mono_left fun x _ hx => by
      have := (inB_iff.1 hx).2
      simpa using this
    omega
/-- How many of the first k count and lie from a to b. -/
def manyV (V : VotD) (l : List RdD) (a b : Int) : Nat → Nat
  | 0 => 0
  | k + 1 => manyV V l a b k + if (rdAt l k).there && V.live k && inB (rdAt l k).val a b then 1 else 0
theorem manyV_eq (V : VotD) (l : List RdD) (a b : Int) : ∀ k, manyV V l a b k = (valsK V l k).countP fun x => inB x a b
  | 0 => rfl
  | k + 1 => by
    unfold manyV valsK
    rw [manyV_eq V l a b k]
    by_cases h : ((rdAt l k).there && V.live k) = true
    · rw [if_pos h, h, Bool.true_and, List.countP_append]
      simp [List.countP_cons]
    · have h' : ((rdAt l k).there && V.live k) = false := by simpa using h
      rw [if_neg h, h', Bool.false_and]; simp
theorem value_in {V : VotD} {l : List RdD} {a b : Int} (h : (valsK V l l.length).length < 2 * manyV V l a b l.length) : a ≤ valueB V l ∧ valueB V l ≤ b := by
  rw [manyV_eq] at h
  exact median_in h
theorem voteB_masks {V : VotD} {l : List RdD} {a b : Int} (he : (voteB V l).1.2 = 0) (h : (valsK V l l.length).length < 2 * manyV V l a b l.length) : a ≤ (voteB V l).1.1 ∧ (voteB V l).1.1 ≤ b := by
  unfold voteB at he ⊢
  split
  · rename_i h1; rw [if_pos h1] at he; simp at he
  · rename_i h1; rw [if_neg h1] at he
    split
    · rename_i h2; rw [if_pos h2] at he; simp at he
    · rename_i h2; rw [if_neg h2] at he
      split
      · rename_i h3; rw [if_pos h3] at he; simp at he
      · exact value_in h
/-- Of the first k readings, those that are there: all; those from a to b: many. -/
def allR (l : List RdD) : Nat → Nat
  | 0 => 0
  | k + 1 => if (rdAt l k).there then allR l k + 1 else allR l k
def manyR (l : List RdD) (a b : Int) : Nat → Nat
  | 0 => 0
  | k + 1 => if (rdAt l k).there && inB (rdAt l k).val a b then manyR l a b k + 1 else manyR l a b k
theorem allR_le (l : List RdD) : ∀ k, allR l k ≤ k
  | 0 => Nat.le_refl _
  | k + 1 => by have := allR_le l k; unfold allR; split <;> omega
theorem manyR_le (l : List RdD) (a b : Int) : ∀ k, manyR l a b k ≤ k
  | 0 => Nat.le_refl _
  | k + 1 => by have := manyR_le l a b k; unfold manyR; split <;> omega
theorem allR_new (l : List RdD) (n : Nat) (t p : Int) : ∀ k, (valsK (newV n t p) l k).length = allR l k
  | 0 => rfl
  | k + 1 => by
    unfold valsK allR
    rw [show (newV n t p).live k = true from rfl, Bool.and_true]
    split
    · rw [List.length_append, allR_new l n t p k]; rfl
    · exact allR_new l n t p k
theorem manyR_new (l : List RdD) (n : Nat) (t p : Int) (a b : Int) : ∀ k, manyV (newV n t p) l a b k = manyR l a b k
  | 0 => rfl
  | k + 1 => by
    unfold manyV manyR
    rw [show (newV n t p).live k = true from rfl, Bool.and_true, manyR_new l n t p a b k]
    split <;> rfl
theorem masks_law {l : List RdD} {n : Nat} {t p a b : Int} (he : (voteB (newV n t p) l).1.2 = 0) (h : allR l l.length < 2 * manyR l a b l.length) : a ≤ (voteB (newV n t p) l).1.1 ∧ (voteB (newV n t p) l).1.1 ≤ b :=
  voteB_masks he (by rw [allR_new, manyR_new]; exact h)
/-- Those that are good: the first g channels. -/
structure GoodV (V : VotD) (g : Nat) : Prop where
  n : V.n = 8
  pat : 0 ≤ V.pat
  good : ∀ k, k < g → V.live k = true ∧ V.cnt k = 0
theorem GoodV.new {t p : Int} (hp : 0 ≤ p) (g : Nat) : GoodV (newV 8 t p) g := ⟨rfl, hp, fun _ _ => ⟨rfl, rfl⟩⟩
theorem manyV_ge {V : VotD} {l : List RdD} {a b : Int} {g : Nat} (h : ∀ k, k < g → ((rdAt l k).there && V.live k && inB (rdAt l k).val a b) = true) : ∀ k, k ≤ g → manyV V l a b k = k
  | 0, _ => rfl
  | k + 1, hk => by
    unfold manyV
    rw [manyV_ge h k (by omega), h k (by omega)]; rfl
theorem manyV_mono {V : VotD} {l : List RdD} {a b : Int} (k : Nat) : ∀ d, manyV V l a b k ≤ manyV V l a b (k + d)
  | 0 => Nat.le_refl _
  | d + 1 => by
    refine Nat.le_trans (manyV_mono k d) ?_
    rw [show k + (d + 1) = (k + d) + 1 from rfl]
    show _ ≤ manyV V l a b (k + d) + _
    omega
theorem dropK_good {V : VotD} {m g : Nat} (hp : 0 ≤ V.pat) (h : ∀ k, k < g → V.live k = true ∧ V.cnt k = 0) : ∀ j k, k < g → (dropK V m j).1.live k = true ∧ (dropK V m j).1.cnt k = 0
  | 0, k, hk => h k hk
  | j + 1, k, hk => by
    have ih := dropK_good (m := m) hp h j k hk
    unfold dropK
    split
    · rename_i hc
      rw [Bool.and_eq_true, Bool.and_eq_true, decide_eq_true_eq, (dropK_same V m j).2.2.1] at hc
      have hne : k ≠ j := by rintro rfl; rw [ih.2] at hc; omega
      refine ⟨?_, ?_⟩
      · show (if k = j then false else _) = true
        rw [if_neg hne]; exact ih.1
      · show (if k = j then (0 : Int) else _) = 0
        rw [if_neg hne]; exact ih.2
    · exact ih
theorem stays_law {V : VotD} {l : List RdD} {g : Nat} {a : Int} (hv : GoodV V g) (h5 : 5 ≤ g) (h8 : g ≤ 8) (hl : l.length = 8)
    (hr : ∀ k, k < g → (rdAt l k).there = true ∧ a ≤ (rdAt l k).val ∧ (rdAt l k).val ≤ a + V.tol) : GoodV (voteB V l).2 g := by
  unfold voteB
  split
  · exact hv
  · split
    · exact hv
    · split
      · exact hv
      · have hin : a ≤ valueB V l ∧ valueB V l ≤ a + V.tol := by
          refine value_in ?_
          have h1 := valsK_len V l l.length
          have h2 : manyV V l a (a + V.tol) g = g := manyV_ge (fun k hk => by
            rw [(hr k hk).1, (hv.good k hk).1]
            simpa using inB_iff.2 (hr k hk).2) g (Nat.le_refl _)
          have h3 := manyV_mono (V := V) (l := l) (a := a) (b := a + V.tol) g (8 - g)
          rw [h2, show g + (8 - g) = 8 from by omega, ← hl] at h3
          omega
        obtain ⟨q1, q2, q3, _⟩ := dropK_same (cntK V l (valueB V l) l.length) (cntB V.live l.length) l.length
        refine ⟨q1.trans hv.n, by rw [q3]; exact hv.pat, fun k hk => ?_⟩
        refine dropK_good (V := cntK V l (valueB V l) l.length) hv.pat (fun k hk => ⟨(hv.good k hk).1, ?_⟩) _ k hk
        show (if k < l.length then cntV V l (valueB V l) k else V.cnt k) = 0
        rw [if_pos (by omega)]
        unfold cntV
        have := hr k hk
        rw [if_pos (hv.good k hk).1, this.1, inB_iff.2 (by omega)]; rfl
end Go.Proofs.Ytnmccbjdfdbgpaa
