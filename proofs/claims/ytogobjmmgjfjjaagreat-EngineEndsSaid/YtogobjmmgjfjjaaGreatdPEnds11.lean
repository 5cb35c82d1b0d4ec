/- What is proved: the texts Y1 Lt Y2 Y3, one behind the other; each says at its head what it proves, and under which conditions. -/
import Derived.Test.YtogobjmmgjfjjaaGreatdPEnds10
/- What is proved: plain laws of a run of a sequence: at which tick it ends; a redline that is never kept ends it at the tick that is its Ticks; where valves are behind an abort. Conditions: those that each lemma states. -/
namespace Go.Proofs.YtogobjmmgjfjjaaGreat
open Go.RowKit

theorem SysOk.vs {S : Sys} (ok : SysOk S) : ValvesOk S.p := by
  have hv := ok.valid
  unfold plantB at hv
  simp only [Bool.and_eq_true] at hv
  exact valvesOk_of _ hv.1.1.1.1.2

/-! Who sticks. -/
def stuckK (l : List DisD) (v : Int) : Nat → Bool
  | 0 => false
  | k + 1 => stuckK l v k || (decide ((l.getD k dis0).kind = 0) && decide ((l.getD k dis0).of_ = v))
theorem stuckK_mono {l : List DisD} {v : Int} {i j : Nat} (h : stuckK l v i = true) (hij : i ≤ j) : stuckK l v j = true := by
  induction j with
  | zero => obtain rfl : i = 0 := by omega
            exact h
  | succ j ih =>
    by_cases e : i = j + 1
    · subst e; exact h
    · unfold stuckK; rw [ih (by omega)]; rfl
theorem flowB_rest (S : Sys) (l : LineD) : (flowB S l).at_ = S.at_ ∧ (flowB S l).stuck = S.stuck := by
  unfold flowB; simp only; split <;> split <;> exact ⟨rfl, rfl⟩
theorem linesK_rest (S : Sys) (k : Nat) : (linesK S k).at_ = S.at_ ∧ (linesK S k).stuck = S.stuck := by
  induction k with
  | zero => exact ⟨rfl, rfl⟩
  | succ k ih =>
    unfold linesK
    split
    · exact ⟨(flowB_rest _ _).1.trans ih.1, (flowB_rest _ _).2.trans ih.2⟩
    · exact ih
theorem tanksK_rest (S : Sys) (k : Nat) : (tanksK S k).at_ = S.at_ ∧ (tanksK S k).stuck = S.stuck := by
  induction k with
  | zero => exact ⟨rfl, rfl⟩
  | succ k ih => exact ih
theorem tickB_rest (S : Sys) : (tickB S).at_ = movedB S.p S.at_ S.stuck ∧ (tickB S).stuck = S.stuck := by
  unfold tickB
  exact ⟨(tanksK_rest _ _).1.trans ((linesK_rest _ _).1), (tanksK_rest _ _).2.trans ((linesK_rest _ _).2)⟩
theorem orderB_stuck (S : Sys) (v : Int) (o : Bool) : (orderB S v o).2.stuck = S.stuck := by
  unfold orderB; split
  · split <;> rfl
  · rfl
theorem leakB_stuck (S : Sys) (v r : Int) : (leakB S v r).2.stuck = S.stuck := by
  unfold leakB; split
  · split <;> rfl
  · rfl
theorem giveB_stuck (l : List LitD) : ∀ S, (giveB S l).1.stuck = S.stuck := by
  induction l with
  | nil => intro S; rfl
  | cons o os ih =>
    intro S
    unfold giveB
    split
    · exact (ih _).trans (orderB_stuck _ _ _)
    · rfl
theorem abortB_stuck (l : List LitD) : ∀ S, (abortB S l).1.stuck = S.stuck := by
  induction l with
  | nil => intro S; rfl
  | cons o os ih => intro S; exact (ih _).trans (orderB_stuck _ _ _)
theorem stepsF_stuck (q : SeqD) (tick : Int) (m : Nat) : ∀ i S, (stepsF q tick m i S).1.stuck = S.stuck := by
  induction m with
  | zero => intro i S; rfl
  | succ m ih =>
    intro i S
    unfold stepsF
    split
    · split
      · exact giveB_stuck _ _
      · exact (ih _ _).trans (giveB_stuck _ _)
    · exact ih _ _
/-- Only what is told to stick does. -/
def StickOk (l : List DisD) (S : Sys) : Prop := ∀ v : Nat, S.stuck v = true → stuckK l v l.length = true
theorem StickOk.of_eq {l : List DisD} {S T : Sys} (h : StickOk l S) (e : T.stuck = S.stuck) : StickOk l T := fun v hv => h v (by rw [← e]; exact hv)
theorem wrongK_stick {l : List DisD} {S : Sys} (h : StickOk l S) (tick : Int) (k : Nat) (hk : k ≤ l.length) : StickOk l (wrongK S l tick k) := by
  induction k with
  | zero => exact h
  | succ k ih =>
    have h1 := ih (by omega)
    show StickOk l (wrong1 (wrongK S l tick k) (l.getD k dis0) tick)
    unfold wrong1
    split
    · split
      · next h0 =>
        intro v hv
        unfold stickB at hv
        split at hv
        · next hin =>
          have hin2 := inB_iff.1 hin
          simp only at hv
          split at hv
          · next hvn =>
            refine stuckK_mono (i := k + 1) ?_ hk
            unfold stuckK
            have e2 : (l.getD k dis0).of_ = (v : Int) := by omega
            rw [h0, e2]; simp
          · exact h1 v hv
        · exact h1 v hv
      · exact h1.of_eq (leakB_stuck _ _ _)
    · exact h1
theorem onceB_stick {q : SeqD} {l : List DisD} {S : Sys} (h : StickOk l S) (tick : Int) (c : Nat → Int) : StickOk l (onceB q l tick S c).s := by
  have h1 : StickOk l (wrongB S l tick) := wrongK_stick h tick l.length (Nat.le_refl _)
  have h2 := h1.of_eq (stepsF_stuck q tick q.steps.length 0 (wrongB S l tick))
  unfold onceB
  split
  · exact h2
  · exact h2.of_eq (tickB_rest _).2

/-! How a tick ends. -/
theorem ticked_cases (S : Sys) (q : SeqD) (tick : Int) (c : Nat → Int) :
    ((ticked S q tick c).why = -1 ∧ moreF q tick = true ∧ firstN (hurtF q c) q.reds.length 0 = none) ∨
    ((ticked S q tick c).why = 0 ∧ (ticked S q tick c).at_ = tick ∧ (ticked S q tick c).index = 0 ∧ (ticked S q tick c).refused = 0 ∧ moreF q tick = false) ∨
    ((ticked S q tick c).why = 2 ∧ (ticked S q tick c).at_ = tick) ∨
    ∃ i, (ticked S q tick c).why = 3 ∧ (ticked S q tick c).at_ = tick ∧ (ticked S q tick c).index = (i : Nat) ∧ firstN (hurtF q c) q.reds.length 0 = some i := by
  unfold ticked
  cases h1 : firstN (hurtF q c) q.reds.length 0 with
  | some i => exact Or.inr (Or.inr (Or.inr ⟨i, rfl, rfl, rfl, rfl⟩))
  | none =>
    cases h2 : firstN (missF S q tick) q.steps.length 0 with
    | some i => exact Or.inr (Or.inr (Or.inl ⟨rfl, rfl⟩))
    | none =>
      cases h3 : moreF q tick with
      | true => exact Or.inl ⟨rfl, rfl, rfl⟩
      | false => exact Or.inr (Or.inl ⟨rfl, rfl, rfl, rfl, rfl⟩)
theorem onceB_hit {q : SeqD} {l : List DisD} {tick : Int} {S : Sys} {c : Nat → Int} {i : Nat} (h : (stepsF q tick q.steps.length 0 (wrongB S l tick)).2 = some i) :
    onceB q l tick S c = ⟨(stepsF q tick q.steps.length 0 (wrongB S l tick)).1, c, ⟨1, tick, i, 0⟩⟩ := by unfold onceB; rw [h]
theorem onceB_on {q : SeqD} {l : List DisD} {tick : Int} {S : Sys} {c : Nat → Int} (h : (stepsF q tick q.steps.length 0 (wrongB S l tick)).2 = none) :
    onceB q l tick S c = ⟨tickB (stepsF q tick q.steps.length 0 (wrongB S l tick)).1, countB (tickB (stepsF q tick q.steps.length 0 (wrongB S l tick)).1) q c,
      ticked (tickB (stepsF q tick q.steps.length 0 (wrongB S l tick)).1) q tick (countB (tickB (stepsF q tick q.steps.length 0 (wrongB S l tick)).1) q c)⟩ := by unfold onceB; rw [h]
theorem onceB_cases (q : SeqD) (l : List DisD) (tick : Int) (S : Sys) (c : Nat → Int) :
    ((onceB q l tick S c).e.why = -1 ∧ moreF q tick = true) ∨
    ((onceB q l tick S c).e.why = 0 ∧ (onceB q l tick S c).e.at_ = tick ∧ (onceB q l tick S c).e.index = 0 ∧ (onceB q l tick S c).e.refused = 0 ∧ moreF q tick = false) ∨
    (1 ≤ (onceB q l tick S c).e.why ∧ (onceB q l tick S c).e.at_ = tick) := by
  cases h : (stepsF q tick q.steps.length 0 (wrongB S l tick)).2 with
  | some i => rw [onceB_hit h]; exact Or.inr (Or.inr ⟨by show (1 : Int) ≤ 1; decide, rfl⟩)
  | none =>
    rw [onceB_on h]
    rcases ticked_cases (tickB (stepsF q tick q.steps.length 0 (wrongB S l tick)).1) q tick (countB (tickB (stepsF q tick q.steps.length 0 (wrongB S l tick)).1) q c) with h1 | h1 | h1 | ⟨i, h1⟩
    · exact Or.inl ⟨h1.1, h1.2.1⟩
    · exact Or.inr (Or.inl h1)
    · exact Or.inr (Or.inr ⟨by rw [h1.1]; decide, h1.2⟩)
    · exact Or.inr (Or.inr ⟨by rw [h1.1]; decide, h1.2.1⟩)
theorem moreF_iff {q : SeqD} {tick : Int} : moreF q tick = true ↔ ∃ k, k < q.steps.length ∧ tick < (q.step k).at_ := by
  unfold moreF
  constructor
  · intro h
    apply Classical.byContradiction
    intro hn
    have : (allN q.steps.length fun i => !decide (tick < (q.step i).at_)) = true := allN_iff.2 fun i hi => by
      have : ¬ tick < (q.step i).at_ := fun h2 => hn ⟨i, hi, h2⟩
      simp; omega
    rw [this] at h; cases h
  · rintro ⟨k, hk, hlt⟩
    cases hh : allN q.steps.length fun i => !decide (tick < (q.step i).at_) with
    | false => rfl
    | true => have := allN_iff.1 hh k hk; simp at this; omega
/-- How a run ends. -/
structure EndOk (q : SeqD) (l : List DisD) (S : Sys) (r : Sys × EndD) : Prop where
  at0 : 0 ≤ r.2.at_
  last : r.2.at_ = 0 ∨ ∃ k, k < q.steps.length ∧ r.2.at_ ≤ (q.step k).at_
  how : (r.2.why = 0 ∧ r.2.index = 0 ∧ r.2.refused = 0 ∧ moreF q r.2.at_ = false) ∨ (1 ≤ r.2.why ∧ ∃ U, Keeps S U ∧ StickOk l U ∧ r.1 = (abortB U q.abort).1 ∧ r.2.refused = (abortB U q.abort).2)
theorem runF_ends {p : PlantD} {q : SeqD} {l : List DisD} (hq : seqB p q = true) : ∀ (f : Nat) (tick : Int) (S : Sys) (c : Nat → Int), 0 ≤ tick → tick + f = 10001 → 1 ≤ f → (tick = 0 ∨ ∃ k, k < q.steps.length ∧ tick ≤ (q.step k).at_) → StickOk l S → EndOk q l S (runF q l f tick S c) := by
  intro f
  induction f with
  | zero => intro tick S c _ _ h; omega
  | succ f ih =>
    intro tick S c h0 hf _ hl hs
    have hk := onceB_keeps q l tick S c
    have hst := onceB_stick (q := q) hs tick c
    rw [runF_succ]
    rcases onceB_cases q l tick S c with h1 | h1 | h1
    · rw [if_neg (by rw [h1.1]; decide), if_neg (by rw [h1.1]; decide)]
      obtain ⟨k, hk1, hk2⟩ := moreF_iff.1 h1.2
      have := (steps_at hq hk1).2
      have hi := ih (tick + 1) (onceB q l tick S c).s (onceB q l tick S c).c (by omega) (by omega) (by omega) (Or.inr ⟨k, hk1, by omega⟩) hst
      refine ⟨hi.at0, hi.last, ?_⟩
      rcases hi.how with h2 | ⟨h2, U, u1, u2, u3⟩
      · exact Or.inl h2
      · exact Or.inr ⟨h2, U, hk.trans u1, u2, u3⟩
    · rw [if_pos h1.1]
      exact ⟨by show 0 ≤ (onceB q l tick S c).e.at_; rw [h1.2.1]; exact h0, by show (onceB q l tick S c).e.at_ = 0 ∨ _; rw [h1.2.1]; exact hl, Or.inl ⟨h1.1, h1.2.2.1, h1.2.2.2.1, by show moreF q (onceB q l tick S c).e.at_ = false; rw [h1.2.1]; exact h1.2.2.2.2⟩⟩
    · rw [if_neg (by omega), if_pos (by omega)]
      exact ⟨by show 0 ≤ (onceB q l tick S c).e.at_; rw [h1.2]; exact h0, by show (onceB q l tick S c).e.at_ = 0 ∨ _; rw [h1.2]; exact hl, Or.inr ⟨h1.1, _, hk, hst, rfl, rfl⟩⟩
/-- The last tick of a sequence, as the law reckons it. -/
def lastM (q : SeqD) : Nat → Int
  | 0 => 0
  | k + 1 => max (lastM q k) (q.step k).at_
theorem lastM_ge (q : SeqD) (n : Nat) : 0 ≤ lastM q n ∧ ∀ k, k < n → (q.step k).at_ ≤ lastM q n := by
  induction n with
  | zero => exact ⟨Int.le_refl _, fun k hk => absurd hk (by omega)⟩
  | succ n ih =>
    unfold lastM
    refine ⟨by omega, fun k hk => ?_⟩
    by_cases e : k = n
    · subst e; omega
    · have := ih.2 k (by omega); omega
theorem lastM_le {q : SeqD} {b : Int} (h0 : 0 ≤ b) (n : Nat) (h : ∀ k, k < n → (q.step k).at_ ≤ b) : lastM q n ≤ b := by
  induction n with
  | zero => exact h0
  | succ n ih =>
    unfold lastM
    have h1 := ih (fun k hk => h k (by omega))
    have h2 := h n (by omega)
    omega
theorem EndOk.at_last {q : SeqD} {l : List DisD} {S : Sys} {r : Sys × EndD} (h : EndOk q l S r) : 0 ≤ r.2.at_ ∧ r.2.at_ ≤ lastM q q.steps.length ∧ (r.2.why = 0 → r.2.at_ = lastM q q.steps.length ∧ r.2.index = 0 ∧ r.2.refused = 0) := by
  have hg := lastM_ge q q.steps.length
  have h1 : r.2.at_ ≤ lastM q q.steps.length := by
    rcases h.last with h2 | ⟨k, hk, h2⟩
    · have := hg.1; omega
    · have := hg.2 k hk; omega
  refine ⟨h.at0, h1, fun hw => ?_⟩
  rcases h.how with h2 | h2
  · refine ⟨?_, h2.2.1, h2.2.2.1⟩
    have h3 : lastM q q.steps.length ≤ r.2.at_ := lastM_le h.at0 _ fun k hk => by
      apply Classical.byContradiction
      intro hn
      have : moreF q r.2.at_ = true := moreF_iff.2 ⟨k, hk, by omega⟩
      rw [h2.2.2.2] at this; cases this
    omega
  · omega
theorem abortB_count (l : List LitD) : ∀ S, 0 ≤ (abortB S l).2 ∧ (abortB S l).2 ≤ l.length := by
  induction l with
  | nil => intro S; exact ⟨Int.le_refl _, Int.le_refl _⟩
  | cons o os ih =>
    intro S
    have := ih (orderB S o.valve o.opn).2
    unfold abortB
    simp only [List.length_cons]
    split <;> omega
theorem EndOk.refused {q : SeqD} {l : List DisD} {S : Sys} {r : Sys × EndD} (h : EndOk q l S r) : 0 ≤ r.2.refused ∧ r.2.refused ≤ q.abort.length := by
  rcases h.how with h2 | ⟨h2, U, _, _, _, h3⟩
  · rw [h2.2.2.1]; omega
  · rw [h3]; exact abortB_count _ _

/-! Where valves are behind an abort of which no order was refused. -/
def wantsK (l : List LitD) (v travel : Int) : Nat → Int
  | 0 => -1
  | k + 1 => if (l.getD k lit0).valve = v then (if (l.getD k lit0).opn then travel else 0) else wantsK l v travel k
def target (S : Sys) (v : Nat) : Int := if (S.at_ v).opn then (S.p.valve v).travel else 0
theorem abortB_target {l : List LitD} {v : Nat} {p : PlantD} (n : Nat) : ∀ (k : Nat) (V : Sys), k + n = l.length → V.p = p → (0 ≤ wantsK l v (p.valve v).travel k → wantsK l v (p.valve v).travel k = target V v) → (abortB V (l.drop k)).2 = 0 →
    0 ≤ wantsK l v (p.valve v).travel l.length → wantsK l v (p.valve v).travel l.length = target (abortB V (l.drop k)).1 v := by
  induction n with
  | zero =>
    intro k V hk hp h h0 hw
    obtain rfl : k = l.length := by omega
    rw [abortB_end]
    exact h hw
  | succ n ih =>
    intro k V hk hp h h0 hw
    have hlt : k < l.length := by omega
    rw [abortB_step hlt] at h0 ⊢
    have hc := abortB_count (l.drop (k + 1)) (orderB V (l.getD k lit0).valve (l.getD k lit0).opn).2
    have he : (orderB V (l.getD k lit0).valve (l.getD k lit0).opn).1 = 0 := by
      apply Classical.byContradiction
      intro hn
      simp only [if_neg hn] at h0
      omega
    simp only [if_pos he, Int.add_zero] at h0
    refine ih (k + 1) (orderB V (l.getD k lit0).valve (l.getD k lit0).opn).2 (by omega) ((orderB_keeps _ _ _).1.trans hp) (fun hw2 => ?_) h0 hw
    have hin : inB (l.getD k lit0).valve 0 (V.p.valves.length - 1) = true ∧ (orderB V (l.getD k lit0).valve (l.getD k lit0).opn).2 = { V with at_ := wantB V.at_ (l.getD k lit0).valve.toNat (l.getD k lit0).opn } := by
      unfold orderB at he ⊢
      split
      · next h1 =>
        rw [if_pos h1] at he
        split
        · exact ⟨h1, rfl⟩
        · next h2 => rw [if_neg h2] at he; exact absurd he (by show ¬ (9 : Int) = 0; decide)
      · next h1 => rw [if_neg h1] at he; exact absurd he (by show ¬ (7 : Int) = 0; decide)
    obtain ⟨hin, hT⟩ := hin
    have hin2 := inB_iff.1 hin
    rw [hT]
    unfold wantsK at hw2 ⊢
    unfold target wantB
    simp only
    rw [hp]
    by_cases e : (l.getD k lit0).valve = v
    · have e2 : (v : Nat) = (l.getD k lit0).valve.toNat := by omega
      rw [if_pos e, if_pos e2]
    · have e2 : ¬ (v : Nat) = (l.getD k lit0).valve.toNat := by omega
      rw [if_neg e] at hw2 ⊢
      rw [if_neg e2]
      have := h hw2
      unfold target at this
      rw [hp] at this
      exact this
def ticksB (S : Sys) : Nat → Sys
  | 0 => S
  | n + 1 => tickB (ticksB S n)
theorem ticksB_keeps (S : Sys) (n : Nat) : Keeps S (ticksB S n) := by
  induction n with
  | zero => exact Keeps.refl _
  | succ n ih => exact ih.trans (tickB_keeps _)
theorem ticksB_spot {S : Sys} {v : Nat} (hv : v < S.p.valves.length) (hs : S.stuck v = false) (n : Nat) : (ticksB S n).stuck v = false ∧ ((ticksB S n).at_ v).opn = (S.at_ v).opn ∧ (0 ≤ (S.at_ v).place ∧ (S.at_ v).place ≤ (S.p.valve v).travel →
    0 ≤ ((ticksB S n).at_ v).place ∧ ((ticksB S n).at_ v).place ≤ (S.p.valve v).travel ∧ ((S.at_ v).opn = true → min ((S.at_ v).place + n) (S.p.valve v).travel ≤ ((ticksB S n).at_ v).place) ∧ ((S.at_ v).opn = false → ((ticksB S n).at_ v).place ≤ max ((S.at_ v).place - n) 0)) := by
  induction n with
  | zero => exact ⟨hs, rfl, fun h => ⟨h.1, h.2, fun _ => by show _ ≤ (S.at_ v).place; omega, fun _ => by show (S.at_ v).place ≤ _; omega⟩⟩
  | succ n ih =>
    obtain ⟨h1, h2, h3⟩ := ih
    have hp := (ticksB_keeps S n).1
    have ht := tickB_rest (ticksB S n)
    have hm : ((ticksB S (n + 1)).at_ v) = move1 (S.p.valve v).travel false ((ticksB S n).at_ v) := by
      show ((tickB (ticksB S n)).at_ v) = _
      rw [ht.1]
      unfold movedB movedK
      rw [hp, if_pos hv, h1]
    refine ⟨by show (tickB (ticksB S n)).stuck v = false; rw [ht.2]; exact h1, ?_, fun h => ?_⟩
    · rw [hm]; unfold move1; rw [if_neg (by decide)]; split <;> exact h2
    · obtain ⟨g1, g2, g3, g4⟩ := h3 h
      rw [hm]
      unfold move1
      rw [if_neg (by decide), h2]
      cases ho : (S.at_ v).opn with
      | true =>
        have g5 := g3 ho
        rw [if_pos rfl]
        simp only
        exact ⟨by omega, by omega, fun _ => by push_cast; omega, fun h => by cases h⟩
      | false =>
        have g5 := g4 ho
        rw [if_neg (by decide)]
        simp only
        exact ⟨by omega, by omega, (fun h => by cases h), fun _ => by push_cast; omega⟩
theorem ticks8 {S : Sys} (ok : SysOk S) {v : Nat} (hv : v < S.p.valves.length) (hs : S.stuck v = false) : ((ticksB S 8).at_ v).place = target S v := by
  have h := ticksB_spot hv hs 8
  have h1 := ok.spots.1 v hv
  have h2 := ok.vs.2 v hv
  obtain ⟨_, _, h3⟩ := h
  obtain ⟨g1, g2, g3, g4⟩ := h3 h1
  unfold target
  cases ho : (S.at_ v).opn with
  | true => have := g3 ho; rw [if_pos rfl]; omega
  | false => have := g4 ho; rw [if_neg (by decide)]; omega
theorem EndOk.valves {q : SeqD} {l : List DisD} {S : Sys} {r : Sys × EndD} (h : EndOk q l S r) (ok : SysOk S) (hw : r.2.why ≠ 0) (hr : r.2.refused ≤ 0) {v : Nat} (hv : v < S.p.valves.length) (hs : stuckK l v l.length = false) (hwant : 0 ≤ wantsK q.abort v (S.p.valve v).travel q.abort.length) :
    numOf (ticksB r.1 8) 3 v = wantsK q.abort v (S.p.valve v).travel q.abort.length := by
  rcases h.how with h2 | ⟨h2, U, u1, u2, u3, u4⟩
  · exact absurd h2.1 hw
  · have hc := abortB_count q.abort U
    have h0 : (abortB U q.abort).2 = 0 := by rw [← u4]; rw [← u4] at hc; omega
    have ht := abortB_target (l := q.abort) (v := v) (p := S.p) q.abort.length 0 U (by omega) u1.1 (fun hh => absurd hh (by unfold wantsK; omega)) (by rw [List.drop_zero]; exact h0) hwant
    rw [List.drop_zero, ← u3] at ht
    have hk : Keeps S r.1 := by rw [u3]; exact u1.trans (abortB_keeps _ _)
    have hst : r.1.stuck v = false := by
      rw [u3, abortB_stuck]
      cases hh : U.stuck v with
      | false => rfl
      | true => have := u2 v hh; rw [hs] at this; cases this
    rw [ht]
    exact ticks8 (hk.2 ok) (by rw [hk.1]; exact hv) hst
theorem startB_stick (p : PlantD) (l : List DisD) : StickOk l (startB p) := fun v hv => by
  have : (false : Bool) = true := hv
  cases this
theorem runB_ends {S : Sys} {q : SeqD} {l : List DisD} (hv : (seqB S.p q && dissB S.p l) = true) (hs : StickOk l S) : EndOk q l S ((runB S q l).1, (runB S q l).2.1) ∧ (runB S q l).2.2 = 0 := by
  unfold runB
  rw [if_pos hv]
  rw [Bool.and_eq_true] at hv
  exact ⟨runF_ends hv.1 10001 0 S _ (Int.le_refl _) (by decide) (by omega) (Or.inl rfl) hs, rfl⟩
theorem runB_no {S : Sys} {q : SeqD} {l : List DisD} (hv : ¬ ((seqB S.p q && dissB S.p l) = true)) : runB S q l = (S, end0, 2) := by
  unfold runB; rw [if_neg hv]
theorem seqB_abort {p : PlantD} {q : SeqD} (h : seqB p q = true) : q.abort.length ≤ 16 := by
  unfold seqB ordsOk at h
  simp only [Bool.and_eq_true, decide_eq_true_eq] at h
  omega

end Go.Proofs.YtogobjmmgjfjjaaGreat
/- What is proved: what the form's reading of a test and of two numbers says of the cells. Conditions: those that each lemma states. -/
namespace Go.Proofs.YtogobjmmgjfjjaaGreat
open Go.ChangeShapes Go.WideShapes Go.ChangeAt Go.RowKit

section
variable {H : Type} {enc : TypeId × Value → H} {w : World} {cs : List Value}
theorem und_disS : Tryz.prog.underlying 93 = some (.struct (structOf Tryz.prog 93)) := by kernel_rfl
theorem und_testS : Tryz.prog.underlying 83 = some (.struct (structOf Tryz.prog 83)) := by kernel_rfl
theorem rwDiss (h : RdW enc Tryz.prog w 81 cs) : ∃ (A : Option Addr) (c : Nat) (l : List DisD), cs = [.slice A l.length c] ∧ DisAt w w.heap.size A l := by
  obtain ⟨A, c, l, e, _, hs, _⟩ := h.list disC (fun _ => True) dis0 (e := 93) (by kernel_rfl) (k := 4) (by kernel_rfl) (by omega) (fun l _ hr => by
    obtain ⟨_, a, b, c, d, e0, e1, e2, e3⟩ := rwFour hr und_disS (by kernel_rfl)
    refine ⟨⟨a, b, c, d⟩, trivial, fun j hj => ?_⟩
    match j, hj with
    | 0, _ => exact e0
    | 1, _ => exact e1
    | 2, _ => exact e2
    | 3, _ => exact e3)
  exact ⟨A, c, l, e, hs⟩
def testA (y : QV) (q : SeqD) (A : Option Addr) (n c : Nat) : Array Value := #[.slice y.sA q.steps.length y.sc, .slice y.rA q.reds.length y.rc, .slice y.aA q.abort.length y.ac, .slice A n c]
set_option maxRecDepth 100000 in
theorem arg_test {base : Nat} {v : Value} (ho : Value.okWide Tryz.prog w .any base 83 v) (h : RdW enc Tryz.prog w 83 v.cells.toList) :
    ∃ (y : QV) (q : SeqD) (A : Option Addr) (c : Nat) (l : List DisD), v = .agg (testA y q A l.length c) ∧ SeqAt w w.heap.size y q ∧ DisAt w w.heap.size A l := by
  obtain ⟨cs, rfl⟩ := okWide_str (P := Tryz.prog) (t := 83) und_testS ho
  obtain ⟨h1, h2⟩ := h.fields (l := [(43, 0), (81, 3)]) und_testS (by kernel_rfl)
  obtain ⟨_, y, q, e, hp⟩ := rwSeq (h2 (43, 0) (by simp))
  obtain ⟨A, c, l, e3, hs⟩ := rwDiss (h2 (81, 3) (by simp))
  rw [show Tryz.prog.cellsOf 81 = 1 from by kernel_rfl] at e3
  rw [show Tryz.prog.cellsOf 83 = 4 from by kernel_rfl] at h1
  rw [show Tryz.prog.cellsOf 43 = 3 from by kernel_rfl] at e
  have g : ∀ j, j < 3 → (Value.agg cs).cells.toList[j]? = (seqA y q)[j]? := fun j hj => by
    have := e j
    simpa [List.getElem?_take, hj] using this
  exact ⟨y, q, A, c, l, congrArg Value.agg (toList4 (cs := cs) h1 (g 0 (by omega)) (g 1 (by omega)) (g 2 (by omega)) (row_get e3)), hp, hs⟩
end
end Go.Proofs.YtogobjmmgjfjjaaGreat
/- What is proved: the law EngineReds answers true. Conditions: the plant and the test lie in memory. -/
namespace Go.Proofs.YtogobjmmgjfjjaaGreat
open Go.RowKit
end Go.Proofs.YtogobjmmgjfjjaaGreat
/- What is proved: the law EngineEnds answers true. Conditions: the plant and the test lie in memory. -/
namespace Go.Proofs.YtogobjmmgjfjjaaGreat
open Go.RowKit

theorem place_num {S : Sys} {v : Nat} (hv : v < S.p.valves.length) : numberB S 3 v = (numOf S 3 v, 0) := by
  unfold numberB
  rw [if_pos (by unfold needB; simp; exact inB_iff.2 (by omega))]
theorem wants_hit {l : List LitD} {v tr : Int} {k : Nat} (h : (l.getD k lit0).valve = v) : wantsK l v tr (k + 1) = if (l.getD k lit0).opn then tr else 0 := by show (if _ then _ else _) = _; rw [if_pos h]
theorem wants_miss {l : List LitD} {v tr : Int} {k : Nat} (h : ¬ (l.getD k lit0).valve = v) : wantsK l v tr (k + 1) = wantsK l v tr k := by show (if _ then _ else _) = _; rw [if_neg h]
theorem stuck_step {l : List DisD} {v : Int} {k : Nat} : stuckK l v (k + 1) = (stuckK l v k || (decide ((l.getD k dis0).kind = 0) && decide ((l.getD k dis0).of_ = v))) := rfl

set_option maxRecDepth 100000 in
set_option maxHeartbeats 16000000 in
theorem ends_any (w : World) (x : PV) (p : PlantD) (hp : PlantAt w w.heap.size x p) (y : QV) (q : SeqD) (hq : SeqAt w w.heap.size y q) (A : Option Addr) (cc : Nat) (l : List DisD) (hl : DisAt w w.heap.size A l) :
    Calls Tryz.prog 9 #[.agg (plantA x p), .agg (testA y q A l.length cc)] w fun e w' => e = .returned (.bool true) ∧ Below w.heap.size w w' := by
  obtain ⟨W, hW⟩ : ∃ W, W = (w.alloc (.cells (plantA x p) 27)).alloc (.cells (testA y q A l.length cc) 83) := ⟨_, rfl⟩
  have hbW : Below w.heap.size w W := by rw [hW]; exact ((Below.refl _ _).alloc (Nat.le_refl _) _).alloc (by simp) _
  have hWs : W.heap.size = w.heap.size + 2 := by rw [hW]; simp
  have hb0 : Bk W w.heap.size 27 (plantA x p) := by rw [hW]; exact (Bk.new _ _ _).alloc _
  have hb1 : Bk W (w.heap.size + 1) 83 (testA y q A l.length cc) := by rw [hW]; exact Bk.newAt _ _ _ _ (by simp)
  have HC : Hid (∀ wx, Below W.heap.size W wx → (wx.cell? ⟨w.heap.size, 0, none⟩ = some (.slice x.tA p.tanks.length x.tc) ∧ wx.cell? ⟨w.heap.size, 1, none⟩ = some (.slice x.vA p.valves.length x.vc) ∧
      wx.cell? ⟨w.heap.size, 2, none⟩ = some (.slice x.lA p.lines.length x.lc) ∧ wx.cell? ⟨w.heap.size, 3, none⟩ = some (.slice x.nA p.never.length x.nc)) ∧
      wx.cell? ⟨w.heap.size + 1, 0, none⟩ = some (.slice y.sA q.steps.length y.sc) ∧ wx.cell? ⟨w.heap.size + 1, 1, none⟩ = some (.slice y.rA q.reds.length y.rc) ∧ wx.cell? ⟨w.heap.size + 1, 2, none⟩ = some (.slice y.aA q.abort.length y.ac) ∧ wx.cell? ⟨w.heap.size + 1, 3, none⟩ = some (.slice A l.length cc)) := Lib.hid fun wx hx =>
    have h0 := hb0.below hx hb0.lt
    have h1 := hb1.below hx hb1.lt
    ⟨⟨h0.cell 0, h0.cell 1, h0.cell 2, h0.cell 3⟩, h1.cell 0, h1.cell 1, h1.cell 2, h1.cell 3⟩
  have HP : Hid (∀ wx, Below W.heap.size W wx → PlantAt wx wx.heap.size x p) := Lib.hid fun wx hx => ((hp.below hbW).below (hx.mono hbW.size)).mono (Nat.le_trans hbW.size hx.size)
  have HQ : Hid (∀ wx, Below W.heap.size W wx → SeqAt wx wx.heap.size y q) := Lib.hid fun wx hx => ((hq.below hbW).below (hx.mono hbW.size)).mono (Nat.le_trans hbW.size hx.size)
  have HL0 : Hid (∀ wx, Below W.heap.size W wx → DisAt wx wx.heap.size A l) := Lib.hid fun wx hx => Sl.mono (Sl.below (Sl.below hl hbW) (hx.mono hbW.size)) (Nat.le_trans hbW.size hx.size)
  have HB := Lib.hid hbW
  have HW := Lib.hid hW
  have HWS := Lib.hid hWs
  have HA := Lib.hid awake_any
  simp only [plantA, testA] at HW
  clear hp hq hl hbW hb0 hb1 hW hWs
  have HG := Lib.hid fun wx hx => great_any wx x p (HP.out wx hx)
  have HLO := Lib.hid fun wx hx => long_any wx y q (HQ.out wx hx)
  have HN := Lib.hid fun wx hx => new_any wx x p (HP.out wx hx)
  simp only [plantA, seqA] at HG HLO HN
  have END : Hid (∀ wx, Below W.heap.size W wx → Calls Tryz.prog 14 #[] wx fun e w' => e = .returned (.bool true) ∧ Below w.heap.size w w') := Lib.hid fun wx hx =>
    (HA.out wx).mono fun e w' ⟨he, hb⟩ => ⟨he, HB.out.trans ((hx.trans (hb.mono hx.size)).mono HB.out.size)⟩
  dsimp only [plantA, testA]
  obtain ⟨⟨c0, c1, c2, c3⟩, t0, t1, t2, t3⟩ := HC.out W (Below.refl _ _)
  go_enter Tryz.func9, Tryz.ntmps9
  go_wp2_with fail
  rw [← HW.out]
  refine (HN.out W (Below.refl _ _)).mono ?_
  rintro e w1 ⟨hb1, hnew⟩
  have HB1 : Hid (Below W.heap.size W w1) := Lib.hid hb1
  clear hb1 c0 c1 c2 c3 t0 t1 t2 t3
  by_cases hpb : plantB p = true
  case neg =>
    rw [if_neg hpb] at hnew
    subst hnew
    clear hpb
    obtain ⟨⟨c0, c1, c2, c3⟩, t0, t1, t2, t3⟩ := HC.out w1 HB1.out
    go_wp2_with fail
    refine (HG.out w1 HB1.out).mono ?_
    rintro e w2 ⟨b1, rfl, _, hb2⟩
    have HB2 : Hid (Below W.heap.size W w2) := Lib.hid (HB1.out.trans (hb2.mono HB1.out.size))
    clear hb2 c0 c1 c2 c3 t0 t1 t2 t3
    cases b1 with
    | true =>
      go_wp2_with fail
      refine (END.out w2 HB2.out).mono ?_
      rintro e w3 ⟨rfl, hb3⟩
      go_wp2_with fail
      go_ret
      exact ⟨rfl, hb3⟩
    | false =>
      obtain ⟨⟨c0, c1, c2, c3⟩, t0, t1, t2, t3⟩ := HC.out w2 HB2.out
      go_wp2_with fail
      refine (HLO.out w2 HB2.out).mono ?_
      rintro e w3 ⟨b2, rfl, hb3⟩
      have HB3 : Hid (Below W.heap.size W w3) := Lib.hid (HB2.out.trans (hb3.mono HB2.out.size))
      clear hb3 c0 c1 c2 c3 t0 t1 t2 t3
      obtain ⟨_, t0, t1, t2, t3⟩ := HC.out w3 HB3.out
      cases b2 with
      | true =>
        go_wp2_with fail
        refine (END.out w3 HB3.out).mono ?_
        rintro e w4 ⟨rfl, hb4⟩
        go_wp2_with fail
        go_ret
        exact ⟨rfl, hb4⟩
      | false =>
        by_cases h70 : (70 : Int) < (l.length : Int)
        · go_wp2_with fail
          refine (END.out w3 HB3.out).mono ?_
          rintro e w4 ⟨rfl, hb4⟩
          go_wp2_with fail
          go_ret
          exact ⟨rfl, hb4⟩
        · go_wp2_with fail
          refine (END.out w3 HB3.out).mono ?_
          rintro e w4 ⟨rfl, hb4⟩
          go_wp2_with fail
          go_ret
          exact ⟨rfl, hb4⟩
  case pos =>
    rw [if_pos hpb] at hnew
    obtain ⟨X, rfl, hsys, hlo⟩ := hnew
    have HSY := Lib.hid hsys
    have HXL := Lib.hid (show W.heap.size ≤ X.lo from hlo)
    have hvl : p.valves.length ≤ 12 := (plantB_lens hpb).2.2.2.1
    clear hpb hsys hlo
    obtain ⟨⟨c0, c1, c2, c3⟩, t0, t1, t2, t3⟩ := HC.out w1 HB1.out
    go_wp2_with fail
    refine (HG.out w1 HB1.out).mono ?_
    rintro e w2 ⟨b1, rfl, _, hb2⟩
    have HB2 : Hid (Below W.heap.size W w2) := Lib.hid (HB1.out.trans (hb2.mono HB1.out.size))
    have HS2 := Lib.hid (HSY.out.below hb2)
    clear hb2 c0 c1 c2 c3 t0 t1 t2 t3
    cases b1 with
    | true =>
      go_wp2_with fail
      refine (END.out w2 HB2.out).mono ?_
      rintro e w3 ⟨rfl, hb3⟩
      go_wp2_with fail
      go_ret
      exact ⟨rfl, hb3⟩
    | false =>
      obtain ⟨⟨c0, c1, c2, c3⟩, t0, t1, t2, t3⟩ := HC.out w2 HB2.out
      go_wp2_with fail
      refine (HLO.out w2 HB2.out).mono ?_
      rintro e w3 ⟨b2, rfl, hb3⟩
      have HB3 : Hid (Below W.heap.size W w3) := Lib.hid (HB2.out.trans (hb3.mono HB2.out.size))
      have HS3 := Lib.hid (HS2.out.below hb3)
      clear hb3 c0 c1 c2 c3 t0 t1 t2 t3 HS2 HSY
      obtain ⟨_, t0, t1, t2, t3⟩ := HC.out w3 HB3.out
      cases b2 with
      | true =>
        go_wp2_with fail
        refine (END.out w3 HB3.out).mono ?_
        rintro e w4 ⟨rfl, hb4⟩
        go_wp2_with fail
        go_ret
        exact ⟨rfl, hb4⟩
      | false =>
        by_cases h70 : (70 : Int) < (l.length : Int)
        · go_wp2_with fail
          refine (END.out w3 HB3.out).mono ?_
          rintro e w4 ⟨rfl, hb4⟩
          go_wp2_with fail
          go_ret
          exact ⟨rfl, hb4⟩
        have HCG : Hid (∀ z, Chg X w3 z → Below W.heap.size W z) := Lib.hid fun z hz => HB3.out.trans (hz.below HB3.out.size (by have := HXL.out; have := HS3.out.lo; omega) (by have := HXL.out; have := HS3.out.lo; omega) (by have := HXL.out; have := HS3.out.lo; omega))
        have hrun := run_any w3 X (startB p) HS3.out y q (fun z hz => HQ.out z (HCG.out z hz)) A cc l (fun z hz => HL0.out z (HCG.out z hz))
        simp only [seqA] at hrun
        have HRUN := Lib.hid hrun
        have HOK := Lib.hid HS3.out.ok
        clear hrun
        go_wp2_with fail
        refine HRUN.out.mono ?_
        rintro e w4 ⟨rfl, hs4, hc4⟩
        have HS4 := Lib.hid hs4
        have HC4 := Lib.hid hc4
        have HEND : Hid (∀ wx, Below w4.heap.size w4 wx → Calls Tryz.prog 14 #[] wx fun e w' => e = .returned (.bool true) ∧ Below w.heap.size w w') := Lib.hid fun wx hx => END.out wx ((HCG.out w4 HC4.out).trans (hx.mono (HCG.out w4 HC4.out).size))
        have HAL : Hid (∀ o, Below w4.heap.size w4 (w4.alloc o)) := Lib.hid fun o => (Below.refl _ _).alloc (Nat.le_refl _) _
        clear hs4 hc4 t0 t1 t2 t3 HRUN HS3
        by_cases hv : (seqB (startB p).p q && dissB (startB p).p l) = true
        case neg =>
          rw [runB_no hv]
          clear hv HS4
          simp only [endA, end0]
          go_wp2_with fail
          refine (HEND.out _ (HAL.out _)).mono ?_
          rintro e w6 ⟨rfl, hb6⟩
          go_wp2_with fail
          go_ret
          exact ⟨rfl, hb6⟩
        obtain ⟨hE, h0⟩ := runB_ends hv (startB_stick p l)
        rw [h0]
        have hab := seqB_abort (p := p) (q := q) (by rw [Bool.and_eq_true] at hv; exact hv.1)
        have hst64 : q.steps.length ≤ 64 := (seqB_lens (p := p) (q := q) (by rw [Bool.and_eq_true] at hv; exact hv.1)).1
        clear h0 hv
        obtain ⟨U, hU⟩ : ∃ U, (runB (startB p) q l).1 = U := ⟨_, rfl⟩
        obtain ⟨E, hEE⟩ : ∃ E, (runB (startB p) q l).2.1 = E := ⟨_, rfl⟩
        rw [hU, hEE] at hE
        rw [hU] at HS4
        rw [hEE]
        clear hU hEE
        obtain ⟨why, at_, idx, ref⟩ := E
        obtain ⟨g1, g2, g3⟩ := hE.at_last
        obtain ⟨g4, g5⟩ := hE.refused
        simp only at g1 g2 g3 g4 g5
        have HE := Lib.hid hE
        have HG3 := Lib.hid g3
        have HG2 := Lib.hid g2
        clear hE g2 g3
        simp only [endA]
        go_upto_region 5 with (fail)
        have HB5 := Lib.hid (HAL.out (.cells #[.int .i64 why, .int .i64 at_, .int .i64 idx, .int .i64 ref] 85))
        have HE5 := Lib.hid (Bk.new w4 85 #[.int .i64 why, .int .i64 at_, .int .i64 idx, .int .i64 ref])
        obtain ⟨eb, heb⟩ : ∃ eb, w4.heap.size = eb := ⟨_, rfl⟩
        obtain ⟨w5, hw5⟩ : ∃ w5, w4.alloc (.cells #[.int .i64 why, .int .i64 at_, .int .i64 idx, .int .i64 ref] 85) = w5 := ⟨_, rfl⟩
        have hwl : w4.heap.size ≤ w5.heap.size := by rw [← hw5]; simp
        rw [hw5] at HB5 HE5 ⊢
        rw [heb] at HE5 ⊢
        have HS5 := Lib.hid (HS4.out.below HB5.out)
        have HC5 := Lib.hid (HC4.out.trans (Chg.of_below HB5.out))
        have HW5 := Lib.hid (HCG.out w5 HC5.out)
        clear hw5 heb hwl
        have e0 := HE5.out.cell 0; have e1 := HE5.out.cell 1; have e2 := HE5.out.cell 2; have e3 := HE5.out.cell 3
        simp at e0 e1 e2 e3
        obtain ⟨_, t0, t1, t2, t3⟩ := HC.out w5 HW5.out
        go_wp2_with fail
        go_loopg [9, 10] q.steps.length (fun g m i wz => ∃ k : Nat, k + g = q.steps.length ∧ i = .int .i64 k ∧ m = .int .i64 (lastM q k) ∧ wz = w5)
        case atStart => exact ⟨0, by omega, rfl, rfl, rfl⟩
        case round =>
          obtain ⟨k, hkg, rfl, rfl, rfl⟩ := hrel
          by_cases hlt : k < q.steps.length
          · have hki : (k : Int) < (q.steps.length : Int) := by omega
            have h0k : (0 : Int) ≤ (k : Int) := by omega
            obtain ⟨b, off, hA, hBb, d0, _, _⟩ := (HQ.out _ HW5.out).steps.at3 hlt
            simp only [stepC] at d0
            rw [hA] at t0
            have hmx : max (lastM q k) (q.step k).at_ = lastM q (k + 1) := rfl
            rw [max_go] at hmx
            have HMX := Lib.hid hmx
            obtain ⟨m0, hm0⟩ : ∃ m, lastM q k = m := ⟨_, rfl⟩
            obtain ⟨a0, ha0⟩ : ∃ m, (q.step k).at_ = m := ⟨_, rfl⟩
            rw [ha0] at d0
            rw [hm0]
            rw [hm0, ha0] at HMX
            clear hA hmx hm0 ha0
            by_cases hmm : m0 < a0
            · have HMY : Hid (a0 = lastM q (k + 1)) := Lib.hid (by rw [← HMX.out, if_pos hmm])
              go_wp2_with fail
              go_roundg (q.steps.length - (k + 1))
              case measure => omega
              case rel => exact ⟨k + 1, by omega, by go_num, by rw [← HMY.out], rfl⟩
            · have HMY : Hid (m0 = lastM q (k + 1)) := Lib.hid (by rw [← HMX.out, if_neg hmm])
              go_wp2_with fail
              go_roundg (q.steps.length - (k + 1))
              case measure => omega
              case rel => exact ⟨k + 1, by omega, by go_num, by rw [← HMY.out], rfl⟩
          · obtain rfl : k = q.steps.length := by omega
            have hkk : ¬ ((q.steps.length : Int) < (q.steps.length : Int)) := by omega
            have g2 := HG2.out
            have HG6 := Lib.hid (show why = 0 → at_ = lastM q q.steps.length ∧ idx = 0 ∧ ref = 0 from HG3.out)
            obtain ⟨L, hL⟩ : ∃ L, lastM q q.steps.length = L := ⟨_, rfl⟩
            rw [hL] at g2 HG6 ⊢
            clear hL
            have g5' : ¬ ((q.abort.length : Int) < ref) := by omega
            have g1' : ¬ (at_ < 0) := by omega
            have g2' : ¬ (L < at_) := by omega
            by_cases hw0 : why = 0
            · subst hw0
              obtain ⟨rfl, rfl, rfl⟩ := HG6.out rfl
              go_wp2_with fail
              refine (HEND.out _ HB5.out).mono ?_
              rintro e w6 ⟨rfl, hb6⟩
              go_wp2_with fail
              go_ret
              exact ⟨rfl, hb6⟩
            by_cases hr0 : 0 < ref
            · go_wp2_with fail
              refine (HEND.out _ HB5.out).mono ?_
              rintro e w6 ⟨rfl, hb6⟩
              go_wp2_with fail
              go_ret
              exact ⟨rfl, hb6⟩
            have HFIN : Hid (∀ v : Nat, v < p.valves.length → stuckK l v l.length = false → 0 ≤ wantsK q.abort v (p.valve v).travel q.abort.length → numOf (ticksB U 8) 3 v = wantsK q.abort v (p.valve v).travel q.abort.length) := Lib.hid fun v hv h1 h2 =>
              HE.out.valves HOK.out hw0 (by show ref ≤ 0; omega) hv h1 h2
            have HTP : Hid ((ticksB U 8).p = p) := Lib.hid ((ticksB_keeps U 8).1.trans (by
              rcases HE.out.how with h2 | ⟨h2, V, u1, _, u3, _⟩
              · exact absurd h2.1 hw0
              · have h3 : U = (abortB V q.abort).1 := u3
                rw [h3, (abortB_keeps _ _).1, u1.1]; rfl))
            go_upto_region 14 with (fail)
            obtain rfl : ref = 0 := by omega
            have hwf : (why == 0) = false := by rw [beq_eq_false_iff_ne]; exact hw0
            clear hkk g1 g2 g4 g5 g1' g2' g5' t0 t1 t2 t3 hr0 HG6
            go_wp2_with fail
            clear e0 e1 e2 e3 hw0 hwf
            go_loopg [11] 8 (fun g i wr => ∃ k : Nat, k + g = 8 ∧ i = .int .i64 k ∧ Hid (SysAt wr X (ticksB U k) ∧ Chg X w3 wr))
            case atStart => exact ⟨0, by omega, rfl, Lib.hid ⟨HS5.out, HC5.out⟩⟩
            case round =>
              obtain ⟨k, hkg, rfl, hs⟩ := hrel
              by_cases hlt : k < 8
              · have hki : (k : Int) < 8 := by omega
                have HTK := Lib.hid (tick_any wr X _ hs.out.1)
                go_wp2_with fail
                refine HTK.out.mono ?_
                rintro e w6 ⟨rfl, h1, h2⟩
                have HS6 : Hid (SysAt w6 X (ticksB U (k + 1)) ∧ Chg X w3 w6) := Lib.hid ⟨h1, hs.out.2.trans h2⟩
                clear h1 h2
                go_wp2_with fail
                go_roundg (8 - (k + 1))
                case measure => omega
                case rel => exact ⟨k + 1, by omega, by go_num, HS6⟩
              · obtain rfl : k = 8 := by omega
                have hkk : ¬ (((8 : Nat) : Int) < 8) := by omega
                obtain ⟨T8, hT8⟩ : ∃ T, ticksB U 8 = T := ⟨_, rfl⟩
                rw [hT8] at hs HFIN HTP
                clear hT8 hlt hkg
                go_wp2_with fail
                clear hkk
                go_loopg [12] p.valves.length (fun g i wr => ∃ v : Nat, v + g = p.valves.length ∧ i = .int .i64 v ∧ Hid (SysAt wr X T8 ∧ Chg X w3 wr))
                case atStart => exact ⟨0, by omega, rfl, hs⟩
                case round =>
                  obtain ⟨v, hvg, rfl, hsv⟩ := hrel
                  have HWV := Lib.hid (HCG.out wr hsv.out.2)
                  obtain ⟨⟨_, c1, _, _⟩, _, _, t2, t3⟩ := HC.out wr HWV.out
                  rename World => wv
                  by_cases hlv : v < p.valves.length
                  · have hvi : (v : Int) < (p.valves.length : Int) := by omega
                    have h0v : (0 : Int) ≤ (v : Int) := by omega
                    obtain ⟨tr, htr⟩ : ∃ t, (p.valve v).travel = t := ⟨_, rfl⟩
                    have HTR := Lib.hid htr
                    obtain ⟨bv, ov, hAv, hBv, _, v1, _⟩ := (HP.out wv HWV.out).valves.at3 hlv
                    simp only [valveC] at v1
                    rw [htr] at v1
                    rw [hAv] at c1
                    clear htr hAv
                    go_wp2_with fail
                    go_loopg [13, 15] q.abort.length (fun g m i wz => ∃ k : Nat, k + g = q.abort.length ∧ i = .int .i64 k ∧ m = .int .i64 (wantsK q.abort v tr k) ∧ wv = wz)
                    case atStart => exact ⟨0, by omega, rfl, rfl, rfl⟩
                    case round =>
                      obtain ⟨k, hkg2, rfl, rfl, rfl⟩ := hrel
                      by_cases hlk : k < q.abort.length
                      · have hki : (k : Int) < (q.abort.length : Int) := by omega
                        have h0k : (0 : Int) ≤ (k : Int) := by omega
                        obtain ⟨b, off, hA, hBb, d0, d1⟩ := Sl.at2 (HQ.out _ HWV.out).abort hlk
                        have hh := wants_hit (l := q.abort) (v := (v : Int)) (tr := tr) (k := k)
                        have hm := wants_miss (l := q.abort) (v := (v : Int)) (tr := tr) (k := k)
                        obtain ⟨d, hd⟩ : ∃ d, q.abort.getD k lit0 = d := ⟨_, rfl⟩
                        rw [hd] at d0 d1 hh hm
                        obtain ⟨vv, oo⟩ := d
                        simp only [litC] at d0 d1 hh hm
                        have HH := Lib.hid hh
                        have HM := Lib.hid hm
                        rw [hA] at t2
                        clear hd hA hh hm
                        obtain ⟨m0, hm0⟩ : ∃ m, wantsK q.abort v tr k = m := ⟨_, rfl⟩
                        rw [hm0]
                        rw [hm0] at HM
                        clear hm0
                        by_cases ev : vv = (v : Int)
                        · subst ev
                          cases oo with
                          | true =>
                            go_wp2_with fail
                            go_roundg (q.abort.length - (k + 1))
                            case measure => omega
                            case rel => exact ⟨k + 1, by omega, by go_num, by rw [HH.out (by trivial)]; rfl, rfl⟩
                          | false =>
                            go_wp2_with fail
                            go_roundg (q.abort.length - (k + 1))
                            case measure => omega
                            case rel => exact ⟨k + 1, by omega, by go_num, by rw [HH.out (by trivial)]; rfl, rfl⟩
                        · go_wp2_with fail
                          go_roundg (q.abort.length - (k + 1))
                          case measure => omega
                          case rel => exact ⟨k + 1, by omega, by go_num, by rw [HM.out ev], rfl⟩
                      · obtain rfl : k = q.abort.length := by omega
                        have hkk : ¬ ((q.abort.length : Int) < (q.abort.length : Int)) := by omega
                        obtain ⟨wt, hwt⟩ : ∃ m, wantsK q.abort v tr q.abort.length = m := ⟨_, rfl⟩
                        rw [hwt]
                        have HF2 : Hid (stuckK l v l.length = false → 0 ≤ wt → numOf T8 3 v = wt) := Lib.hid fun h1 h2 => by
                          have := HFIN.out v hlv h1 (by rw [HTR.out, hwt]; exact h2)
                          rw [HTR.out, hwt] at this; exact this
                        clear hwt hlk hkg2
                        go_wp2_with fail
                        clear hkk
                        go_loopg [14, 16] l.length (fun g s i wz => ∃ k : Nat, k + g = l.length ∧ i = .int .i64 k ∧ s = .bool (stuckK l v k) ∧ wv = wz)
                        case atStart => exact ⟨0, by omega, rfl, rfl, rfl⟩
                        case round =>
                          obtain ⟨k, hkg3, rfl, rfl, rfl⟩ := hrel
                          by_cases hlk : k < l.length
                          · have hki : (k : Int) < (l.length : Int) := by omega
                            have h0k : (0 : Int) ≤ (k : Int) := by omega
                            obtain ⟨b, off, hA, hBb, _, d1, d2, _⟩ := Sl.at4 (HL0.out _ HWV.out) hlk
                            have hh := stuck_step (l := l) (v := (v : Int)) (k := k)
                            obtain ⟨d, hd⟩ : ∃ d, l.getD k dis0 = d := ⟨_, rfl⟩
                            rw [hd] at d1 d2 hh
                            obtain ⟨_, kd, of_, _⟩ := d
                            simp only [disC] at d1 d2 hh
                            have HH := Lib.hid hh
                            rw [hA] at t3
                            clear hd hA hh
                            cases hst : stuckK l v k with
                            | true =>
                              rw [hst] at HH
                              clear hst
                              go_wp2_with fail
                              go_roundg (l.length - (k + 1))
                              case measure => omega
                              case rel => exact ⟨k + 1, by omega, by go_num, by rw [HH.out]; rfl, rfl⟩
                            | false =>
                              rw [hst] at HH
                              clear hst
                              by_cases ek : kd = 0
                              · subst ek
                                by_cases ev : of_ = (v : Int)
                                · subst ev
                                  go_wp2_with fail
                                  go_roundg (l.length - (k + 1))
                                  case measure => omega
                                  case rel => exact ⟨k + 1, by omega, by go_num, by rw [HH.out]; simp, rfl⟩
                                · go_wp2_with fail
                                  go_roundg (l.length - (k + 1))
                                  case measure => omega
                                  case rel => exact ⟨k + 1, by omega, by go_num, by rw [HH.out]; simp [ev], rfl⟩
                              · go_wp2_with fail
                                go_roundg (l.length - (k + 1))
                                case measure => omega
                                case rel => exact ⟨k + 1, by omega, by go_num, by rw [HH.out]; simp [ek], rfl⟩
                          · obtain rfl : k = l.length := by omega
                            have hkk : ¬ ((l.length : Int) < (l.length : Int)) := by omega
                            have hnum := number_any _ X T8 hsv.out.1 3 v 0 0
                            rw [place_num (by rw [HTP.out]; exact hlv)] at hnum
                            have HNUM := Lib.hid hnum
                            clear hnum hlk hkg3
                            obtain ⟨nn, hnn⟩ : ∃ n, numOf T8 3 v = n := ⟨_, rfl⟩
                            rw [hnn] at HNUM HF2
                            clear hnn
                            cases hst : stuckK l v l.length with
                            | true =>
                              clear HF2 hst
                              by_cases hw : 0 ≤ wt
                              · go_wp2_with fail
                                refine HNUM.out.mono ?_
                                rintro e w9 ⟨rfl, hb9⟩
                                have HS9 : Hid (SysAt w9 X T8 ∧ Chg X w3 w9) := Lib.hid ⟨hsv.out.1.below hb9, hsv.out.2.trans (Chg.of_below hb9)⟩
                                clear hb9
                                go_wp2_with fail
                                go_roundg (p.valves.length - (v + 1))
                                case measure => omega
                                case rel => exact ⟨v + 1, by omega, by go_num, HS9⟩
                              · go_wp2_with fail
                                refine HNUM.out.mono ?_
                                rintro e w9 ⟨rfl, hb9⟩
                                have HS9 : Hid (SysAt w9 X T8 ∧ Chg X w3 w9) := Lib.hid ⟨hsv.out.1.below hb9, hsv.out.2.trans (Chg.of_below hb9)⟩
                                clear hb9
                                go_wp2_with fail
                                go_roundg (p.valves.length - (v + 1))
                                case measure => omega
                                case rel => exact ⟨v + 1, by omega, by go_num, HS9⟩
                            | false =>
                              have hf := HF2.out hst
                              clear HF2 hst
                              by_cases hw : 0 ≤ wt
                              · obtain rfl := hf hw
                                go_wp2_with fail
                                refine HNUM.out.mono ?_
                                rintro e w9 ⟨rfl, hb9⟩
                                have HS9 : Hid (SysAt w9 X T8 ∧ Chg X w3 w9) := Lib.hid ⟨hsv.out.1.below hb9, hsv.out.2.trans (Chg.of_below hb9)⟩
                                clear hb9
                                go_wp2_with fail
                                go_roundg (p.valves.length - (v + 1))
                                case measure => omega
                                case rel => exact ⟨v + 1, by omega, by go_num, HS9⟩
                              · clear hf
                                go_wp2_with fail
                                refine HNUM.out.mono ?_
                                rintro e w9 ⟨rfl, hb9⟩
                                have HS9 : Hid (SysAt w9 X T8 ∧ Chg X w3 w9) := Lib.hid ⟨hsv.out.1.below hb9, hsv.out.2.trans (Chg.of_below hb9)⟩
                                clear hb9
                                go_wp2_with fail
                                go_roundg (p.valves.length - (v + 1))
                                case measure => omega
                                case rel => exact ⟨v + 1, by omega, by go_num, HS9⟩
                  · obtain rfl : v = p.valves.length := by omega
                    have hkk : ¬ ((p.valves.length : Int) < (p.valves.length : Int)) := by omega
                    have hend := END.out _ HWV.out
                    have HEN := Lib.hid hend
                    clear hend
                    go_wp2_with fail
                    refine HEN.out.mono ?_
                    rintro e w6 ⟨rfl, hb6⟩
                    go_wp2_with fail
                    go_ret
                    exact ⟨rfl, hb6⟩
end Go.Proofs.YtogobjmmgjfjjaaGreat
