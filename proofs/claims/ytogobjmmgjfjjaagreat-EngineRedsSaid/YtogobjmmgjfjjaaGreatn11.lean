/- What is proved: the texts Y1 Lt Y2, one behind the other; each says at its head what it proves, and under which conditions. -/
import Derived.Test.YtogobjmmgjfjjaaGreatn10
/- What is proved: plain laws of a run of a sequence: at which tick it ends; a redline that is never kept ends it at the tick that is its Ticks; where valves are behind an abort. Conditions: those that each lemma states. -/
namespace Go.Proofs.YtogobjmmgjfjjaaGreat
open Go.RowKit

theorem SysOk.vs {S : Sys} (ok : SysOk S) : ValvesOk S.p := by
  have hv := ok.valid
  unfold plantB at hv
  simp only [Bool.and_eq_true] at hv
  exact valvesOk_of _ hv.1.1.1.1.2

/-! Who sticks. -/
def stuckK (l : List DisD) (v : Int) : Nat → Bool
  | 0 => false
  | k + 1 => stuckK l v k || (decide ((l.getD k dis0).kind = 0) && decide ((l.getD k dis0).of_ = v))
theorem stuckK_mono {l : List DisD} {v : Int} {i j : Nat} (h : stuckK l v i = true) (hij : i ≤ j) : stuckK l v j = true := by
  induction j with
  | zero => obtain rfl : i = 0 := by omega
            exact h
  | succ j ih =>
    by_cases e : i = j + 1
    · subst e; exact h
    · unfold stuckK; rw [ih (by omega)]; rfl
theorem flowB_rest (S : Sys) (l : LineD) : (flowB S l).at_ = S.at_ ∧ (flowB S l).stuck = S.stuck := by
  unfold flowB; simp only; split <;> split <;> exact ⟨rfl, rfl⟩
theorem linesK_rest (S : Sys) (k : Nat) : (linesK S k).at_ = S.at_ ∧ (linesK S k).stuck = S.stuck := by
  induction k with
  | zero => exact ⟨rfl, rfl⟩
  | succ k ih =>
    unfold linesK
    split
    · exact ⟨(flowB_rest _ _).1.trans ih.1, (flowB_rest _ _).2.trans ih.2⟩
    · exact ih
theorem tanksK_rest (S : Sys) (k : Nat) : (tanksK S k).at_ = S.at_ ∧ (tanksK S k).stuck = S.stuck := by
  induction k with
  | zero => exact ⟨rfl, rfl⟩
  | succ k ih => exact ih
theorem tickB_rest (S : Sys) : (tickB S).at_ = movedB S.p S.at_ S.stuck ∧ (tickB S).stuck = S.stuck := by
  unfold tickB
  exact ⟨(tanksK_rest _ _).1.trans ((linesK_rest _ _).1), (tanksK_rest _ _).2.trans ((linesK_rest _ _).2)⟩
theorem orderB_stuck (S : Sys) (v : Int) (o : Bool) : (orderB S v o).2.stuck = S.stuck := by
  unfold orderB; split
  · split <;> rfl
  · rfl
theorem leakB_stuck (S : Sys) (v r : Int) : (leakB S v r).2.stuck = S.stuck := by
  unfold leakB; split
  · split <;> rfl
  · rfl
theorem giveB_stuck (l : List LitD) : ∀ S, (giveB S l).1.stuck = S.stuck := by
  induction l with
  | nil => intro S; rfl
  | cons o os ih =>
    intro S
    unfold giveB
    split
    · exact (ih _).trans (orderB_stuck _ _ _)
    · rfl
theorem abortB_stuck (l : List LitD) : ∀ S, (abortB S l).1.stuck = S.stuck := by
  induction l with
  | nil => intro S; rfl
  | cons o os ih => intro S; exact (ih _).trans (orderB_stuck _ _ _)
theorem stepsF_stuck (q : SeqD) (tick : Int) (m : Nat) : ∀ i S, (stepsF q tick m i S).1.stuck = S.stuck := by
  induction m with
  | zero => intro i S; rfl
  | succ m ih =>
    intro i S
    unfold stepsF
    split
    · split
      · exact giveB_stuck _ _
      · exact (ih _ _).trans (giveB_stuck _ _)
    · exact ih _ _
/-- Only what is told to stick does. -/
def StickOk (l : List DisD) (S : Sys) : Prop := ∀ v : Nat, S.stuck v = true → stuckK l v l.length = true
theorem StickOk.of_eq {l : List DisD} {S T : Sys} (h : StickOk l S) (e : T.stuck = S.stuck) : StickOk l T := fun v hv => h v (by rw [← e]; exact hv)
theorem wrongK_stick {l : List DisD} {S : Sys} (h : StickOk l S) (tick : Int) (k : Nat) (hk : k ≤ l.length) : StickOk l (wrongK S l tick k) := by
  induction k with
  | zero => exact h
  | succ k ih =>
    have h1 := ih (by omega)
    show StickOk l (wrong1 (wrongK S l tick k) (l.getD k dis0) tick)
    unfold wrong1
    split
    · split
      · next h0 =>
        intro v hv
        unfold stickB at hv
        split at hv
        · next hin =>
          have hin2 := inB_iff.1 hin
          simp only at hv
          split at hv
          · next hvn =>
            refine stuckK_mono (i := k + 1) ?_ hk
            unfold stuckK
            have e2 : (l.getD k dis0).of_ = (v : Int) := by omega
            rw [h0, e2]; simp
          · exact h1 v hv
        · exact h1 v hv
      · exact h1.of_eq (leakB_stuck _ _ _)
    · exact h1
theorem onceB_stick {q : SeqD} {l : List DisD} {S : Sys} (h : StickOk l S) (tick : Int) (c : Nat → Int) : StickOk l (onceB q l tick S c).s := by
  have h1 : StickOk l (wrongB S l tick) := wrongK_stick h tick l.length (Nat.le_refl _)
  have h2 := h1.of_eq (stepsF_stuck q tick q.steps.length 0 (wrongB S l tick))
  unfold onceB
  split
  · exact h2
  · exact h2.of_eq (tickB_rest _).2

/-! How a tick ends. -/
theorem ticked_cases (S : Sys) (q : SeqD) (tick : Int) (c : Nat → Int) :
    ((ticked S q tick c).why = -1 ∧ moreF q tick = true ∧ firstN (hurtF q c) q.reds.length 0 = none) ∨
    ((ticked S q tick c).why = 0 ∧ (ticked S q tick c).at_ = tick ∧ (ticked S q tick c).index = 0 ∧ (ticked S q tick c).refused = 0 ∧ moreF q tick = false) ∨
    ((ticked S q tick c).why = 2 ∧ (ticked S q tick c).at_ = tick) ∨
    ∃ i, (ticked S q tick c).why = 3 ∧ (ticked S q tick c).at_ = tick ∧ (ticked S q tick c).index = (i : Nat) ∧ firstN (hurtF q c) q.reds.length 0 = some i := by
  unfold ticked
  cases h1 : firstN (hurtF q c) q.reds.length 0 with
  | some i => exact Or.inr (Or.inr (Or.inr ⟨i, rfl, rfl, rfl, rfl⟩))
  | none =>
    cases h2 : firstN (missF S q tick) q.steps.length 0 with
    | some i => exact Or.inr (Or.inr (Or.inl ⟨rfl, rfl⟩))
    | none =>
      cases h3 : moreF q tick with
      | true => exact Or.inl ⟨rfl, rfl, rfl⟩
      | false => exact Or.inr (Or.inl ⟨rfl, rfl, rfl, rfl, rfl⟩)
theorem onceB_hit {q : SeqD} {l : List DisD} {tick : Int} {S : Sys} {c : Nat → Int} {i : Nat} (h : (stepsF q tick q.steps.length 0 (wrongB S l tick)).2 = some i) :
    onceB q l tick S c = ⟨(stepsF q tick q.steps.length 0 (wrongB S l tick)).1, c, ⟨1, tick, i, 0⟩⟩ := by unfold onceB; rw [h]
theorem onceB_on {q : SeqD} {l : List DisD} {tick : Int} {S : Sys} {c : Nat → Int} (h : (stepsF q tick q.steps.length 0 (wrongB S l tick)).2 = none) :
    onceB q l tick S c = ⟨tickB (stepsF q tick q.steps.length 0 (wrongB S l tick)).1, countB (tickB (stepsF q tick q.steps.length 0 (wrongB S l tick)).1) q c,
      ticked (tickB (stepsF q tick q.steps.length 0 (wrongB S l tick)).1) q tick (countB (tickB (stepsF q tick q.steps.length 0 (wrongB S l tick)).1) q c)⟩ := by unfold onceB; rw [h]
theorem onceB_cases (q : SeqD) (l : List DisD) (tick : Int) (S : Sys) (c : Nat → Int) :
    ((onceB q l tick S c).e.why = -1 ∧ moreF q tick = true) ∨
    ((onceB q l tick S c).e.why = 0 ∧ (onceB q l tick S c).e.at_ = tick ∧ (onceB q l tick S c).e.index = 0 ∧ (onceB q l tick S c).e.refused = 0 ∧ moreF q tick = false) ∨
    (1 ≤ (onceB q l tick S c).e.why ∧ (onceB q l tick S c).e.at_ = tick) := by
  cases h : (stepsF q tick q.steps.length 0 (wrongB S l tick)).2 with
  | some i => rw [onceB_hit h]; exact Or.inr (Or.inr ⟨by show (1 : Int) ≤ 1; decide, rfl⟩)
  | none =>
    rw [onceB_on h]
    rcases ticked_cases (tickB (stepsF q tick q.steps.length 0 (wrongB S l tick)).1) q tick (countB (tickB (stepsF q tick q.steps.length 0 (wrongB S l tick)).1) q c) with h1 | h1 | h1 | ⟨i, h1⟩
    · exact Or.inl ⟨h1.1, h1.2.1⟩
    · exact Or.inr (Or.inl h1)
    · exact Or.inr (Or.inr ⟨by rw [h1.1]; decide, h1.2⟩)
    · exact Or.inr (Or.inr ⟨by rw [h1.1]; decide, h1.2.1⟩)
theorem moreF_iff {q : SeqD} {tick : Int} : moreF q tick = true ↔ ∃ k, k < q.steps.length ∧ tick < (q.step k).at_ := by
  unfold moreF
  constructor
  · intro h
    apply Classical.byContradiction
    intro hn
    have : (allN q.steps.length fun i => !decide (tick < (q.step i).at_)) = true := allN_iff.2 fun i hi => by
      have : ¬ tick < (q.step i).at_ := fun h2 => hn ⟨i, hi, h2⟩
      simp; omega
    rw [this] at h; cases h
  · rintro ⟨k, hk, hlt⟩
    cases hh : allN q.steps.length fun i => !decide (tick < (q.step i).at_) with
    | false => rfl
    | true => have := allN_iff.1 hh k hk; simp at this; omega
/-- How a run ends. -/
structure EndOk (q : SeqD) (l : List DisD) (S : Sys) (r : Sys × EndD) : Prop where
  at0 : 0 ≤ r.2.at_
  last : r.2.at_ = 0 ∨ ∃ k, k < q.steps.length ∧ r.2.at_ ≤ (q.step k).at_
  how : (r.2.why = 0 ∧ r.2.index = 0 ∧ r.2.refused = 0 ∧ moreF q r.2.at_ = false) ∨ (1 ≤ r.2.why ∧ ∃ U, Keeps S U ∧ StickOk l U ∧ r.1 = (abortB U q.abort).1 ∧ r.2.refused = (abortB U q.abort).2)
theorem runF_ends {p : PlantD} {q : SeqD} {l : List DisD} (hq : seqB p q = true) : ∀ (f : Nat) (tick : Int) (S : Sys) (c : Nat → Int), 0 ≤ tick → tick + f = 10001 → 1 ≤ f → (tick = 0 ∨ ∃ k, k < q.steps.length ∧ tick ≤ (q.step k).at_) → StickOk l S → EndOk q l S (runF q l f tick S c) := by
  intro f
  induction f with
  | zero => intro tick S c _ _ h; omega
  | succ f ih =>
    intro tick S c h0 hf _ hl hs
    have hk := onceB_keeps q l tick S c
    have hst := onceB_stick (q := q) hs tick c
    rw [runF_succ]
    rcases onceB_cases q l tick S c with h1 | h1 | h1
    · rw [if_neg (by rw [h1.1]; decide), if_neg (by rw [h1.1]; decide)]
      obtain ⟨k, hk1, hk2⟩ := moreF_iff.1 h1.2
      have := (steps_at hq hk1).2
      have hi := ih (tick + 1) (onceB q l tick S c).s (onceB q l tick S c).c (by omega) (by omega) (by omega) (Or.inr ⟨k, hk1, by omega⟩) hst
      refine ⟨hi.at0, hi.last, ?_⟩
      rcases hi.how with h2 | ⟨h2, U, u1, u2, u3⟩
      · exact Or.inl h2
      · exact Or.inr ⟨h2, U, hk.trans u1, u2, u3⟩
    · rw [if_pos h1.1]
      exact ⟨by show 0 ≤ (onceB q l tick S c).e.at_; rw [h1.2.1]; exact h0, by show (onceB q l tick S c).e.at_ = 0 ∨ _; rw [h1.2.1]; exact hl, Or.inl ⟨h1.1, h1.2.2.1, h1.2.2.2.1, by show moreF q (onceB q l tick S c).e.at_ = false; rw [h1.2.1]; exact h1.2.2.2.2⟩⟩
    · rw [if_neg (by omega), if_pos (by omega)]
      exact ⟨by show 0 ≤ (onceB q l tick S c).e.at_; rw [h1.2]; exact h0, by show (onceB q l tick S c).e.at_ = 0 ∨ _; rw [h1.2]; exact hl, Or.inr ⟨h1.1, _, hk, hst, rfl, rfl⟩⟩
/-- The last tick of a sequence, as the law reckons it. -/
def lastM (q : SeqD) : Nat → Int
  | 0 => 0
  | k + 1 => max (lastM q k) (q.step k).at_
theorem lastM_ge (q : SeqD) (n : Nat) : 0 ≤ lastM q n ∧ ∀ k, k < n → (q.step k).at_ ≤ lastM q n := by
  induction n with
  | zero => exact ⟨Int.le_refl _, fun k hk => absurd hk (by omega)⟩
  | succ n ih =>
    unfold lastM
    refine ⟨by omega, fun k hk => ?_⟩
    by_cases e : k = n
    · subst e; omega
    · have := ih.2 k (by omega); omega
theorem lastM_le {q : SeqD} {b : Int} (h0 : 0 ≤ b) (n : Nat) (h : ∀ k, k < n → (q.step k).at_ ≤ b) : lastM q n ≤ b := by
  induction n with
  | zero => exact h0
  | succ n ih =>
    unfold lastM
    have h1 := ih (fun k hk => h k (by omega))
    have h2 := h n (by omega)
    omega
theorem EndOk.at_last {q : SeqD} {l : List DisD} {S : Sys} {r : Sys × EndD} (h : EndOk q l S r) : 0 ≤ r.2.at_ ∧ r.2.at_ ≤ lastM q q.steps.length ∧ (r.2.why = 0 → r.2.at_ = lastM q q.steps.length ∧ r.2.index = 0 ∧ r.2.refused = 0) := by
  have hg := lastM_ge q q.steps.length
  have h1 : r.2.at_ ≤ lastM q q.steps.length := by
    rcases h.last with h2 | ⟨k, hk, h2⟩
    · have := hg.1; omega
    · have := hg.2 k hk; omega
  refine ⟨h.at0, h1, fun hw => ?_⟩
  rcases h.how with h2 | h2
  · refine ⟨?_, h2.2.1, h2.2.2.1⟩
    have h3 : lastM q q.steps.length ≤ r.2.at_ := lastM_le h.at0 _ fun k hk => by
      apply Classical.byContradiction
      intro hn
      have : moreF q r.2.at_ = true := moreF_iff.2 ⟨k, hk, by omega⟩
      rw [h2.2.2.2] at this; cases this
    omega
  · omega
theorem abortB_count (l : List LitD) : ∀ S, 0 ≤ (abortB S l).2 ∧ (abortB S l).2 ≤ l.length := by
  induction l with
  | nil => intro S; exact ⟨Int.le_refl _, Int.le_refl _⟩
  | cons o os ih =>
    intro S
    have := ih (orderB S o.valve o.opn).2
    unfold abortB
    simp only [List.length_cons]
    split <;> omega
theorem EndOk.refused {q : SeqD} {l : List DisD} {S : Sys} {r : Sys × EndD} (h : EndOk q l S r) : 0 ≤ r.2.refused ∧ r.2.refused ≤ q.abort.length := by
  rcases h.how with h2 | ⟨h2, U, _, _, _, h3⟩
  · rw [h2.2.2.1]; omega
  · rw [h3]; exact abortB_count _ _

/-! Where valves are behind an abort of which no order was refused. -/
def wantsK (l : List LitD) (v travel : Int) : Nat → Int
  | 0 => -1
  | k + 1 => if (l.getD k lit0).valve = v then (if (l.getD k lit0).opn then travel else 0) else wantsK l v travel k
def target (S : Sys) (v : Nat) : Int := if (S.at_ v).opn then (S.p.valve v).travel else 0
theorem abortB_target {l : List LitD} {v : Nat} {p : PlantD} (n : Nat) : ∀ (k : Nat) (V : Sys), k + n = l.length → V.p = p → (0 ≤ wantsK l v (p.valve v).travel k → wantsK l v (p.valve v).travel k = target V v) → (abortB V (l.drop k)).2 = 0 →
    0 ≤ wantsK l v (p.valve v).travel l.length → wantsK l v (p.valve v).travel l.length = target (abortB V (l.drop k)).1 v := by
  induction n with
  | zero =>
    intro k V hk hp h h0 hw
    obtain rfl : k = l.length := by omega
    rw [abortB_end]
    exact h hw
  | succ n ih =>
    intro k V hk hp h h0 hw
    have hlt : k < l.length := by omega
    rw [abortB_step hlt] at h0 ⊢
    have hc := abortB_count (l.drop (k + 1)) (orderB V (l.getD k lit0).valve (l.getD k lit0).opn).2
    have he : (orderB V (l.getD k lit0).valve (l.getD k lit0).opn).1 = 0 := by
      apply Classical.byContradiction
      intro hn
      simp only [if_neg hn] at h0
      omega
    simp only [if_pos he, Int.add_zero] at h0
    refine ih (k + 1) (orderB V (l.getD k lit0).valve (l.getD k lit0).opn).2 (by omega) ((orderB_keeps _ _ _).1.trans hp) (fun hw2 => ?_) h0 hw
    have hin : inB (l.getD k lit0).valve 0 (V.p.valves.length - 1) = true ∧ (orderB V (l.getD k lit0).valve (l.getD k lit0).opn).2 = { V with at_ := wantB V.at_ (l.getD k lit0).valve.toNat (l.getD k lit0).opn } := by
      unfold orderB at he ⊢
      split
      · next h1 =>
        rw [if_pos h1] at he
        split
        · exact ⟨h1, rfl⟩
        · next h2 => rw [if_neg h2] at he; exact absurd he (by show ¬ (9 : Int) = 0; decide)
      · next h1 => rw [if_neg h1] at he; exact absurd he (by show ¬ (7 : Int) = 0; decide)
    obtain ⟨hin, hT⟩ := hin
    have hin2 := inB_iff.1 hin
    rw [hT]
    unfold wantsK at hw2 ⊢
    unfold target wantB
    simp only
    rw [hp]
    by_cases e : (l.getD k lit0).valve = v
    · have e2 : (v : Nat) = (l.getD k lit0).valve.toNat := by omega
      rw [if_pos e, if_pos e2]
    · have e2 : ¬ (v : Nat) = (l.getD k lit0).valve.toNat := by omega
      rw [if_neg e] at hw2 ⊢
      rw [if_neg e2]
      have := h hw2
      unfold target at this
      rw [hp] at this
      exact this
def ticksB (S : Sys) : Nat → Sys
  | 0 => S
  | n + 1 => tickB (ticksB S n)
theorem ticksB_keeps (S : Sys) (n : Nat) : Keeps S (ticksB S n) := by
  induction n with
  | zero => exact Keeps.refl _
  | succ n ih => exact ih.trans (tickB_keeps _)
theorem ticksB_spot {S : Sys} {v : Nat} (hv : v < S.p.valves.length) (hs : S.stuck v = false) (n : Nat) : (ticksB S n).stuck v = false ∧ ((ticksB S n).at_ v).opn = (S.at_ v).opn ∧ (0 ≤ (S.at_ v).place ∧ (S.at_ v).place ≤ (S.p.valve v).travel →
    0 ≤ ((ticksB S n).at_ v).place ∧ ((ticksB S n).at_ v).place ≤ (S.p.valve v).travel ∧ ((S.at_ v).opn = true → min ((S.at_ v).place + n) (S.p.valve v).travel ≤ ((ticksB S n).at_ v).place) ∧ ((S.at_ v).opn = false → ((ticksB S n).at_ v).place ≤ max ((S.at_ v).place - n) 0)) := by
  induction n with
  | zero => exact ⟨hs, rfl, fun h => ⟨h.1, h.2, fun _ => by show _ ≤ (S.at_ v).place; omega, fun _ => by show (S.at_ v).place ≤ _; omega⟩⟩
  | succ n ih =>
    obtain ⟨h1, h2, h3⟩ := ih
    have hp := (ticksB_keeps S n).1
    have ht := tickB_rest (ticksB S n)
    have hm : ((ticksB S (n + 1)).at_ v) = move1 (S.p.valve v).travel false ((ticksB S n).at_ v) := by
      show ((tickB (ticksB S n)).at_ v) = _
      rw [ht.1]
      unfold movedB movedK
      rw [hp, if_pos hv, h1]
    refine ⟨by show (tickB (ticksB S n)).stuck v = false; rw [ht.2]; exact h1, ?_, fun h => ?_⟩
    · rw [hm]; unfold move1; rw [if_neg (by decide)]; split <;> exact h2
    · obtain ⟨g1, g2, g3, g4⟩ := h3 h
      rw [hm]
      unfold move1
      rw [if_neg (by decide), h2]
      cases ho : (S.at_ v).opn with
      | true =>
        have g5 := g3 ho
        rw [if_pos rfl]
        simp only
        exact ⟨by omega, by omega, fun _ => by push_cast; omega, fun h => by cases h⟩
      | false =>
        have g5 := g4 ho
        rw [if_neg (by decide)]
        simp only
        exact ⟨by omega, by omega, (fun h => by cases h), fun _ => by push_cast; omega⟩
theorem ticks8 {S : Sys} (ok : SysOk S) {v : Nat} (hv : v < S.p.valves.length) (hs : S.stuck v = false) : ((ticksB S 8).at_ v).place = target S v := by
  have h := ticksB_spot hv hs 8
  have h1 := ok.spots.1 v hv
  have h2 := ok.vs.2 v hv
  obtain ⟨_, _, h3⟩ := h
  obtain ⟨g1, g2, g3, g4⟩ := h3 h1
  unfold target
  cases ho : (S.at_ v).opn with
  | true => have := g3 ho; rw [if_pos rfl]; omega
  | false => have := g4 ho; rw [if_neg (by decide)]; omega
theorem EndOk.valves {q : SeqD} {l : List DisD} {S : Sys} {r : Sys × EndD} (h : EndOk q l S r) (ok : SysOk S) (hw : r.2.why ≠ 0) (hr : r.2.refused ≤ 0) {v : Nat} (hv : v < S.p.valves.length) (hs : stuckK l v l.length = false) (hwant : 0 ≤ wantsK q.abort v (S.p.valve v).travel q.abort.length) :
    numOf (ticksB r.1 8) 3 v = wantsK q.abort v (S.p.valve v).travel q.abort.length := by
  rcases h.how with h2 | ⟨h2, U, u1, u2, u3, u4⟩
  · exact absurd h2.1 hw
  · have hc := abortB_count q.abort U
    have h0 : (abortB U q.abort).2 = 0 := by rw [← u4]; rw [← u4] at hc; omega
    have ht := abortB_target (l := q.abort) (v := v) (p := S.p) q.abort.length 0 U (by omega) u1.1 (fun hh => absurd hh (by unfold wantsK; omega)) (by rw [List.drop_zero]; exact h0) hwant
    rw [List.drop_zero, ← u3] at ht
    have hk : Keeps S r.1 := by rw [u3]; exact u1.trans (abortB_keeps _ _)
    have hst : r.1.stuck v = false := by
      rw [u3, abortB_stuck]
      cases hh : U.stuck v with
      | false => rfl
      | true => have := u2 v hh; rw [hs] at this; cases this
    rw [ht]
    exact ticks8 (hk.2 ok) (by rw [hk.1]; exact hv) hst
theorem startB_stick (p : PlantD) (l : List DisD) : StickOk l (startB p) := fun v hv => by
  have : (false : Bool) = true := hv
  cases this
theorem runB_ends {S : Sys} {q : SeqD} {l : List DisD} (hv : (seqB S.p q && dissB S.p l) = true) (hs : StickOk l S) : EndOk q l S ((runB S q l).1, (runB S q l).2.1) ∧ (runB S q l).2.2 = 0 := by
  unfold runB
  rw [if_pos hv]
  rw [Bool.and_eq_true] at hv
  exact ⟨runF_ends hv.1 10001 0 S _ (Int.le_refl _) (by decide) (by omega) (Or.inl rfl) hs, rfl⟩
theorem runB_no {S : Sys} {q : SeqD} {l : List DisD} (hv : ¬ ((seqB S.p q && dissB S.p l) = true)) : runB S q l = (S, end0, 2) := by
  unfold runB; rw [if_neg hv]
theorem seqB_abort {p : PlantD} {q : SeqD} (h : seqB p q = true) : q.abort.length ≤ 16 := by
  unfold seqB ordsOk at h
  simp only [Bool.and_eq_true, decide_eq_true_eq] at h
  omega

/-! A redline that is never kept. -/
theorem place_low {S : Sys} (ok : SysOk S) {of_ : Int} (ho : inB of_ 0 (S.p.valves.length - 1) = true) : keptB S ⟨3, of_, 100, 200⟩ = false := by
  have h := inB_iff.1 ho
  have h1 := ok.spots.1 of_.toNat (by omega)
  have h2 := ok.vs.2 of_.toNat (by omega)
  show inB (numOf S 3 of_) 100 200 = false
  have e : numOf S 3 of_ = (S.at_ of_.toNat).place := rfl
  rw [e]
  unfold inB
  simp
  omega
theorem runF_red {q : SeqD} {l : List DisD} {of_ tk : Int} (hr : q.reds = [⟨⟨3, of_, 100, 200⟩, tk⟩]) : ∀ (f : Nat) (tick : Int) (S : Sys) (c : Nat → Int), SysOk S → inB of_ 0 (S.p.valves.length - 1) = true → c 0 = tick → tick ≤ tk → tk < tick + f →
    (runF q l f tick S c).2.at_ ≤ tk ∧ ((runF q l f tick S c).2.why = 3 → (runF q l f tick S c).2.at_ = tk ∧ (runF q l f tick S c).2.index = 0) := by
  intro f
  induction f with
  | zero => intro tick S c _ _ _ _ h; omega
  | succ f ih =>
    intro tick S c ok ho hc ht hf
    have hk := onceB_keeps q l tick S c
    cases h : (stepsF q tick q.steps.length 0 (wrongB S l tick)).2 with
    | some i =>
      rw [runF_succ]
      rw [onceB_hit h]
      rw [if_neg (by show ¬ (1 : Int) = 0; decide), if_pos (by show (0 : Int) < 1; decide)]
      exact ⟨ht, fun h3 => absurd h3 (by show ¬ (1 : Int) = 3; decide)⟩
    | none =>
      have ho2 := onceB_on (c := c) h
      obtain ⟨T, hT⟩ : ∃ T, tickB (stepsF q tick q.steps.length 0 (wrongB S l tick)).1 = T := ⟨_, rfl⟩
      rw [hT] at ho2
      rw [ho2] at hk
      have okT : SysOk T := hk.2 ok
      have hoT : inB of_ 0 (T.p.valves.length - 1) = true := by rw [show T.p = S.p from hk.1]; exact ho
      have hred : q.red 0 = ⟨⟨3, of_, 100, 200⟩, tk⟩ := by unfold SeqD.red; rw [hr]; rfl
      have hcn : countB T q c 0 = tick + 1 := by
        unfold countB
        rw [hred, place_low okT hoT]
        simp [hc]
      have hlen : q.reds.length = 1 := by rw [hr]; rfl
      have hhurt : firstN (hurtF q (countB T q c)) q.reds.length 0 = if tk < tick + 1 then some 0 else none := by
        rw [hlen]
        unfold firstN hurtF
        rw [hred, hcn]
        simp only [decide_eq_true_eq]
        rfl
      rw [runF_succ]
      rw [ho2]
      rcases ticked_cases T q tick (countB T q c) with h1 | h1 | h1 | ⟨i, h1⟩
      · have h4 := h1.2.2
        rw [hhurt] at h4
        have h5 : ¬ tk < tick + 1 := fun hh => by rw [if_pos hh] at h4; cases h4
        rw [if_neg (by show ¬ (ticked T q tick (countB T q c)).why = 0; rw [h1.1]; decide), if_neg (by show ¬ 0 < (ticked T q tick (countB T q c)).why; rw [h1.1]; decide)]
        exact ih (tick + 1) T (countB T q c) okT hoT hcn (by omega) (by omega)
      · rw [if_pos (show (ticked T q tick (countB T q c)).why = 0 from h1.1)]
        exact ⟨by show (ticked T q tick (countB T q c)).at_ ≤ tk; rw [h1.2.1]; exact ht, fun h3 => absurd ((show (ticked T q tick (countB T q c)).why = 3 from h3).symm.trans h1.1) (by decide)⟩
      · rw [if_neg (by show ¬ (ticked T q tick (countB T q c)).why = 0; rw [h1.1]; decide), if_pos (by show 0 < (ticked T q tick (countB T q c)).why; rw [h1.1]; decide)]
        exact ⟨by show (ticked T q tick (countB T q c)).at_ ≤ tk; rw [h1.2]; exact ht, fun h3 => absurd ((show (ticked T q tick (countB T q c)).why = 3 from h3).symm.trans h1.1) (by decide)⟩
      · have h4 := h1.2.2.2
        rw [hhurt] at h4
        have h5 : tk < tick + 1 := Classical.byContradiction fun hh => by rw [if_neg hh] at h4; cases h4
        rw [if_pos h5] at h4
        have h6 : (0 : Nat) = i := Option.some.inj h4
        rw [if_neg (by show ¬ (ticked T q tick (countB T q c)).why = 0; rw [h1.1]; decide), if_pos (by show 0 < (ticked T q tick (countB T q c)).why; rw [h1.1]; decide)]
        exact ⟨by show (ticked T q tick (countB T q c)).at_ ≤ tk; rw [h1.2.1]; exact ht, fun _ => ⟨by show (ticked T q tick (countB T q c)).at_ = tk; rw [h1.2.1]; omega, by show (ticked T q tick (countB T q c)).index = 0; rw [h1.2.2.1, ← h6]; rfl⟩⟩
theorem runB_red {S : Sys} {q : SeqD} {l : List DisD} {of_ tk : Int} (ok : SysOk S) (hr : q.reds = [⟨⟨3, of_, 100, 200⟩, tk⟩]) (hv : (seqB S.p q && dissB S.p l) = true) :
    (runB S q l).2.1.at_ ≤ tk ∧ ((runB S q l).2.1.why = 3 → (runB S q l).2.1.at_ = tk ∧ (runB S q l).2.1.index = 0) := by
  unfold runB
  rw [if_pos hv]
  have h1 : redOk S.p (q.red 0) = true := by
    rw [Bool.and_eq_true] at hv
    have h2 := hv.1
    unfold seqB at h2
    simp only [Bool.and_eq_true] at h2
    exact allN_iff.1 h2.2 0 (by rw [hr]; exact Nat.one_pos)
  have hred : q.red 0 = ⟨⟨3, of_, 100, 200⟩, tk⟩ := by unfold SeqD.red; rw [hr]; rfl
  rw [hred] at h1
  unfold redOk needOk needB at h1
  simp only [Bool.and_eq_true] at h1
  have ht := inB_iff.1 h1.2
  have ho : inB of_ 0 (S.p.valves.length - 1) = true := by simpa using h1.1
  exact runF_red hr 10001 0 S _ ok ho rfl (by omega) (by omega)
end Go.Proofs.YtogobjmmgjfjjaaGreat
/- What is proved: what the form's reading of a test and of two numbers says of the cells. Conditions: those that each lemma states. -/
namespace Go.Proofs.YtogobjmmgjfjjaaGreat
open Go.ChangeShapes Go.WideShapes Go.ChangeAt Go.RowKit

section
variable {H : Type} {enc : TypeId × Value → H} {w : World} {cs : List Value}
theorem und_disS : Tryz.prog.underlying 93 = some (.struct (structOf Tryz.prog 93)) := by kernel_rfl
theorem und_testS : Tryz.prog.underlying 83 = some (.struct (structOf Tryz.prog 83)) := by kernel_rfl
theorem rwDiss (h : RdW enc Tryz.prog w 81 cs) : ∃ (A : Option Addr) (c : Nat) (l : List DisD), cs = [.slice A l.length c] ∧ DisAt w w.heap.size A l := by
  obtain ⟨A, c, l, e, _, hs, _⟩ := h.list disC (fun _ => True) dis0 (e := 93) (by kernel_rfl) (k := 4) (by kernel_rfl) (by omega) (fun l _ hr => by
    obtain ⟨_, a, b, c, d, e0, e1, e2, e3⟩ := rwFour hr und_disS (by kernel_rfl)
    refine ⟨⟨a, b, c, d⟩, trivial, fun j hj => ?_⟩
    match j, hj with
    | 0, _ => exact e0
    | 1, _ => exact e1
    | 2, _ => exact e2
    | 3, _ => exact e3)
  exact ⟨A, c, l, e, hs⟩
def testA (y : QV) (q : SeqD) (A : Option Addr) (n c : Nat) : Array Value := #[.slice y.sA q.steps.length y.sc, .slice y.rA q.reds.length y.rc, .slice y.aA q.abort.length y.ac, .slice A n c]
set_option maxRecDepth 100000 in
theorem arg_test {base : Nat} {v : Value} (ho : Value.okWide Tryz.prog w .any base 83 v) (h : RdW enc Tryz.prog w 83 v.cells.toList) :
    ∃ (y : QV) (q : SeqD) (A : Option Addr) (c : Nat) (l : List DisD), v = .agg (testA y q A l.length c) ∧ SeqAt w w.heap.size y q ∧ DisAt w w.heap.size A l := by
  obtain ⟨cs, rfl⟩ := okWide_str (P := Tryz.prog) (t := 83) und_testS ho
  obtain ⟨h1, h2⟩ := h.fields (l := [(43, 0), (81, 3)]) und_testS (by kernel_rfl)
  obtain ⟨_, y, q, e, hp⟩ := rwSeq (h2 (43, 0) (by simp))
  obtain ⟨A, c, l, e3, hs⟩ := rwDiss (h2 (81, 3) (by simp))
  rw [show Tryz.prog.cellsOf 81 = 1 from by kernel_rfl] at e3
  rw [show Tryz.prog.cellsOf 83 = 4 from by kernel_rfl] at h1
  rw [show Tryz.prog.cellsOf 43 = 3 from by kernel_rfl] at e
  have g : ∀ j, j < 3 → (Value.agg cs).cells.toList[j]? = (seqA y q)[j]? := fun j hj => by
    have := e j
    simpa [List.getElem?_take, hj] using this
  exact ⟨y, q, A, c, l, congrArg Value.agg (toList4 (cs := cs) h1 (g 0 (by omega)) (g 1 (by omega)) (g 2 (by omega)) (row_get e3)), hp, hs⟩
theorem RdW.array2 {P : Program} {t e : TypeId} {n : Nat} (h : RdW enc P w t cs) (ht : P.underlying t = some (.array n e)) : cs.length = P.cellsOf t ∧ ∀ i, i < n → Rd enc P w e ((cs.drop (i * P.cellsOf e)).take (P.cellsOf e)) := h.rd.array ht
theorem toList2 {cs : Array Value} {a b : Value} (h0 : cs.toList.length = 2) (e0 : cs.toList[0]? = some a) (e1 : cs.toList[1]? = some b) : cs = #[a, b] := by
  obtain ⟨l⟩ := cs
  simp only at h0 e0 e1
  match l, h0 with
  | [x0, x1], _ => simp at e0 e1; subst e0; subst e1; rfl
set_option maxRecDepth 100000 in
theorem arg_int2 {base : Nat} {v : Value} (ho : Value.okWide Tryz.prog w .any base 65 v) (h : RdW enc Tryz.prog w 65 v.cells.toList) :
    ∃ a b : Int, v = .agg #[.int .i64 a, .int .i64 b] := by
  obtain ⟨cs, rfl⟩ := okWide_arr (P := Tryz.prog) Tryz.underlying65 ho
  obtain ⟨h1, h2⟩ := h.array2 (e := 3) (n := 2) (by kernel_rfl)
  rw [show Tryz.prog.cellsOf 65 = 2 from by kernel_rfl] at h1
  obtain ⟨a, e0, _⟩ := (h2 0 (by omega)).int und_int
  obtain ⟨b, e1, _⟩ := (h2 1 (by omega)).int und_int
  rw [cells_int] at e0 e1
  exact ⟨a, b, congrArg Value.agg (toList2 (cs := cs) h1 (row_get (j := 0) e0) (row_get (j := 1) e1))⟩
end
end Go.Proofs.YtogobjmmgjfjjaaGreat
/- What is proved: the law EngineReds answers true. Conditions: the plant and the test lie in memory. -/
namespace Go.Proofs.YtogobjmmgjfjjaaGreat
open Go.RowKit

def withRed (q : SeqD) (a b : Int) : SeqD := { q with reds := [⟨⟨3, a, 100, 200⟩, b⟩] }
def withRedY (y : QV) (nb : Nat) : QV := { y with rA := some ⟨nb, 0, none⟩, rc := 1 }
theorem withRed_at {w wx z : World} {X : SX} {y : QV} {q : SeqD} {a b : Int} {nb B : Nat} (hq : SeqAt w B y q) (hw : Below B w wx) (hB : B ≤ wx.heap.size) (hX : B ≤ X.lo) (hlo : X.lo ≤ X.sb ∧ X.lo ≤ X.tb ∧ X.lo ≤ X.cb) (hhi : X.sb < nb ∧ X.tb < nb ∧ X.cb < nb)
    (hn : Bk wx nb 96 #[.int .i64 3, .int .i64 a, .int .i64 100, .int .i64 200, .int .i64 b]) (hc : Chg X wx z) : SeqAt z z.heap.size (withRedY y nb) (withRed q a b) := by
  have hz : Below B w z := hw.trans (hc.below hB (by omega) (by omega) (by omega))
  have h2 := (hq.below hz).mono (B' := z.heap.size) (by have := hc.size; omega)
  have hnz : Bk z nb 96 #[.int .i64 3, .int .i64 a, .int .i64 100, .int .i64 200, .int .i64 b] := (hc.block nb hn.lt (by omega) (by omega) (by omega)).trans hn
  refine ⟨h2.steps, h2.so, h2.sn, ⟨by show 1 ≤ 9223372036854775807; omega, fun _ => ⟨nb, 0, rfl, by have := hn.lt; have := hc.size; omega, fun i hi j hj => ?_⟩⟩, h2.abort⟩
  obtain rfl : i = 0 := by have : i < 1 := hi; omega
  have hcell : z.cell? ⟨nb, 0 + 0 * 5 + j, none⟩ = (#[.int .i64 3, .int .i64 a, .int .i64 100, .int .i64 200, .int .i64 b] : Array Value)[j]? := by rw [hnz.cell]; simp
  rw [hcell]
  match j, hj with
  | 0, _ => rfl
  | 1, _ => rfl
  | 2, _ => rfl
  | 3, _ => rfl
  | 4, _ => rfl

theorem SysAt.older {X : SX} {wr w1 : World} {T : Sys} {g : Nat} (h : SysAt wr X T) (ho : Only g wr w1) (hg : g < X.lo) : SysAt w1 X T := h.keep (fun b hb _ => ho.block b (by omega)) (by rw [ho.size]; exact Nat.le_refl _)

set_option maxRecDepth 100000 in
set_option maxHeartbeats 16000000 in
theorem reds_any (w : World) (x : PV) (p : PlantD) (hp : PlantAt w w.heap.size x p) (y : QV) (q : SeqD) (hq : SeqAt w w.heap.size y q) (A : Option Addr) (cc : Nat) (l : List DisD) (hl : DisAt w w.heap.size A l) (a b : Int) :
    Calls Tryz.prog 10 #[.agg (plantA x p), .agg (testA y q A l.length cc), .agg #[.int .i64 a, .int .i64 b]] w fun e w' => e = .returned (.bool true) ∧ Below w.heap.size w w' := by
  obtain ⟨W, hW⟩ : ∃ W, W = ((w.alloc (.cells (plantA x p) 27)).alloc (.cells (testA y q A l.length cc) 83)).alloc (.cells #[.int .i64 a, .int .i64 b] 65) := ⟨_, rfl⟩
  have hbW : Below w.heap.size w W := by rw [hW]; exact (((Below.refl _ _).alloc (Nat.le_refl _) _).alloc (by simp) _).alloc (by simp; omega) _
  have hWs : W.heap.size = w.heap.size + 3 := by rw [hW]; simp
  have hb0 : Bk W w.heap.size 27 (plantA x p) := by rw [hW]; exact ((Bk.new _ _ _).alloc _).alloc _
  have hb1 : Bk W (w.heap.size + 1) 83 (testA y q A l.length cc) := by rw [hW]; exact (Bk.newAt _ _ _ _ (by simp)).alloc _
  have hb2 : Bk W (w.heap.size + 1 + 1) 65 #[.int .i64 a, .int .i64 b] := by rw [hW]; exact Bk.newAt _ _ _ _ (by simp)
  have HC : Hid (∀ wx, Below W.heap.size W wx → (wx.cell? ⟨w.heap.size, 0, none⟩ = some (.slice x.tA p.tanks.length x.tc) ∧ wx.cell? ⟨w.heap.size, 1, none⟩ = some (.slice x.vA p.valves.length x.vc) ∧
      wx.cell? ⟨w.heap.size, 2, none⟩ = some (.slice x.lA p.lines.length x.lc) ∧ wx.cell? ⟨w.heap.size, 3, none⟩ = some (.slice x.nA p.never.length x.nc)) ∧
      wx.cell? ⟨w.heap.size + 1, 0, none⟩ = some (.slice y.sA q.steps.length y.sc) ∧ wx.cell? ⟨w.heap.size + 1, 1, none⟩ = some (.slice y.rA q.reds.length y.rc) ∧ wx.cell? ⟨w.heap.size + 1, 2, none⟩ = some (.slice y.aA q.abort.length y.ac) ∧ wx.cell? ⟨w.heap.size + 1, 3, none⟩ = some (.slice A l.length cc)) := Lib.hid fun wx hx =>
    have h0 := hb0.below hx hb0.lt
    have h1 := hb1.below hx hb1.lt
    ⟨⟨h0.cell 0, h0.cell 1, h0.cell 2, h0.cell 3⟩, h1.cell 0, h1.cell 1, h1.cell 2, h1.cell 3⟩
  have HT1 : Hid (∀ wx, Below W.heap.size W wx → Bk wx (w.heap.size + 1) 83 (testA y q A l.length cc) ∧ Bk wx (w.heap.size + 1 + 1) 65 #[.int .i64 a, .int .i64 b]) := Lib.hid fun wx hx => ⟨hb1.below hx hb1.lt, hb2.below hx hb2.lt⟩
  have HP : Hid (∀ wx, Below W.heap.size W wx → PlantAt wx wx.heap.size x p) := Lib.hid fun wx hx => ((hp.below hbW).below (hx.mono hbW.size)).mono (Nat.le_trans hbW.size hx.size)
  have HQ : Hid (∀ wx, Below W.heap.size W wx → SeqAt wx wx.heap.size y q) := Lib.hid fun wx hx => ((hq.below hbW).below (hx.mono hbW.size)).mono (Nat.le_trans hbW.size hx.size)
  have HQ0 := Lib.hid hq
  have HL0 := Lib.hid hl
  have HB := Lib.hid hbW
  have HW := Lib.hid hW
  have HWS := Lib.hid hWs
  have HA := Lib.hid awake_any
  simp only [plantA, testA] at HW
  clear hp hq hl hbW hb0 hb1 hb2 hW hWs
  have HG := Lib.hid fun wx hx => great_any wx x p (HP.out wx hx)
  have HLO := Lib.hid fun wx hx => long_any wx y q (HQ.out wx hx)
  have HN := Lib.hid fun wx hx => new_any wx x p (HP.out wx hx)
  simp only [plantA, seqA] at HG HLO HN
  have END : Hid (∀ wx, Below W.heap.size W wx → Calls Tryz.prog 14 #[] wx fun e w' => e = .returned (.bool true) ∧ Below w.heap.size w w') := Lib.hid fun wx hx =>
    (HA.out wx).mono fun e w' ⟨he, hb⟩ => ⟨he, HB.out.trans ((hx.trans (hb.mono hx.size)).mono HB.out.size)⟩
  dsimp only [plantA, testA]
  obtain ⟨⟨c0, c1, c2, c3⟩, t0, t1, t2, t3⟩ := HC.out W (Below.refl _ _)
  go_enter Tryz.func10, Tryz.ntmps10
  go_wp2_with fail
  rw [← HW.out]
  refine (HN.out W (Below.refl _ _)).mono ?_
  rintro e w1 ⟨hb1, hnew⟩
  have HB1 : Hid (Below W.heap.size W w1) := Lib.hid hb1
  clear hb1 c0 c1 c2 c3 t0 t1 t2 t3
  by_cases hpb : plantB p = true
  case neg =>
    rw [if_neg hpb] at hnew
    subst hnew
    clear hpb
    obtain ⟨⟨c0, c1, c2, c3⟩, t0, t1, t2, t3⟩ := HC.out w1 HB1.out
    go_wp2_with fail
    refine (HG.out w1 HB1.out).mono ?_
    rintro e w2 ⟨b1, rfl, _, hb2⟩
    have HB2 : Hid (Below W.heap.size W w2) := Lib.hid (HB1.out.trans (hb2.mono HB1.out.size))
    clear hb2 c0 c1 c2 c3 t0 t1 t2 t3
    cases b1 with
    | true =>
      go_wp2_with fail
      refine (END.out w2 HB2.out).mono ?_
      rintro e w3 ⟨rfl, hb3⟩
      go_wp2_with fail
      go_ret
      exact ⟨rfl, hb3⟩
    | false =>
      obtain ⟨⟨c0, c1, c2, c3⟩, t0, t1, t2, t3⟩ := HC.out w2 HB2.out
      go_wp2_with fail
      refine (HLO.out w2 HB2.out).mono ?_
      rintro e w3 ⟨b2, rfl, hb3⟩
      have HB3 : Hid (Below W.heap.size W w3) := Lib.hid (HB2.out.trans (hb3.mono HB2.out.size))
      clear hb3 c0 c1 c2 c3 t0 t1 t2 t3
      obtain ⟨_, t0, t1, t2, t3⟩ := HC.out w3 HB3.out
      cases b2 with
      | true =>
        go_wp2_with fail
        refine (END.out w3 HB3.out).mono ?_
        rintro e w4 ⟨rfl, hb4⟩
        go_wp2_with fail
        go_ret
        exact ⟨rfl, hb4⟩
      | false =>
        by_cases h70 : (70 : Int) < (l.length : Int)
        · go_wp2_with fail
          refine (END.out w3 HB3.out).mono ?_
          rintro e w4 ⟨rfl, hb4⟩
          go_wp2_with fail
          go_ret
          exact ⟨rfl, hb4⟩
        · go_wp2_with fail
          refine (END.out w3 HB3.out).mono ?_
          rintro e w4 ⟨rfl, hb4⟩
          go_wp2_with fail
          go_ret
          exact ⟨rfl, hb4⟩
  case pos =>
    rw [if_pos hpb] at hnew
    obtain ⟨X, rfl, hsys, hlo⟩ := hnew
    have HSY := Lib.hid hsys
    have HXL := Lib.hid (show W.heap.size ≤ X.lo from hlo)
    clear hpb hsys hlo
    obtain ⟨⟨c0, c1, c2, c3⟩, t0, t1, t2, t3⟩ := HC.out w1 HB1.out
    go_wp2_with fail
    refine (HG.out w1 HB1.out).mono ?_
    rintro e w2 ⟨b1, rfl, _, hb2⟩
    have HB2 : Hid (Below W.heap.size W w2) := Lib.hid (HB1.out.trans (hb2.mono HB1.out.size))
    have HS2 := Lib.hid (HSY.out.below hb2)
    clear hb2 c0 c1 c2 c3 t0 t1 t2 t3
    cases b1 with
    | true =>
      go_wp2_with fail
      refine (END.out w2 HB2.out).mono ?_
      rintro e w3 ⟨rfl, hb3⟩
      go_wp2_with fail
      go_ret
      exact ⟨rfl, hb3⟩
    | false =>
      obtain ⟨⟨c0, c1, c2, c3⟩, t0, t1, t2, t3⟩ := HC.out w2 HB2.out
      go_wp2_with fail
      refine (HLO.out w2 HB2.out).mono ?_
      rintro e w3 ⟨b2, rfl, hb3⟩
      have HB3 : Hid (Below W.heap.size W w3) := Lib.hid (HB2.out.trans (hb3.mono HB2.out.size))
      have HS3 := Lib.hid (HS2.out.below hb3)
      clear hb3 c0 c1 c2 c3 t0 t1 t2 t3 HS2 HSY
      obtain ⟨_, t0, t1, t2, t3⟩ := HC.out w3 HB3.out
      cases b2 with
      | true =>
        go_wp2_with fail
        refine (END.out w3 HB3.out).mono ?_
        rintro e w4 ⟨rfl, hb4⟩
        go_wp2_with fail
        go_ret
        exact ⟨rfl, hb4⟩
      | false =>
        by_cases h70 : (70 : Int) < (l.length : Int)
        · go_wp2_with fail
          refine (END.out w3 HB3.out).mono ?_
          rintro e w4 ⟨rfl, hb4⟩
          go_wp2_with fail
          go_ret
          exact ⟨rfl, hb4⟩
        go_upto_region 4 with (fail)
        clear t0 t1 t2 t3
        have ft := (HT1.out w3 HB3.out).1.free 1
        have t1 := ((HT1.out w3 HB3.out).1.cell 1)
        have r0 := ((HT1.out w3 HB3.out).2.cell 0)
        have r1 := ((HT1.out w3 HB3.out).2.cell 1)
        simp [testA] at t1 r0 r1
        have hlt3 : w.heap.size + 3 ≤ w3.heap.size := by rw [← HWS.out]; exact HB3.out.size
        have hlt4 : w.heap.size + 1 < w3.heap.size := by omega
        have hlt5 : w.heap.size + 1 + 1 < w3.heap.size := by omega
        go_upto_region 5 with (fail)
        have hO := Only.setCell w3 (w.heap.size + 1) 1 (.slice (some ⟨w3.heap.size, 0, none⟩) 1 1)
        have hsz3 : (w3.setCell ⟨w.heap.size + 1, 1, none⟩ (.slice (some ⟨w3.heap.size, 0, none⟩) 1 1)).heap.size = w3.heap.size := hO.size
        have hal : Below (w3.setCell ⟨w.heap.size + 1, 1, none⟩ (.slice (some ⟨w3.heap.size, 0, none⟩) 1 1)).heap.size (w3.setCell ⟨w.heap.size + 1, 1, none⟩ (.slice (some ⟨w3.heap.size, 0, none⟩) 1 1)) ((w3.setCell ⟨w.heap.size + 1, 1, none⟩ (.slice (some ⟨w3.heap.size, 0, none⟩) 1 1)).alloc (.cells #[.int .i64 3, .int .i64 a, .int .i64 100, .int .i64 200, .int .i64 b] 96)) := (Below.refl _ _).alloc (Nat.le_refl _) _
        have HT4 : Hid (Bk ((w3.setCell ⟨w.heap.size + 1, 1, none⟩ (.slice (some ⟨w3.heap.size, 0, none⟩) 1 1)).alloc (.cells #[.int .i64 3, .int .i64 a, .int .i64 100, .int .i64 200, .int .i64 b] 96)) (w.heap.size + 1) _ _) := Lib.hid (((HT1.out w3 HB3.out).1.set 1 (.slice (some ⟨w3.heap.size, 0, none⟩) 1 1)).alloc (.cells #[.int .i64 3, .int .i64 a, .int .i64 100, .int .i64 200, .int .i64 b] 96))
        have HR4 := Lib.hid (((HT1.out w3 HB3.out).2.only hO (by omega)).alloc (.cells #[.int .i64 3, .int .i64 a, .int .i64 100, .int .i64 200, .int .i64 b] 96))
        have HN4 : Hid (Bk ((w3.setCell ⟨w.heap.size + 1, 1, none⟩ (.slice (some ⟨w3.heap.size, 0, none⟩) 1 1)).alloc (.cells #[.int .i64 3, .int .i64 a, .int .i64 100, .int .i64 200, .int .i64 b] 96)) w3.heap.size 96 #[.int .i64 3, .int .i64 a, .int .i64 100, .int .i64 200, .int .i64 b]) := Lib.hid (Bk.newAt _ _ _ _ hsz3.symm)
        have HS4 := Lib.hid ((HS3.out.older hO (by have := HXL.out; have := HWS.out; omega)).below hal)
        have HB4 : Hid (Below w.heap.size w ((w3.setCell ⟨w.heap.size + 1, 1, none⟩ (.slice (some ⟨w3.heap.size, 0, none⟩) 1 1)).alloc (.cells #[.int .i64 3, .int .i64 a, .int .i64 100, .int .i64 200, .int .i64 b] 96))) := Lib.hid (((HB.out.trans (HB3.out.mono HB.out.size)).trans (hO.below (by omega))).trans (hal.mono (by omega)))
        have hhi : X.sb < w3.heap.size ∧ X.tb < w3.heap.size ∧ X.cb < w3.heap.size := by have := HS3.out.hi; omega
        obtain ⟨nb, hnb⟩ : ∃ nb, w3.heap.size = nb := ⟨_, rfl⟩
        rw [hnb] at HT4 HN4 HS4 HB4 hhi ⊢
        obtain ⟨w4, hw4⟩ : ∃ w4, (w3.setCell ⟨w.heap.size + 1, 1, none⟩ (.slice (some ⟨nb, 0, none⟩) 1 1)).alloc (.cells #[.int .i64 3, .int .i64 a, .int .i64 100, .int .i64 200, .int .i64 b] 96) = w4 := ⟨_, rfl⟩
        rw [hnb] at HR4
        rw [hw4] at HT4 HR4 HN4 HS4 HB4 ⊢
        have u0 := HT4.out.cell 0; have u1 := HT4.out.cell 1; have u2 := HT4.out.cell 2; have u3 := HT4.out.cell 3
        simp [testA] at u0 u1 u2 u3
        have hlo4 : w.heap.size ≤ X.lo := by have := HXL.out; have := HWS.out; omega
        have hrun : Calls Tryz.prog 35 #[.pointer (some ⟨X.sb, 0, none⟩), .agg #[.slice y.sA q.steps.length y.sc, .slice (some ⟨nb, 0, none⟩) 1 1, .slice y.aA q.abort.length y.ac], .slice A l.length cc] w4 (RunPost X w4 (startB p) (withRed q a b) l) :=
          run_any w4 X (startB p) HS4.out (withRedY y nb) (withRed q a b) (fun z hz => withRed_at HQ0.out HB4.out HB4.out.size hlo4 ⟨HS4.out.lo.1, HS4.out.lo.2.1, HS4.out.lo.2.2.1⟩ hhi HN4.out hz) A cc l (fun z hz => (Sl.below HL0.out (HB4.out.trans (hz.below HB4.out.size (by have := HS4.out.lo; omega) (by have := HS4.out.lo; omega) (by have := HS4.out.lo; omega)))).mono (by have := HB4.out.size; have := hz.size; omega))
        have HRUN := Lib.hid hrun
        have HCB : Hid (∀ z, Chg X w4 z → Below w.heap.size w z) := Lib.hid fun z hz => HB4.out.trans (hz.below HB4.out.size (by have := HS4.out.lo; omega) (by have := HS4.out.lo; omega) (by have := HS4.out.lo; omega))
        have HOK := Lib.hid HS4.out.ok
        have HXS : Hid (w.heap.size + 3 ≤ X.sb ∧ w.heap.size + 3 ≤ X.tb ∧ w.heap.size + 3 ≤ X.cb) := Lib.hid (by have := HXL.out; have := HWS.out; have := HS4.out.lo; omega)
        clear ft t1 r0 r1 hlt3 hlt4 hlt5 hsz3 hal hO hhi hnb hw4 hlo4 hrun HS3 HS4 HT4 HN4
        go_wp2_with fail
        refine HRUN.out.mono ?_
        rintro e w5 ⟨rfl, _, hc5⟩
        have HB5 := Lib.hid (HCB.out w5 hc5)
        have HR5 : Hid (Bk w5 (w.heap.size + 1 + 1) 65 #[.int .i64 a, .int .i64 b]) := Lib.hid ((hc5.block _ HR4.out.lt (by have := HXS.out; omega) (by have := HXS.out; omega) (by have := HXS.out; omega)).trans HR4.out)
        have HA5 : Hid (∀ wx, Below w5.heap.size w5 wx → Calls Tryz.prog 14 #[] wx fun e w' => e = .returned (.bool true) ∧ Below w.heap.size w w') := Lib.hid fun wx hx =>
          (HA.out wx).mono fun e w' ⟨he, hb⟩ => ⟨he, HB5.out.trans ((hx.mono HB5.out.size).trans (hb.mono (by have := hx.size; have := HB5.out.size; omega)))⟩
        have HAL : Hid (∀ o, Below w5.heap.size w5 (w5.alloc o)) := Lib.hid fun o => (Below.refl _ _).alloc (Nat.le_refl _) _
        have r1 := HR5.out.cell 1
        simp at r1
        have hlt5 := HR5.out.lt
        clear hc5 u0 u1 u2 u3 HRUN HR4
        by_cases hv : (seqB (startB p).p (withRed q a b) && dissB (startB p).p l) = true
        · obtain ⟨h1, h2⟩ := runB_red HOK.out (q := withRed q a b) (of_ := a) (tk := b) rfl hv
          have h3 := (runB_ends hv (startB_stick p l)).2
          rw [h3]
          clear h3 hv
          generalize (runB (startB p) (withRed q a b) l).2.1 = E at *
          obtain ⟨why, at_, idx, ref⟩ := E
          simp only at h1 h2
          simp only [endA]
          by_cases hw : why = 3
          · subst hw
            obtain ⟨rfl, rfl⟩ := h2 rfl
            clear h2
            go_wp2_with fail
            refine (HA5.out _ (HAL.out _)).mono ?_
            rintro e w6 ⟨rfl, hb6⟩
            go_wp2_with fail
            go_ret
            exact ⟨rfl, hb6⟩
          · clear h2
            go_wp2_with fail
            refine (HA5.out _ (HAL.out _)).mono ?_
            rintro e w6 ⟨rfl, hb6⟩
            go_wp2_with fail
            go_ret
            exact ⟨rfl, hb6⟩
        · rw [runB_no hv]
          clear hv
          simp only [endA, end0]
          go_wp2_with fail
          refine (HA5.out _ (HAL.out _)).mono ?_
          rintro e w6 ⟨rfl, hb6⟩
          go_wp2_with fail
          go_ret
          exact ⟨rfl, hb6⟩
end Go.Proofs.YtogobjmmgjfjjaaGreat
