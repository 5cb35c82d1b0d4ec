/- What is proved: the texts Y1 Lt, one behind the other; each says at its head what it proves, and under which conditions. -/
import Derived.Test.YtogobjmmgjfjjaaGreatdPRuns11
/- What is proved: plain laws of a run of a sequence: at which tick it ends; a redline that is never kept ends it at the tick that is its Ticks; where valves are behind an abort. Conditions: those that each lemma states. -/
namespace Go.Proofs.YtogobjmmgjfjjaaGreat
open Go.RowKit

theorem SysOk.vs {S : Sys} (ok : SysOk S) : ValvesOk S.p := by
  have hv := ok.valid
  unfold plantB at hv
  simp only [Bool.and_eq_true] at hv
  exact valvesOk_of _ hv.1.1.1.1.2

/-! Who sticks. -/
def stuckK (l : List DisD) (v : Int) : Nat → Bool
  | 0 => false
  | k + 1 => stuckK l v k || (decide ((l.getD k dis0).kind = 0) && decide ((l.getD k dis0).of_ = v))
theorem flowB_rest (S : Sys) (l : LineD) : (flowB S l).at_ = S.at_ ∧ (flowB S l).stuck = S.stuck := by
  unfold flowB; simp only; split <;> split <;> exact ⟨rfl, rfl⟩
theorem linesK_rest (S : Sys) (k : Nat) : (linesK S k).at_ = S.at_ ∧ (linesK S k).stuck = S.stuck := by
  induction k with
  | zero => exact ⟨rfl, rfl⟩
  | succ k ih =>
    unfold linesK
    split
    · exact ⟨(flowB_rest _ _).1.trans ih.1, (flowB_rest _ _).2.trans ih.2⟩
    · exact ih
theorem tanksK_rest (S : Sys) (k : Nat) : (tanksK S k).at_ = S.at_ ∧ (tanksK S k).stuck = S.stuck := by
  induction k with
  | zero => exact ⟨rfl, rfl⟩
  | succ k ih => exact ih
theorem tickB_rest (S : Sys) : (tickB S).at_ = movedB S.p S.at_ S.stuck ∧ (tickB S).stuck = S.stuck := by
  unfold tickB
  exact ⟨(tanksK_rest _ _).1.trans ((linesK_rest _ _).1), (tanksK_rest _ _).2.trans ((linesK_rest _ _).2)⟩
theorem orderB_stuck (S : Sys) (v : Int) (o : Bool) : (orderB S v o).2.stuck = S.stuck := by
  unfold orderB; split
  · split <;> rfl
  · rfl
theorem abortB_stuck (l : List LitD) : ∀ S, (abortB S l).1.stuck = S.stuck := by
  induction l with
  | nil => intro S; rfl
  | cons o os ih => intro S; exact (ih _).trans (orderB_stuck _ _ _)
/-- Only what is told to stick does. -/
def StickOk (l : List DisD) (S : Sys) : Prop := ∀ v : Nat, S.stuck v = true → stuckK l v l.length = true
/-! How a tick ends. -/
theorem ticked_cases (S : Sys) (q : SeqD) (tick : Int) (c : Nat → Int) :
    ((ticked S q tick c).why = -1 ∧ moreF q tick = true ∧ firstN (hurtF q c) q.reds.length 0 = none) ∨
    ((ticked S q tick c).why = 0 ∧ (ticked S q tick c).at_ = tick ∧ (ticked S q tick c).index = 0 ∧ (ticked S q tick c).refused = 0 ∧ moreF q tick = false) ∨
    ((ticked S q tick c).why = 2 ∧ (ticked S q tick c).at_ = tick) ∨
    ∃ i, (ticked S q tick c).why = 3 ∧ (ticked S q tick c).at_ = tick ∧ (ticked S q tick c).index = (i : Nat) ∧ firstN (hurtF q c) q.reds.length 0 = some i := by
  unfold ticked
  cases h1 : firstN (hurtF q c) q.reds.length 0 with
  | some i => exact Or.inr (Or.inr (Or.inr ⟨i, rfl, rfl, rfl, rfl⟩))
  | none =>
    cases h2 : firstN (missF S q tick) q.steps.length 0 with
    | some i => exact Or.inr (Or.inr (Or.inl ⟨rfl, rfl⟩))
    | none =>
      cases h3 : moreF q tick with
      | true => exact Or.inl ⟨rfl, rfl, rfl⟩
      | false => exact Or.inr (Or.inl ⟨rfl, rfl, rfl, rfl, rfl⟩)
theorem onceB_hit {q : SeqD} {l : List DisD} {tick : Int} {S : Sys} {c : Nat → Int} {i : Nat} (h : (stepsF q tick q.steps.length 0 (wrongB S l tick)).2 = some i) :
    onceB q l tick S c = ⟨(stepsF q tick q.steps.length 0 (wrongB S l tick)).1, c, ⟨1, tick, i, 0⟩⟩ := by unfold onceB; rw [h]
theorem onceB_on {q : SeqD} {l : List DisD} {tick : Int} {S : Sys} {c : Nat → Int} (h : (stepsF q tick q.steps.length 0 (wrongB S l tick)).2 = none) :
    onceB q l tick S c = ⟨tickB (stepsF q tick q.steps.length 0 (wrongB S l tick)).1, countB (tickB (stepsF q tick q.steps.length 0 (wrongB S l tick)).1) q c,
      ticked (tickB (stepsF q tick q.steps.length 0 (wrongB S l tick)).1) q tick (countB (tickB (stepsF q tick q.steps.length 0 (wrongB S l tick)).1) q c)⟩ := by unfold onceB; rw [h]
theorem onceB_cases (q : SeqD) (l : List DisD) (tick : Int) (S : Sys) (c : Nat → Int) :
    ((onceB q l tick S c).e.why = -1 ∧ moreF q tick = true) ∨
    ((onceB q l tick S c).e.why = 0 ∧ (onceB q l tick S c).e.at_ = tick ∧ (onceB q l tick S c).e.index = 0 ∧ (onceB q l tick S c).e.refused = 0 ∧ moreF q tick = false) ∨
    (1 ≤ (onceB q l tick S c).e.why ∧ (onceB q l tick S c).e.at_ = tick) := by
  cases h : (stepsF q tick q.steps.length 0 (wrongB S l tick)).2 with
  | some i => rw [onceB_hit h]; exact Or.inr (Or.inr ⟨by show (1 : Int) ≤ 1; decide, rfl⟩)
  | none =>
    rw [onceB_on h]
    rcases ticked_cases (tickB (stepsF q tick q.steps.length 0 (wrongB S l tick)).1) q tick (countB (tickB (stepsF q tick q.steps.length 0 (wrongB S l tick)).1) q c) with h1 | h1 | h1 | ⟨i, h1⟩
    · exact Or.inl ⟨h1.1, h1.2.1⟩
    · exact Or.inr (Or.inl h1)
    · exact Or.inr (Or.inr ⟨by rw [h1.1]; decide, h1.2⟩)
    · exact Or.inr (Or.inr ⟨by rw [h1.1]; decide, h1.2.1⟩)
/-- How a run ends. -/
structure EndOk (q : SeqD) (l : List DisD) (S : Sys) (r : Sys × EndD) : Prop where
  at0 : 0 ≤ r.2.at_
  last : r.2.at_ = 0 ∨ ∃ k, k < q.steps.length ∧ r.2.at_ ≤ (q.step k).at_
  how : (r.2.why = 0 ∧ r.2.index = 0 ∧ r.2.refused = 0 ∧ moreF q r.2.at_ = false) ∨ (1 ≤ r.2.why ∧ ∃ U, Keeps S U ∧ StickOk l U ∧ r.1 = (abortB U q.abort).1 ∧ r.2.refused = (abortB U q.abort).2)
theorem abortB_count (l : List LitD) : ∀ S, 0 ≤ (abortB S l).2 ∧ (abortB S l).2 ≤ l.length := by
  induction l with
  | nil => intro S; exact ⟨Int.le_refl _, Int.le_refl _⟩
  | cons o os ih =>
    intro S
    have := ih (orderB S o.valve o.opn).2
    unfold abortB
    simp only [List.length_cons]
    split <;> omega
theorem EndOk.refused {q : SeqD} {l : List DisD} {S : Sys} {r : Sys × EndD} (h : EndOk q l S r) : 0 ≤ r.2.refused ∧ r.2.refused ≤ q.abort.length := by
  rcases h.how with h2 | ⟨h2, U, _, _, _, h3⟩
  · rw [h2.2.2.1]; omega
  · rw [h3]; exact abortB_count _ _

/-! Where valves are behind an abort of which no order was refused. -/
def wantsK (l : List LitD) (v travel : Int) : Nat → Int
  | 0 => -1
  | k + 1 => if (l.getD k lit0).valve = v then (if (l.getD k lit0).opn then travel else 0) else wantsK l v travel k
def target (S : Sys) (v : Nat) : Int := if (S.at_ v).opn then (S.p.valve v).travel else 0
theorem abortB_target {l : List LitD} {v : Nat} {p : PlantD} (n : Nat) : ∀ (k : Nat) (V : Sys), k + n = l.length → V.p = p → (0 ≤ wantsK l v (p.valve v).travel k → wantsK l v (p.valve v).travel k = target V v) → (abortB V (l.drop k)).2 = 0 →
    0 ≤ wantsK l v (p.valve v).travel l.length → wantsK l v (p.valve v).travel l.length = target (abortB V (l.drop k)).1 v := by
  induction n with
  | zero =>
    intro k V hk hp h h0 hw
    obtain rfl : k = l.length := by omega
    rw [abortB_end]
    exact h hw
  | succ n ih =>
    intro k V hk hp h h0 hw
    have hlt : k < l.length := by omega
    rw [abortB_step hlt] at h0 ⊢
    have hc := abortB_count (l.drop (k + 1)) (orderB V (l.getD k lit0).valve (l.getD k lit0).opn).2
    have he : (orderB V (l.getD k lit0).valve (l.getD k lit0).opn).1 = 0 := by
      apply Classical.byContradiction
      intro hn
      simp only [if_neg hn] at h0
      omega
    simp only [if_pos he, Int.add_zero] at h0
    refine ih (k + 1) (orderB V (l.getD k lit0).valve (l.getD k lit0).opn).2 (by omega) ((orderB_keeps _ _ _).1.trans hp) (fun hw2 => ?_) h0 hw
    have hin : inB (l.getD k lit0).valve 0 (V.p.valves.length - 1) = true ∧ (orderB V (l.getD k lit0).valve (l.getD k lit0).opn).2 = { V with at_ := wantB V.at_ (l.getD k lit0).valve.toNat (l.getD k lit0).opn } := by
      unfold orderB at he ⊢
      split
      · next h1 =>
        rw [if_pos h1] at he
        split
        · exact ⟨h1, rfl⟩
        · next h2 => rw [if_neg h2] at he; exact absurd he (by show ¬ (9 : Int) = 0; decide)
      · next h1 => rw [if_neg h1] at he; exact absurd he (by show ¬ (7 : Int) = 0; decide)
    obtain ⟨hin, hT⟩ := hin
    have hin2 := inB_iff.1 hin
    rw [hT]
    unfold wantsK at hw2 ⊢
    unfold target wantB
    simp only
    rw [hp]
    by_cases e : (l.getD k lit0).valve = v
    · have e2 : (v : Nat) = (l.getD k lit0).valve.toNat := by omega
      rw [if_pos e, if_pos e2]
    · have e2 : ¬ (v : Nat) = (l.getD k lit0).valve.toNat := by omega
      rw [if_neg e] at hw2 ⊢
      rw [if_neg e2]
      have := h hw2
      unfold target at this
      rw [hp] at this
      exact this
def ticksB (S : Sys) : Nat → Sys
  | 0 => S
  | n + 1 => tickB (ticksB S n)
theorem ticksB_keeps (S : Sys) (n : Nat) : Keeps S (ticksB S n) := by
  induction n with
  | zero => exact Keeps.refl _
  | succ n ih => exact ih.trans (tickB_keeps _)
theorem ticksB_spot {S : Sys} {v : Nat} (hv : v < S.p.valves.length) (hs : S.stuck v = false) (n : Nat) : (ticksB S n).stuck v = false ∧ ((ticksB S n).at_ v).opn = (S.at_ v).opn ∧ (0 ≤ (S.at_ v).place ∧ (S.at_ v).place ≤ (S.p.valve v).travel →
    0 ≤ ((ticksB S n).at_ v).place ∧ ((ticksB S n).at_ v).place ≤ (S.p.valve v).travel ∧ ((S.at_ v).opn = true → min ((S.at_ v).place + n) (S.p.valve v).travel ≤ ((ticksB S n).at_ v).place) ∧ ((S.at_ v).opn = false → ((ticksB S n).at_ v).place ≤ max ((S.at_ v).place - n) 0)) := by
  induction n with
  | zero => exact ⟨hs, rfl, fun h => ⟨h.1, h.2, fun _ => by show _ ≤ (S.at_ v).place; omega, fun _ => by show (S.at_ v).place ≤ _; omega⟩⟩
  | succ n ih =>
    obtain ⟨h1, h2, h3⟩ := ih
    have hp := (ticksB_keeps S n).1
    have ht := tickB_rest (ticksB S n)
    have hm : ((ticksB S (n + 1)).at_ v) = move1 (S.p.valve v).travel false ((ticksB S n).at_ v) := by
      show ((tickB (ticksB S n)).at_ v) = _
      rw [ht.1]
      unfold movedB movedK
      rw [hp, if_pos hv, h1]
    refine ⟨by show (tickB (ticksB S n)).stuck v = false; rw [ht.2]; exact h1, ?_, fun h => ?_⟩
    · rw [hm]; unfold move1; rw [if_neg (by decide)]; split <;> exact h2
    · obtain ⟨g1, g2, g3, g4⟩ := h3 h
      rw [hm]
      unfold move1
      rw [if_neg (by decide), h2]
      cases ho : (S.at_ v).opn with
      | true =>
        have g5 := g3 ho
        rw [if_pos rfl]
        simp only
        exact ⟨by omega, by omega, fun _ => by push_cast; omega, fun h => by cases h⟩
      | false =>
        have g5 := g4 ho
        rw [if_neg (by decide)]
        simp only
        exact ⟨by omega, by omega, (fun h => by cases h), fun _ => by push_cast; omega⟩
theorem ticks8 {S : Sys} (ok : SysOk S) {v : Nat} (hv : v < S.p.valves.length) (hs : S.stuck v = false) : ((ticksB S 8).at_ v).place = target S v := by
  have h := ticksB_spot hv hs 8
  have h1 := ok.spots.1 v hv
  have h2 := ok.vs.2 v hv
  obtain ⟨_, _, h3⟩ := h
  obtain ⟨g1, g2, g3, g4⟩ := h3 h1
  unfold target
  cases ho : (S.at_ v).opn with
  | true => have := g3 ho; rw [if_pos rfl]; omega
  | false => have := g4 ho; rw [if_neg (by decide)]; omega
theorem EndOk.valves {q : SeqD} {l : List DisD} {S : Sys} {r : Sys × EndD} (h : EndOk q l S r) (ok : SysOk S) (hw : r.2.why ≠ 0) (hr : r.2.refused ≤ 0) {v : Nat} (hv : v < S.p.valves.length) (hs : stuckK l v l.length = false) (hwant : 0 ≤ wantsK q.abort v (S.p.valve v).travel q.abort.length) :
    numOf (ticksB r.1 8) 3 v = wantsK q.abort v (S.p.valve v).travel q.abort.length := by
  rcases h.how with h2 | ⟨h2, U, u1, u2, u3, u4⟩
  · exact absurd h2.1 hw
  · have hc := abortB_count q.abort U
    have h0 : (abortB U q.abort).2 = 0 := by rw [← u4]; rw [← u4] at hc; omega
    have ht := abortB_target (l := q.abort) (v := v) (p := S.p) q.abort.length 0 U (by omega) u1.1 (fun hh => absurd hh (by unfold wantsK; omega)) (by rw [List.drop_zero]; exact h0) hwant
    rw [List.drop_zero, ← u3] at ht
    have hk : Keeps S r.1 := by rw [u3]; exact u1.trans (abortB_keeps _ _)
    have hst : r.1.stuck v = false := by
      rw [u3, abortB_stuck]
      cases hh : U.stuck v with
      | false => rfl
      | true => have := u2 v hh; rw [hs] at this; cases this
    rw [ht]
    exact ticks8 (hk.2 ok) (by rw [hk.1]; exact hv) hst
end Go.Proofs.YtogobjmmgjfjjaaGreat
/- What is proved: what the form's reading of a test and of two numbers says of the cells. Conditions: those that each lemma states. -/
namespace Go.Proofs.YtogobjmmgjfjjaaGreat
open Go.ChangeShapes Go.WideShapes Go.ChangeAt Go.RowKit

section
variable {H : Type} {enc : TypeId × Value → H} {w : World} {cs : List Value}
theorem und_disS : Tryz.prog.underlying 93 = some (.struct (structOf Tryz.prog 93)) := by kernel_rfl
theorem und_testS : Tryz.prog.underlying 83 = some (.struct (structOf Tryz.prog 83)) := by kernel_rfl
theorem rwDiss (h : RdW enc Tryz.prog w 81 cs) : ∃ (A : Option Addr) (c : Nat) (l : List DisD), cs = [.slice A l.length c] ∧ DisAt w w.heap.size A l := by
  obtain ⟨A, c, l, e, _, hs, _⟩ := h.list disC (fun _ => True) dis0 (e := 93) (by kernel_rfl) (k := 4) (by kernel_rfl) (by omega) (fun l _ hr => by
    obtain ⟨_, a, b, c, d, e0, e1, e2, e3⟩ := rwFour hr und_disS (by kernel_rfl)
    refine ⟨⟨a, b, c, d⟩, trivial, fun j hj => ?_⟩
    match j, hj with
    | 0, _ => exact e0
    | 1, _ => exact e1
    | 2, _ => exact e2
    | 3, _ => exact e3)
  exact ⟨A, c, l, e, hs⟩
def testA (y : QV) (q : SeqD) (A : Option Addr) (n c : Nat) : Array Value := #[.slice y.sA q.steps.length y.sc, .slice y.rA q.reds.length y.rc, .slice y.aA q.abort.length y.ac, .slice A n c]
set_option maxRecDepth 100000 in
theorem arg_test {base : Nat} {v : Value} (ho : Value.okWide Tryz.prog w .any base 83 v) (h : RdW enc Tryz.prog w 83 v.cells.toList) :
    ∃ (y : QV) (q : SeqD) (A : Option Addr) (c : Nat) (l : List DisD), v = .agg (testA y q A l.length c) ∧ SeqAt w w.heap.size y q ∧ DisAt w w.heap.size A l := by
  obtain ⟨cs, rfl⟩ := okWide_str (P := Tryz.prog) (t := 83) und_testS ho
  obtain ⟨h1, h2⟩ := h.fields (l := [(43, 0), (81, 3)]) und_testS (by kernel_rfl)
  obtain ⟨_, y, q, e, hp⟩ := rwSeq (h2 (43, 0) (by simp))
  obtain ⟨A, c, l, e3, hs⟩ := rwDiss (h2 (81, 3) (by simp))
  rw [show Tryz.prog.cellsOf 81 = 1 from by kernel_rfl] at e3
  rw [show Tryz.prog.cellsOf 83 = 4 from by kernel_rfl] at h1
  rw [show Tryz.prog.cellsOf 43 = 3 from by kernel_rfl] at e
  have g : ∀ j, j < 3 → (Value.agg cs).cells.toList[j]? = (seqA y q)[j]? := fun j hj => by
    have := e j
    simpa [List.getElem?_take, hj] using this
  exact ⟨y, q, A, c, l, congrArg Value.agg (toList4 (cs := cs) h1 (g 0 (by omega)) (g 1 (by omega)) (g 2 (by omega)) (row_get e3)), hp, hs⟩
end
end Go.Proofs.YtogobjmmgjfjjaaGreat
